/- Contracts and plain laws that the claims of this seat lean on, put together. -/
import Derived.Test.YtmhibpcbdbhfoaaDoorM2
import Derived.ProofKit
import Derived.OpenShut
namespace Go.Proofs.YtmhibpcbdbhfoaaDoor
open Go.RowKit Go.Fl

abbrev elW (a : Int × Sl × Int) : y_tunnel_sent := (a.1, a.2.1, a.2.2, ())
theorem wayV_get {hs : WayH} {j : Nat} (h : j < hs.length) : (wayV hs)[j * 3]? = some (.int .i64 hs[j].1) ∧ (wayV hs)[j * 3 + 1]? = some (slV hs[j].2.1) ∧ (wayV hs)[j * 3 + 2]? = some (.int .i64 hs[j].2.2) := by
  induction hs generalizing j with
  | nil => simp at h
  | cons a l ih =>
    have e : wayV (a :: l) = .int .i64 a.1 :: slV a.2.1 :: .int .i64 a.2.2 :: wayV l := by simp [wayV]
    rw [e]
    cases j with
    | zero => exact ⟨rfl, rfl, rfl⟩
    | succ j =>
      have := ih (j := j) (by simpa using h)
      rw [show (j + 1) * 3 = j * 3 + 1 + 1 + 1 from by omega]
      simp only [List.getElem?_cons_succ, List.getElem_cons_succ]
      exact this
theorem wayV_set {hs : WayH} {j : Nat} (h : j < hs.length) (a : Int × Sl × Int) : (wayV hs).take (j * 3) ++ [.int .i64 a.1, slV a.2.1, .int .i64 a.2.2] ++ (wayV hs).drop (j * 3 + 3) = wayV (hs.set j a) := by
  induction hs generalizing j with
  | nil => simp at h
  | cons b l ih =>
    have e : ∀ c : Int × Sl × Int, ∀ m : WayH, wayV (c :: m) = .int .i64 c.1 :: slV c.2.1 :: .int .i64 c.2.2 :: wayV m := fun c m => by simp [wayV]
    cases j with
    | zero => rw [e]; simp [e]
    | succ j =>
      have := ih (j := j) (by simpa using h)
      rw [List.set_cons_succ, e, e, ← this, show (j + 1) * 3 = j * 3 + 1 + 1 + 1 from by omega]
      simp
/-- A frame of a row is read. -/
theorem ixW3 {w : World} {s : Sl} {hs : WayH} {i : Int} {j : Nat} {K : y_tunnel_sent → Prop} (hr : Rd w s.a (wayV hs)) (hl : s.n = hs.length) (hij : i = (j : Int)) (hj : j < hs.length) (h : K (elW hs[j])) : ixa s.a s.n i 3 fun a => ld k_tunnel_sent w a K := by
  subst hij
  obtain ⟨v0, v1, v2⟩ := wayV_get hj
  obtain ⟨ad, ha, c0⟩ := hr _ _ v0
  obtain ⟨ad1, ha1, c1⟩ := hr _ _ v1
  obtain ⟨ad2, ha2, c2⟩ := hr _ _ v2
  rw [ha] at ha1 ha2
  cases ha1; cases ha2
  refine ⟨by omega, by omega, ?_⟩
  rw [ha]
  refine ⟨hs[j].1, ?_, hs[j].2.1, ?_, hs[j].2.2, ?_, h⟩
  · rw [atOff_eq, Int.toNat_natCast]; exact c0
  · show w.cell? ((atOff ad (j : Int) 3).add 1) = _
    rw [atOff_eq, add_add, Int.toNat_natCast]; exact c1
  · show w.cell? (((atOff ad (j : Int) 3).add 1).add 1) = _
    rw [atOff_eq, add_add, add_add, Int.toNat_natCast]; exact c2
theorem ldSent0 {w : World} {a : Addr} {K : Int → Prop} (h : ld k_tunnel_sent w a fun x => K x.1) : ld (.I .i64) w a K := by
  obtain ⟨x, h1, _, _, _, _, h2⟩ := h
  exact ⟨x, h1, h2⟩
theorem ldSent1 {w : World} {a : Addr} {K : Sl → Prop} (h : ld k_tunnel_sent w a fun x => K x.2.1) : ld .L w (a.add 1) K := by
  obtain ⟨_, _, x, h1, _, _, h2⟩ := h
  exact ⟨x, h1, h2⟩
theorem ldSent2 {w : World} {a : Addr} {K : Int → Prop} (h : ld k_tunnel_sent w a fun x => K x.2.2.1) : ld (.I .i64) w (a.add 2) K := by
  obtain ⟨_, _, _, _, x, h1, h2⟩ := h
  refine ⟨x, ?_, h2⟩
  have h1 : w.cell? ((a.add 1).add 1) = some (.int .i64 x) := h1
  rw [add_add] at h1
  exact h1
theorem ixa_mono {A : Option Addr} {n sz : Nat} {i : Int} {K K' : Addr → Prop} (h : ixa A n i sz K) (hk : ∀ a, K a → K' a) : ixa A n i sz K' := by
  obtain ⟨h1, h2, h3⟩ := h
  refine ⟨h1, h2, ?_⟩
  cases A with
  | none => exact h3
  | some a => exact hk _ h3
/-- A frame of an own row is written. -/
theorem stW3 {w : World} {base : Nat} {s : Sl} {hs : WayH} {i : Int} {j : Nat} {K : World → Prop} (h : OwW w base s hs) (hij : i = (j : Int)) (hj : j < hs.length) (a : Int × Sl × Int)
    (hk : ∀ w', OwW w' base s (hs.set j a) → (∀ k, some k ≠ s.a.map (·.block) → w'.heap[k]? = w.heap[k]?) → w'.heap.size = w.heap.size → Below base w w' → K w') : ixa s.a s.n i 3 fun ad => st w ad (Kd.av k_tunnel_sent (elW a)) K := by
  subst hij
  have hl := h.len
  obtain ⟨h1, h2⟩ := h
  rcases h2 with ⟨_, hn⟩ | ⟨g, cap, cur, hs', hb, hg, hnc, hcm, hsz, ht⟩
  · omega
  · have ha : s.a = some ⟨g, 0, none⟩ := by injection hs'
    refine ⟨by omega, by omega, ?_⟩
    rw [ha]
    show st w (atOff ⟨g, 0, none⟩ (j : Int) 3) _ K
    rw [atOff_eq, addOff, Nat.zero_add, Int.toNat_natCast]
    have hcl : cur.toList.length = cap * 3 := by rw [Array.length_toList]; exact hsz
    have hpre : (cur.toList.take (j * 3)).length = j * 3 := by rw [List.length_take]; omega
    have hcur : cur.toList = cur.toList.take (j * 3) ++ (cur.toList.drop (j * 3)).take 3 ++ cur.toList.drop (j * 3 + 3) := by
      rw [List.append_assoc, ← List.drop_drop, List.take_append_drop, List.take_append_drop]
    have hg' : w.heap[g]? = some (.cells (cur.toList.take (j * 3) ++ (cur.toList.drop (j * 3)).take 3 ++ cur.toList.drop (j * 3 + 3)).toArray t_tunnel_sent (0, 0)) := by
      rw [← hcur, Array.toArray_toList]; exact hg
    have e3 : (⟨g, j * 3, none⟩ : Addr) = ⟨g, (cur.toList.take (j * 3)).length, none⟩ := by rw [hpre]
    rw [e3]
    refine st_all (Kd.av k_tunnel_sent (elW a)) rfl hg' (by rw [List.length_take, List.length_drop]; show _ = 3; omega) fun w' hb' hgr hsz' => hk w' ?_ (fun k hk => ?_) hsz' ⟨hgr.os, hgr.tape, hgr.output, hgr.size, fun k hk => ?_⟩
    · refine ⟨by rw [wayV_length, List.length_set]; omega, .inr ⟨g, cap, _, by rw [hs'], hb, hb', hnc, hcm, ?_, ?_⟩⟩
      · rw [List.size_toArray, List.length_append, List.length_append, hpre, List.length_drop]
        show j * 3 + 3 + _ = _
        omega
      · show ((cur.toList.take (j * 3) ++ [.int .i64 a.1, slV a.2.1, .int .i64 a.2.2] ++ cur.toList.drop (j * 3 + 3)).take (s.n * 3)) = _
        rw [← wayV_set hj, ← ht]
        have e1 : (cur.toList.take (s.n * 3)).take (j * 3) = cur.toList.take (j * 3) := by rw [List.take_take, Nat.min_eq_left (by omega)]
        have e2 : (cur.toList.take (s.n * 3)).drop (j * 3 + 3) = (cur.toList.drop (j * 3 + 3)).take (s.n * 3 - (j * 3 + 3)) := by rw [List.drop_take]
        rw [e1, e2, List.take_append, List.take_of_length_le (by rw [List.length_append, hpre]; simp; omega), List.length_append, hpre]
        rfl
    · rw [ha] at hk
      by_cases hkl : k < w.heap.size
      · exact hgr.block k hkl hk
      · rw [Array.getElem?_eq_none (by omega), Array.getElem?_eq_none (by omega)]
    · by_cases hkl : k < w.heap.size
      · exact hgr.block k hkl (fun e => by cases e; omega)
      · rw [Array.getElem?_eq_none (by omega), Array.getElem?_eq_none (by omega)]
/-- What a predicate of the program's says. -/
def Says (w : World) (v : Value) (pr : Int × Sl × Int → Bool) : Prop := ∀ (u : World) (a : Int × Sl × Int), w.heap.size ≤ u.heap.size → (∀ k, k < w.heap.size → u.heap[k]? = w.heap[k]?) → ∀ {K : Bool → World → Prop}, (∀ u', Fr u u' → K (pr a) u') → clv Tryd.prog v #[(Kd.av k_tunnel_sent (elW a)).val] .B u K
theorem IndexFunc_ok {s : Sl} {hs : WayH} {v : Value} {pr : Int × Sl × Int → Bool} {w0 w : World} (hr : Rd w s.a (wayV hs)) (hl : s.n = hs.length) (hlen : hs.length ≤ 1073741824) (hv : Says w0 v pr) (h0 : w0.heap.size ≤ w.heap.size) (h1 : ∀ k, k < w0.heap.size → w.heap[k]? = w0.heap[k]?) :
    cl Tryd.prog n_slices_IndexFunc_tunnel_sent_tunnel_sent #[.slice s.a s.n s.c, v] (.I .i64) w fun (r : Int) w' => Fr w w' ∧ ((r = -1 ∧ ∀ a ∈ hs, pr a = false) ∨ ∃ (i : Nat) (hi : i < hs.length), r = i ∧ pr hs[i] = true ∧ ∀ a ∈ hs.take i, pr a = false) := by
  refine slices_IndexFunc_tunnel_sent_tunnel_sent.cl ?_
  unfold slices_IndexFunc_tunnel_sent_tunnel_sent
  refine lpI (fun s' w' => Fr w w' ∧ ∃ i : Nat, i ≤ hs.length ∧ s'.1 = i ∧ ∀ a ∈ hs.take i, pr a = false) (fun s' _ => (s.n - s'.1).toNat) ⟨Fr.refl w, 0, Nat.zero_le _, rfl, by simp⟩ ?_
  rintro D ⟨i', ⟨⟩⟩ w2 ⟨hf2, i, hi, rfl, hno⟩
  dsimp only
  refine bD ?_ ?_ <;> intro hlt
  · have hih : i < hs.length := by omega
    refine ixW3 (hr.below hf2) hl rfl hih ?_
    have hz := hf2.size
    refine hv w2 hs[i] (by omega) (fun k hk => by rw [hf2.block k (by omega)]; exact h1 k hk) fun w8 hf8 => ?_
    refine bB ?_ ?_ <;> intro hp
    · exact ⟨hf2.trans hf8, .inr ⟨i, hih, rfl, hp, hno⟩⟩
    · rw [i64w (by omega) (by omega)]
      refine ⟨⟨hf2.trans hf8, i + 1, by omega, rfl, fun a ha => ?_⟩, by omega⟩
      rw [List.take_succ_eq_append_getElem hih] at ha
      rcases List.mem_append.1 ha with ha | ha
      · exact hno a ha
      · rw [List.mem_singleton] at ha; rw [ha]; exact hp
  · refine ⟨hf2, .inl ⟨rfl, fun a ha => hno a ?_⟩⟩
    rw [List.take_of_length_le (by omega)]; exact ha
theorem filter_none {hs : WayH} {pr : Int × Sl × Int → Bool} (h : ∀ a ∈ hs, pr a = false) : hs.filter (fun a => !pr a) = hs := by
  rw [List.filter_eq_self]
  intro a ha
  rw [h a ha]; rfl
theorem DeleteFunc_ok {s : Sl} {hs : WayH} {v : Value} {pr : Int × Sl × Int → Bool} {w0 w : World} {base : Nat} (ho : OwW w base s hs) (hlen : hs.length ≤ 1073741824) (hv : Says w0 v pr) (h0 : w0.heap.size ≤ base) (hbw : base ≤ w.heap.size) (h1 : ∀ k, k < w0.heap.size → w.heap[k]? = w0.heap[k]?) :
    cl Tryd.prog n_slices_DeleteFunc_tunnel_sent_tunnel_sent #[.slice s.a s.n s.c, v] .L w fun (r : Sl) w' => OwW w' base r (hs.filter fun a => !pr a) ∧ Below base w w' := by
  refine slices_DeleteFunc_tunnel_sent_tunnel_sent.cl ?_
  unfold slices_DeleteFunc_tunnel_sent_tunnel_sent
  have hl := ho.len
  refine (IndexFunc_ok ho.rd hl hlen hv (by omega) h1).mono ?_
  rintro r w2 ⟨hf2, hcase⟩
  rcases hcase with ⟨rfl, hno⟩ | ⟨i0, hi0, rfl, hp0, hno⟩
  · refine bT rfl ?_
    rw [filter_none hno]
    exact ⟨ho.fr hf2, hf2.mono hbw⟩
  refine bF (by rw [beq_eq_false_iff_ne]; omega) ?_
  rw [i64w (by omega) (by omega)]
  refine lpI (fun s' w' => Below base w w' ∧ ∃ (i j : Nat) (hs' : WayH), i < j ∧ j ≤ hs.length ∧ s'.1 = i ∧ s'.2.1 = j ∧ OwW w' base s hs' ∧ hs'.length = hs.length ∧ hs'.take i = (hs.take j).filter (fun a => !pr a) ∧ hs'.drop j = hs.drop j) (fun s' _ => (s.n - s'.2.1).toNat)
    ⟨hf2.mono hbw, i0, i0 + 1, hs, by omega, by omega, rfl, by dsimp only; omega, ho.fr hf2, rfl, ?_, rfl⟩ ?_
  · rw [List.take_succ_eq_append_getElem hi0, List.filter_append, filter_none hno]
    simp [hp0]
  rintro D ⟨i', j', ⟨⟩⟩ w4 ⟨hb4, i, j, hs', hij, hj, rfl, rfl, ho4, hl', hti, hdj⟩
  dsimp only
  have hl4 := ho4.len
  have hz4 := hb4.size
  refine bD ?_ ?_ <;> intro hlt
  · have hjh : j < hs'.length := by omega
    have hjh2 : j < hs.length := by omega
    have hel : hs'[j] = hs[j] := by
      have h1 := congrArg (fun l => l[0]?) hdj
      simpa [List.getElem?_drop, List.getElem?_eq_getElem hjh, List.getElem?_eq_getElem hjh2] using h1
    refine ixW3 ho4.rd hl4 rfl hjh ?_
    refine nwI fun a9 w10 ha9 hs10 hf10 hb10 _ => ?_
    refine stW (Kd.av k_tunnel_sent (elW hs'[j])) rfl hb10 rfl fun w11 hb11 hg11 hs11 => ?_
    have hf11 : Fr w4 w11 := hf10.on (grown_below hg11 (by omega) hf10.size)
    refine ldW (k := k_tunnel_sent) (x := elW hs'[j]) hb11 rfl ?_
    have hb11' : Below base w w11 := hb4.trans (hf11.mono (by omega))
    refine hv w11 hs'[j] (by have := hf11.size; omega) (fun k hk => by rw [hb11'.block k (by omega)]; exact h1 k hk) fun w14 hf14 => ?_
    have hf14' := hf11.trans hf14
    have ho14 := ho4.fr hf14'
    have hb14 : Below base w w14 := hb4.trans (hf14'.mono (by omega))
    have htk : hs.take (j + 1) = hs.take j ++ [hs[j]] := List.take_succ_eq_append_getElem hjh2
    rw [i64w (n := (i : Int) + 1) (by omega) (by omega), i64w (n := (j : Int) + 1) (by omega) (by omega)]
    refine bB ?_ ?_ <;> intro hp
    · have hp : pr hs'[j] = false := by simpa using hp
      refine ldW (k := k_tunnel_sent) (x := elW hs'[j]) (hf14.heap hb11) rfl ?_
      refine stW3 ho14 rfl (show i < hs'.length by omega) hs'[j] fun w17 ho17 _ hs17 hb17 => ?_
      refine ⟨⟨hb14.trans hb17, i + 1, j + 1, hs'.set i hs'[j], by omega, by omega, rfl, rfl, ho17, by rw [List.length_set]; exact hl', ?_, ?_⟩, by omega⟩
      · rw [htk, List.filter_append, ← hti, ← hel]
        have hi' : i < (hs'.set i hs'[j]).length := by rw [List.length_set]; omega
        rw [List.take_succ_eq_append_getElem hi', List.getElem_set_self, List.take_set_of_le (Nat.le_refl _)]
        simp [hp]
      · rw [List.drop_set_of_lt (by omega), ← List.drop_drop, hdj, List.drop_drop]
    · refine ⟨⟨hb14, i, j + 1, hs', by omega, by omega, rfl, rfl, ho14, hl', ?_, ?_⟩, by omega⟩
      · rw [htk, List.filter_append, ← hti, ← hel]
        simp [hp]
      · rw [← List.drop_drop, hdj, List.drop_drop]
  · obtain rfl : j = hs.length := by omega
    rw [List.take_length] at hti
    have hflen : (hs.filter fun a => !pr a).length = i := by rw [← hti, List.length_take]; omega
    have hcap := ho4.cap
    -- the row's block
    obtain ⟨g, cap, cur, hs4, hgb, hgg, hnc, hcm, hsz, ht⟩ := ho4.2.resolve_left fun h => by omega
    have ha : s.a = some ⟨g, 0, none⟩ := by injection hs4
    have hc : s.c = cap := by injection hs4
    have hcl : cur.toList.length = cap * 3 := by rw [Array.length_toList]; exact hsz
    refine ⟨by omega, by omega, by omega, ?_⟩
    have hcut : cut s i s.n 3 = ⟨some ⟨g, i * 3, none⟩, s.n - i, s.c - i⟩ := by
      unfold cut
      rw [if_neg (by omega), ha]
      simp only [Option.map_some]
      rw [atOff_eq, addOff, Nat.zero_add, Int.toNat_natCast]
    rw [Int.toNat_natCast, Int.toNat_natCast, hcut]
    have fin : ∀ (u : World) (cs' : List Value), u.heap[g]? = some (.cells cs'.toArray t_tunnel_sent (0, 0)) → cs'.length = cur.toList.length → cs'.take (i * 3) = cur.toList.take (i * 3) → Below base w u → sls s 0 (i : Int) 3 fun r => OwW u base r (hs.filter fun a => !pr a) ∧ Below base w u := by
      intro u cs' hb' hlc htc hbu
      refine ⟨Int.le_refl _, by omega, by omega, ?_, hbu⟩
      have hcut2 : cut s 0 i 3 = ⟨some ⟨g, 0, none⟩, i, cap⟩ := by
        unfold cut
        rw [if_neg (by omega), ha, hc]
        simp only [Option.map_some, Nat.sub_zero]
        rw [atOff_eq]
        simp [Addr.add]
      rw [Int.toNat_zero, Int.toNat_natCast, hcut2]
      refine ⟨by rw [wayV_length, hflen], .inr ⟨g, cap, _, rfl, hgb, hb', by show i ≤ cap; omega, hcm, by rw [List.size_toArray, hlc, hcl], ?_⟩⟩
      show cs'.take (i * 3) = _
      rw [htc, ← hti]
      have e1 : cur.toList.take (i * 3) = (cur.toList.take (s.n * 3)).take (i * 3) := by rw [List.take_take, Nat.min_eq_left (by omega)]
      rw [e1, ht]
      clear e1 htc hti hcut2
      have : ∀ (l : WayH) (i : Nat), (wayV l).take (i * 3) = wayV (l.take i) := by
        intro l
        induction l with
        | nil => intro i; simp [wayV]
        | cons a l ih =>
          intro i
          cases i with
          | zero => simp [wayV]
          | succ i =>
            have := ih i
            rw [show (i + 1) * 3 = i * 3 + 1 + 1 + 1 from by omega]
            simp only [wayV, List.flatMap_cons, List.take_succ_cons, List.cons_append, List.nil_append] at this ⊢
            rw [this]
      exact this hs' i
    have hcur : w4.heap[g]? = some (.cells cur.toList.toArray t_tunnel_sent (0, 0)) := by rw [Array.toArray_toList]; exact hgg
    refine rnClear slW.under (z := .agg #[.int .i64 0, .slice none 0 0, .int .i64 0]) (sz := 3) (fun w => run_zeroV (by kernel_rfl) w) rfl (by simp [Value.cells, Value.oneCell']) (fun h => ?_) fun h => ⟨g, i * 3, cur.toList, t_tunnel_sent, rfl, hcur, ?_, fun w' cs' hb' hlc htc hg' hs' => ?_⟩
    · exact fin w4 _ hcur rfl rfl hb4
    · rw [hcl]
      have := hnc
      show i * 3 + (s.n - i) * 3 ≤ cap * 3
      omega
    · exact fin w' cs' hb' hlc htc (hb4.trans ((Below.refl base w4).grown hg' (by omega) fun k hk => by cases hk; exact hgb))
section
variable {w : World} {G F : Nat → Prop} {g : Nat} {t : Tn} {x : Shp}
theorem ack1_ok {p : y_api_Frame} {a1 : Nat} {tt : TypeId} (hb : w.heap[a1]? = some (.cells (frC p).toArray tt (0, 0))) (_hbi : 0 ≤ p.2.2.2.2.2.1) (b : List UInt8) (body : List UInt8) :
    Says w (.func (.func n_tunnel_Tunnel_ack_1) #[] #[.pointer (some ⟨a1, 0, none⟩)]) fun a => gone (fmOf p b) (a.1, body, a.2.2) := by
  intro u a hsz hk K hK
  refine ⟨n_tunnel_Tunnel_ack_1, #[], #[.pointer (some ⟨a1, 0, none⟩)], rfl, ⟨Tryd.f94, Tryd.func94, by kernel_rfl, by kernel_rfl⟩, ?_⟩
  show cl Tryd.prog n_tunnel_Tunnel_ack_1 #[(Kd.av k_tunnel_sent (elW a)).val, .pointer (some ⟨a1, 0, none⟩)] .B u K
  refine tunnel_Tunnel_ack_1.cl (p0 := elW a) (p1 := some ⟨a1, 0, none⟩) ?_
  unfold tunnel_Tunnel_ack_1
  refine nwI fun a2 w2 ha2 hs2 hf2 hb2 _ => ?_
  have hu : u.heap[a1]? = some (.cells (frC p).toArray tt (0, 0)) := (hk a1 (Array.getElem?_eq_some_iff.1 hb).1).trans hb
  refine ldI0 hb2 (show (Kd.av k_tunnel_sent (elW a)).cells.toArray[0]? = some (.int .i64 a.1) from rfl) (nzS ?_)
  rw [addOff]
  refine ldI0 (hf2.heap hu) (show (frC p).toArray[4]? = some (.int .i64 p.2.2.2.2.1) from rfl) ?_
  have e : gone (fmOf p b) (a.1, body, a.2.2) = (decide (wr (wr (a.1 - p.2.2.2.2.1) - 1) < 0) || (decide (wr (wr (a.1 - p.2.2.2.2.1) - 1) < 16) && decide ((p.2.2.2.2.2.1 / 2 ^ (wr (wr (a.1 - p.2.2.2.2.1) - 1)).toNat) % 2 = 1))) := rfl
  refine bD ?_ ?_ <;> intro h0
  · have hK : K (gone (fmOf p b) (a.1, body, a.2.2)) w2 := hK w2 hf2
    rw [e, decide_eq_true h0] at hK
    exact hK
  refine bD ?_ ?_ <;> intro h16
  · refine nzS ?_
    rw [addOff]
    refine ldI0 (hf2.heap hu) (show (frC p).toArray[5]? = some (.int .i64 p.2.2.2.2.2.1) from rfl) ?_
    refine bP (by omega) ?_
    have hK : K (gone (fmOf p b) (a.1, body, a.2.2)) w2 := hK w2 hf2
    rw [e, decide_eq_false h0, decide_eq_true h16, Bool.false_or, Bool.true_and] at hK
    rw [i64_and1, Nat.min_eq_left (by omega)]
    have eb : ((p.2.2.2.2.2.1 / 2 ^ (wr (wr (a.1 - p.2.2.2.2.1) - 1)).toNat) % 2 == 1) = decide ((p.2.2.2.2.2.1 / 2 ^ (wr (wr (a.1 - p.2.2.2.2.1) - 1)).toNat) % 2 = 1) := by
      rw [Bool.eq_iff_iff, beq_iff_eq, decide_eq_true_iff]
    show K ((p.2.2.2.2.2.1 / 2 ^ (wr (wr (a.1 - p.2.2.2.2.1) - 1)).toNat) % 2 == 1) w2
    rw [eb]
    exact hK
  · have hK : K (gone (fmOf p b) (a.1, body, a.2.2)) w2 := hK w2 hf2
    rw [e, decide_eq_false h0, decide_eq_false h16] at hK
    exact hK
theorem gone_body (f : Fm) (x y : Int × List UInt8 × Int) (h : x.1 = y.1) : gone f x = gone f y := by
  unfold gone; rw [h]
theorem all2_filter {α β : Type} {R : α → β → Prop} {p : α → Bool} {q : β → Bool} : ∀ {l : List α} {m : List β}, All2 R l m → (∀ a b, R a b → p a = q b) → All2 R (l.filter p) (m.filter q)
  | [], [], _, _ => trivial
  | a :: l, b :: m, h, hp => by
    rw [List.filter_cons, List.filter_cons, hp a b h.1]
    split
    · exact ⟨h.1, all2_filter h.2 hp⟩
    · exact all2_filter h.2 hp
  | [], _ :: _, h, _ => h.elim
  | _ :: _, [], h, _ => h.elim
theorem ack_ok {p : y_api_Frame} {b : List UInt8} (h : Tun w G F g t x) (hbi : 0 ≤ p.2.2.2.2.2.1) (hr : t.queue.length + t.way.length ≤ 64) (hl : t.out.length ≤ 1073741000) :
    cl Tryd.prog n_tunnel_Tunnel_ack #[.pointer (some ⟨g, 0, none⟩), frV p] (.tup .nil) w fun (_ : Unit) w' => TunTo w w' G F g (t.ack (fmOf p b)) := by
  refine tunnel_Tunnel_ack.cl (p0 := some ⟨g, 0, none⟩) (p1 := p) ?_
  unfold tunnel_Tunnel_ack
  refine nwI fun a1 w2 ha1 hs2 hf2 hb1 _ => ?_
  have h2 := h.fr hf2
  obtain ⟨hsw, hw⟩ := h2.way
  have hwa := hw.all.length
  refine nzS ?_
  rw [addOff]
  refine ldL0 (s := x.way) h2.cells rfl ?_
  refine (Clone_sent_ok hw.rd hw.len (by omega)).mono ?_
  rintro x5 w6 ⟨h5, hf6⟩
  refine (DeleteFunc_ok (w0 := w2) (base := w2.heap.size) h5 (by omega) (ack1_ok hb1 hbi b []) (Nat.le_refl _) hf6.size hf6.block).mono ?_
  rintro x7 w8 ⟨h7, hb8⟩
  have hf8 : Fr w2 w8 := hf6.on hb8
  have h8 := h2.fr hf8
  refine nzS ?_
  rw [addOff]
  refine st0 h8.cells (by show 3 < 12; decide) fun w10 hb10 hg10 hs10 => ?_
  have hmg : Mv (fun k => k = g) w8 w10 := Mv.of_grown hg10 rfl
  have hgl := tun_lt h2
  have hz8 := hf8.size
  let t' : Tn := { t with way := t.way.filter fun x => !gone (fmOf p b) x }
  have h10 : Tun w10 G F g t' ⟨x7, x.queue, x.out, x.r⟩ := by
    refine h8.wq (t' := t') (x' := ⟨x7, x.queue, x.out, x.r⟩) hmg hb10 rfl rfl rfl rfl rfl ⟨hsw.filter (fun a => !gone (fmOf p b) (a.1, [], a.2.2)), ?_⟩ (h8.queueK hmg (fun k hk => .inl (by rw [hk]; exact h8.fg)) fun k hk => .inl hk)
    have hown : OwW w10 w2.heap.size x7 _ := h7.mv hmg fun ad had e => by have := (h7.own ad had).1; omega
    refine hown.wayR (fun k hk => ?_) ?_
    · rcases hk with hk | hk
      · exact h2.gl k hk
      · exact h2.fl k hk
    · refine all2_filter (hw.all.mono fun a c _ _ hr => ⟨hr.1, ?_, hr.2.2⟩) fun a c hr => ?_
      · exact (hr.2.1.mv (Mv.of_fr (F := fun _ => False) hf8) (fun _ h => h.elim) (fun k hk => .inl hk)).mv hmg (fun k hk => .inl (.inr (by rw [hk]; exact h8.fg))) fun k hk => .inl hk
      · rw [gone_body (fmOf p b) (a.1, [], a.2.2) c hr.1]
  have hfl : t'.way.length ≤ t.way.length := List.length_filter_le _ _
  have hq : t'.queue = t.queue := rfl
  have ho : t'.out = t.out := rfl
  refine (slide_ok h10 (by rw [hq]; omega) (by rw [hq, ho]; omega)).mono fun _ w' h' => ?_
  exact TunTo.step ((Mv.of_fr (F := F) (hf2.trans hf8)).trans (hmg.mono fun k hk => .inl (by rw [hk]; exact h.fg)) fun k hk => .inl hk) (fun k hk => .inl hk) h'
end
end Go.Proofs.YtmhibpcbdbhfoaaDoor
namespace Go.Proofs.YtmhibpcbdbhfoaaDoor
open Go.RowKit Go.Fl

/-- The block where something lies. -/
def BK (s : Sl) (k : Nat) : Prop := ∃ ad, s.a = some ad ∧ ad.block = k
def NB (hs : List Sl) (k : Nat) : Prop := ∃ h ∈ hs, BK h k
section
variable {w : World} {G F : Nat → Prop} {g : Nat} {t : Tn} {x : Shp}
/-- An early message is handed out: its block is the caller's now. -/
theorem tun_tell {w' : World} {m : Nat} {f : Int → Option Value} {sl : Int → Sl} (h : Tun w G F g t x) (hr : x.r = some m) (he : EarlyM w F g x.out m t.early f sl) {key : Int} {b : List UInt8} (hk : t.early key = some b)
    (hg : w.grownBy w' (some m)) (hM : MapF (Value.int .i64) w' m (fun k' => if k' = key then none else f k')) :
    Tun w' (fun k => G k ∨ BK (sl key) k) (fun k => F k ∧ ¬BK (sl key) k) g { t with early := setE t.early key none } x ∧ EarlyM w' (fun k => F k ∧ ¬BK (sl key) k) g x.out m (setE t.early key none) (fun k' => if k' = key then none else f k') sl := by
  have hm : Mv (fun k => k = m) w w' := Mv.of_grown hg rfl
  have hbk : ∀ ad, (sl key).a = some ad → F ad.block ∧ ad.block ≠ g ∧ ad.block ≠ m ∧ ∀ o, x.out.a = some o → o.block ≠ ad.block := he.blk key b hk
  have hEZ : ∀ k, k = m → Zt G F k ∨ w.heap.size ≤ k := fun k hk => .inl (.inr (by rw [hk]; exact he.fm))
  have hZ : ∀ k, Zt (fun k => G k ∨ BK (sl key) k) (fun k => F k ∧ ¬BK (sl key) k) k → Zt G F k ∨ w.heap.size ≤ k := fun k hk => by
    rcases hk with (hk | ⟨ad, h1, h2⟩) | hk
    · exact .inl (.inl hk)
    · exact .inl (.inr (by rw [← h2]; exact (hbk ad h1).1))
    · exact .inl (.inr hk.1)
  have hE : EarlyM w' (fun k => F k ∧ ¬BK (sl key) k) g x.out m (setE t.early key none) (fun k' => if k' = key then none else f k') sl := by
    have hset : ∀ k b', setE t.early key none k = some b' → k ≠ key ∧ t.early k = some b' := fun k b' h => by
      unfold setE at h
      split at h
      · cases h
      · exact ⟨by assumption, h⟩
    refine ⟨hM, ⟨he.fm, fun ⟨ad, h1, h2⟩ => (hbk ad h1).2.2.1 h2⟩, he.ne, fun k hk' => ?_, fun k b' hk' => ?_, fun k b' hk' ad ha => ?_, fun k b1 k' b2 h1 h2 => ?_⟩
    · unfold setE at hk'
      split at hk'
      · rename_i e; exact if_pos e
      · rename_i e; rw [if_neg e]; exact he.no k hk'
    · obtain ⟨h1, h2⟩ := hset k b' hk'
      obtain ⟨y1, y2⟩ := he.yes k b' h2
      exact ⟨by rw [if_neg h1]; exact y1, y2.mv hm fun ad ha => (he.blk k b' h2 ad ha).2.2.1⟩
    · obtain ⟨h1, h2⟩ := hset k b' hk'
      obtain ⟨b1, b2⟩ := he.blk k b' h2 ad ha
      exact ⟨⟨b1, fun ⟨ad', h3, h4⟩ => he.sep k b' key b h2 hk h1 ad ad' ha h3 h4.symm⟩, b2⟩
    · exact he.sep k b1 k' b2 (hset k b1 h1).2 (hset k' b2 h2).2
  obtain ⟨hs1, h1⟩ := h.way
  obtain ⟨hs2, h2⟩ := h.queue
  obtain ⟨hs3, h3, h4⟩ := h.out
  refine ⟨⟨hm.heap h.cells fun e => he.ne.1 e.symm, ⟨h.fg, fun ⟨ad, h1, h2⟩ => (hbk ad h1).2.1 h2⟩, fun k hk => Nat.lt_of_lt_of_le (h.fl k hk.1) hm.size, fun k hk => ?_, fun k hk hf => ?_, ⟨hs1, h1.mv hm hEZ hZ⟩, ⟨hs2, h2.mv hm hEZ hZ⟩, ⟨hs3, h3.mv hm fun ad ha => he.ne.2 ad ha, h4.mono fun a b _ _ hr => hr.mv hm hEZ hZ⟩, fun ad ha => ⟨⟨(h.outf ad ha).1, fun ⟨ad', h1, h2⟩ => (hbk ad' h1).2.2.2 ad ha h2.symm⟩, (h.outf ad ha).2⟩, ?_, ?_, ?_, h.upr⟩, hE⟩
  · rcases hk with hk | ⟨ad, h1, h2⟩
    · exact Nat.lt_of_lt_of_le (h.gl k hk) hm.size
    · rw [← h2]; exact Nat.lt_of_lt_of_le (h.fl _ (hbk ad h1).1) hm.size
  · rcases hk with hk | hk
    · exact h.gf k hk hf.1
    · exact hf.2 hk
  · unfold EarlyR
    rw [hr]
    exact ⟨_, sl, hE⟩
  · exact h.crc.mv hm fun e => h.nt (.inr (by rw [e]; exact he.fm))
  · intro hz
    rcases hZ _ hz with h5 | h5
    · exact h.nt h5
    · have := h.crc.lt; omega
/-- A message that came early is kept. -/
theorem tun_keep {w' : World} {m : Nat} {f : Int → Option Value} {sl : Int → Sl} (h : Tun w G F g t x) (hr : x.r = some m) (he : EarlyM w F g x.out m t.early f sl) {key : Int} {s : Sl} {b : List UInt8} (hb : OwB w 0 t_uint8 s b)
    (hbk : ∀ ad, s.a = some ad → F ad.block ∧ ad.block ≠ g ∧ ad.block ≠ m ∧ ∀ o, x.out.a = some o → o.block ≠ ad.block) (hsep : ∀ k b', t.early k = some b' → ∀ ad ad', s.a = some ad → (sl k).a = some ad' → ad.block ≠ ad'.block)
    (hg : w.grownBy w' (some m)) (hM : MapF (Value.int .i64) w' m (fun k' => if k' = key then some (slV s) else f k')) :
    Tun w' G F g { t with early := setE t.early key (some b) } x := by
  have hm : Mv (fun k => k = m) w w' := Mv.of_grown hg rfl
  have hEZ : ∀ k, k = m → Zt G F k ∨ w.heap.size ≤ k := fun k hk => .inl (.inr (by rw [hk]; exact he.fm))
  have hZ : ∀ k, Zt G F k → Zt G F k ∨ w.heap.size ≤ k := fun k hk => .inl hk
  obtain ⟨hs1, h1⟩ := h.way
  obtain ⟨hs2, h2⟩ := h.queue
  obtain ⟨hs3, h3, h4⟩ := h.out
  refine ⟨hm.heap h.cells fun e => he.ne.1 e.symm, h.fg, fun k hk => Nat.lt_of_lt_of_le (h.fl k hk) hm.size, fun k hk => Nat.lt_of_lt_of_le (h.gl k hk) hm.size, h.gf, ⟨hs1, h1.mv hm hEZ hZ⟩, ⟨hs2, h2.mv hm hEZ hZ⟩, ⟨hs3, h3.mv hm fun ad ha => he.ne.2 ad ha, h4.mono fun a b _ _ hr => hr.mv hm hEZ hZ⟩, h.outf, ?_, h.crc.mv hm fun e => h.nt (.inr (by rw [e]; exact he.fm)), h.nt, h.upr⟩
  unfold EarlyR
  rw [hr]
  refine ⟨_, fun k => if k = key then s else sl k, hM, he.fm, he.ne, fun k hk => ?_, fun k b' hk => ?_, fun k b' hk ad ha => ?_, fun k b1 k' b2 h1 h2 hne ad ad' ha ha' => ?_⟩
  · dsimp only [setE] at hk ⊢
    split at hk
    · cases hk
    · rename_i e; rw [if_neg e]; exact he.no k hk
  · dsimp only [setE] at hk ⊢
    split at hk
    · rename_i e
      cases hk
      rw [if_pos e, if_pos e]
      exact ⟨rfl, hb.mv hm fun ad ha => (hbk ad ha).2.2.1⟩
    · rename_i e
      rw [if_neg e, if_neg e]
      obtain ⟨y1, y2⟩ := he.yes k b' hk
      exact ⟨y1, y2.mv hm fun ad ha => (he.blk k b' hk ad ha).2.2.1⟩
  · dsimp only [setE] at hk ha
    split at hk
    · rename_i e
      rw [if_pos e] at ha
      exact hbk ad ha
    · rename_i e
      rw [if_neg e] at ha
      exact he.blk k b' hk ad ha
  · dsimp only [setE] at h1 h2 ha ha'
    by_cases e : k = key
    · rw [if_pos e] at ha
      have e' : k' ≠ key := fun h => hne (e.trans h.symm)
      rw [if_neg e'] at ha' h2
      exact hsep k' b2 h2 ad ad' ha ha'
    · rw [if_neg e] at ha h1
      by_cases e' : k' = key
      · rw [if_pos e'] at ha'
        exact fun hh => hsep k b1 h1 ad' ad ha' ha hh.symm
      · rw [if_neg e'] at ha' h2
        exact he.sep k b1 k' b2 h1 h2 hne ad ad' ha ha'
/-- What a call tells: bodies in blocks of the caller's own. -/
def Told (w w' : World) (G F : Nat → Prop) (g : Nat) (t' : Tn) (r : Sl) (l : List (List UInt8)) : Prop :=
  ∃ F' x' hs, Tun w' (fun k => G k ∨ NB hs k) F' g t' x' ∧ Mv F w w' ∧ (∀ k, F' k → F k ∨ w.heap.size ≤ k) ∧ OwS w' w.heap.size t_s_uint8 r hs ∧ All2 (OwB w' 0 t_uint8) hs l ∧
    hs.Pairwise (fun a b => ∀ y z, a.a = some y → b.a = some z → y.block ≠ z.block) ∧ (∀ k, NB hs k → F k ∨ w.heap.size ≤ k) ∧ ∀ ad, r.a = some ad → ¬F' ad.block ∧ ¬NB hs ad.block
theorem Told.none {w' : World} {t' : Tn} (h : TunTo w w' G F g t') : Told w w' G F g t' ⟨.none, 0, 0⟩ [] := by
  obtain ⟨F', x', h1, h2, h3⟩ := h
  have e : (fun k => G k ∨ NB [] k) = G := funext fun k => propext ⟨fun h => h.elim id fun ⟨_, h, _⟩ => (by cases h), .inl⟩
  refine ⟨F', x', [], by rw [e]; exact h1, h2, h3, OwS.nil _ _ _, trivial, .nil, fun k ⟨_, h, _⟩ => (by cases h), fun ad ha => (by cases ha)⟩
theorem Told.step {w1 w2 : World} {F1 : Nat → Prop} {t' : Tn} {r : Sl} {l : List (List UInt8)} (hm : Mv F w w1) (hF : ∀ k, F1 k → F k ∨ w.heap.size ≤ k) (h : Told w1 w2 G F1 g t' r l) : Told w w2 G F g t' r l := by
  obtain ⟨F', x', hs, h1, h2, h3, h4, h5, h6, h7, h8⟩ := h
  have key : ∀ k, F1 k ∨ w1.heap.size ≤ k → F k ∨ w.heap.size ≤ k := fun k hk => hk.elim (hF k) fun h => .inr (Nat.le_trans hm.size h)
  exact ⟨F', x', hs, h1, hm.trans h2 hF, fun k hk => key k (h3 k hk), h4.mono hm.size, h5, h6, fun k hk => key k (h7 k hk), h8⟩
theorem bits_step {e : Int → Option (List UInt8)} {y : Int} {i : Nat} (hi : i < 16) : bits .or .i64 (bitsN e y i : Nat) ((2 ^ i : Nat) : Int) = ((bitsN e y i + 2 ^ i : Nat) : Int) := by
  have h1 := bitsN_lt e y i
  have h2 : (2 : Nat) ^ i ≤ 2 ^ 15 := Nat.pow_le_pow_right (by decide) (by omega)
  rw [i64_or_nat _ _ (by omega) (by omega)]
  have := Nat.two_pow_add_eq_or_of_lt h1 1
  rw [Nat.mul_one] at this
  rw [Nat.or_comm, ← this, Nat.add_comm]
end
end Go.Proofs.YtmhibpcbdbhfoaaDoor
namespace Go.Proofs.YtmhibpcbdbhfoaaDoor
open Go.RowKit Go.Fl

theorem keyI : KeyM Tryd.prog t_int (Value.int .i64) := keyM_int (by kernel_rfl)
theorem mapI : Tryd.prog.underlying t_map_int_s_uint8 = some (.map t_int t_s_uint8) := by kernel_rfl
theorem zI (w : World) : (zeroValue t_s_uint8).run Tryd.prog w = .ok (.slice none 0 0) w := run_zeroV (by kernel_rfl) w
section
variable {w : World} {G F : Nat → Prop} {g : Nat} {t : Tn} {x : Shp}
theorem Tun.anti {G' : Nat → Prop} (h : Tun w G F g t x) (hG : ∀ k, G' k → G k) : Tun w G' F g t x :=
  h.other (E := fun _ => False) (Mv.refl _ _) (fun _ h => h.elim) (fun k hk => .inl (hG k hk)) fun k hk => h.gl k (hG k hk)
theorem NB.append {hs : List Sl} {s : Sl} {k : Nat} : NB (hs ++ [s]) k ↔ NB hs k ∨ BK s k := by
  constructor
  · rintro ⟨h, hm, hk⟩
    rcases List.mem_append.1 hm with hm | hm
    · exact .inl ⟨h, hm, hk⟩
    · rw [List.mem_singleton] at hm; rw [← hm]; exact .inr hk
  · rintro (⟨h, hm, hk⟩ | hk)
    · exact ⟨h, List.mem_append_left _ hm, hk⟩
    · exact ⟨s, by simp, hk⟩
theorem data_ok {p : y_api_Frame} {b : List UInt8} {m : Nat} {f : Int → Option Value} {sl : Int → Sl} (h : Tun w G F g t x) (hr : x.r = some m) (he : EarlyM w F g x.out m t.early f sl) (hb : OwB w 0 t_uint8 p.2.2.2.2.2.2.1 b)
    (hbk : ∀ ad, p.2.2.2.2.2.2.1.a = some ad → F ad.block ∧ ad.block ≠ g ∧ ad.block ≠ m ∧ ∀ o, x.out.a = some o → o.block ≠ ad.block) (hsep : ∀ k b', t.early k = some b' → ∀ ad ad', p.2.2.2.2.2.2.1.a = some ad → (sl k).a = some ad' → ad.block ≠ ad'.block)
    (hi : t.inv) (hsm : p.2.2.2.1 ≤ 1099511627776) (hl : t.out.length ≤ 1073741824) :
    cl Tryd.prog n_tunnel_Tunnel_data #[.pointer (some ⟨g, 0, none⟩), frV p] .L w fun (r : Sl) w' => Told w w' G F g (t.data (fmOf p b)).1 r (t.data (fmOf p b)).2 := by
  refine tunnel_Tunnel_data.cl (p0 := some ⟨g, 0, none⟩) (p1 := p) ?_
  unfold tunnel_Tunnel_data
  refine nwI fun a1 w2 ha1 hs2 hf2 hb1 _ => ?_
  have hz2 := hf2.size
  have he2 : EarlyM w2 F g x.out m t.early f sl := he.mv (E := fun _ => False) (Mv.of_fr hf2) (fun _ h => h.elim) (fun k hk _ _ => hk) fun o ho => .inl ⟨o, ho, rfl⟩
  have h2 : Tun w2 G F g t x := h.fr hf2
  have hb2 := hb.fr hf2
  have hexp := hi.ex
  dsimp -zeta only
  intro j2
  have hj2 : ∀ (u : World), Mv F w2 u → Tun u G F g (t.keep (fmOf p b)) x → j2 u := by
    intro u hmu hu
    have hkx : (t.keep (fmOf p b)).expect = t.expect := by unfold Tn.keep; split <;> rfl
    have hkb : ∀ j b', (t.keep (fmOf p b)).early j = some b' → j ≤ t.expect + 16 := by
      intro j b' hj
      unfold Tn.keep at hj
      split at hj
      · rename_i hcond
        dsimp only [setE] at hj
        split at hj
        · rename_i e
          have e : j = (fmOf p b).sq := e
          have := hcond.2
          omega
        · exact (hi.early j b' hj).2.1
      · exact (hi.early j b' hj).2.1
    have hko : (t.keep (fmOf p b)).out = t.out := by unfold Tn.keep; split <;> rfl
    have hdata : t.data (fmOf p b) = ((tellF 17 (t.keep (fmOf p b)) []).1.acks, (tellF 17 (t.keep (fmOf p b)) []).2) := rfl
    generalize t.keep (fmOf p b) = tk at *
    unfold j2
    let G1 : List Sl → Nat → Nat → Prop := fun hs n k => (G k ∨ NB hs k) ∨ (u.heap.size ≤ k ∧ k < n)
    refine lpI (fun (s' : Sl × Unit) w' => ∃ k e1 y1 l1 hs1 F1, 1 ≤ k ∧ k + l1.length = 17 ∧ y1 = t.expect + l1.length ∧ tellF k { tk with early := e1, expect := y1 } l1 = tellF 17 tk [] ∧ (∀ j b', e1 j = some b' → j ≤ t.expect + 16) ∧
        Tun w' (G1 hs1 w'.heap.size) F1 g { tk with early := e1, expect := y1 } x ∧ Mv F w2 w' ∧ u.heap.size ≤ w'.heap.size ∧ (∀ k, F1 k → F k) ∧ OwS w' u.heap.size t_s_uint8 s'.1 hs1 ∧ All2 (OwB w' 0 t_uint8) hs1 l1 ∧ hs1.Pairwise (fun a b => ∀ y z, a.a = some y → b.a = some z → y.block ≠ z.block) ∧ (∀ k, NB hs1 k → F k ∧ ¬F1 k))
      (fun s' _ => 17 - s'.1.n) ⟨17, tk.early, tk.expect, [], [], F, by omega, rfl, by rw [hkx]; simp, rfl, hkb, ?_, hmu, Nat.le_refl _, fun k hk => hk, OwS.nil _ _ _, trivial, .nil, fun k ⟨_, h, _⟩ => (by cases h)⟩ ?_
    · refine hu.other (E := fun _ => False) (Mv.refl _ _) (fun _ h => h.elim) (fun k hk => ?_) fun k hk => ?_
      · rcases hk with (hk | ⟨_, h, _⟩) | hk
        · exact .inl hk
        · cases h
        · exact .inr hk.1
      · rcases hk with (hk | ⟨_, h, _⟩) | hk
        · exact hu.gl k hk
        · cases h
        · exact hk.2
    rintro D ⟨got, ⟨⟩⟩ v ⟨k, e1, y1, l1, hs1, F1, hk1, hkl, hy1, htell, heb, hv, hmv, hzv, hF1, hown, hall, hpw, hnb⟩
    dsimp -zeta only
    have hown : OwS v u.heap.size t_s_uint8 got hs1 := hown
    have hgn := hown.len
    have hal := hall.length
    have hev := hv.early
    simp only [EarlyR, hr] at hev
    obtain ⟨f1, sl1, hev⟩ := hev
    refine nzS ?_
    rw [addOff]
    refine ldM0 (r := some m) hv.cells (by rw [← hr]; rfl) (nzS ?_)
    rw [addOff]
    refine ldI0 hv.cells (show (tunL { tk with early := e1, expect := y1 } x).toArray[5]? = some (.int .i64 y1) from rfl) ?_
    rw [i64w (n := y1 + 1) (by omega) (by omega)]
    obtain ⟨k, rfl⟩ : ∃ k', k = k' + 1 := ⟨k - 1, by omega⟩
    rw [tellF] at htell
    dsimp only at htell
    cases hek : e1 (y1 + 1) with
    | none =>
      rw [hek] at htell
      dsimp only at htell
      refine qnM keyI mapI zI hev.map (y1 + 1) (⟨none, 0, 0⟩, false, ()) (by rw [hev.no _ hek]; rfl) ?_
      intro n
      have hfn := Fr.drewN v n
      have hvn := hv.fr hfn
      have hmn := hmv.trans (Mv.of_fr (F := fun _ => False) hfn) fun _ h => h.elim
      refine bT rfl ?_
      refine lpI (fun s' w' => Fr v w' ∧ ∃ i : Nat, i ≤ 16 ∧ s'.2.1 = i ∧ s'.1 = (bitsN e1 y1 i : Nat)) (fun s' _ => (16 - s'.2.1).toNat) ⟨hfn, 0, by omega, rfl, rfl⟩ ?_
      rintro D ⟨b', i', ⟨⟩⟩ q ⟨hfq, i, hi16, rfl, rfl⟩
      dsimp -zeta only
      have hq := hv.fr hfq
      refine bD ?_ ?_ <;> intro hlt
      · refine nzS ?_
        rw [addOff]
        refine ldM0 (r := some m) hq.cells (by rw [← hr]; rfl) (nzS ?_)
        rw [addOff]
        refine ldI0 hq.cells (show (tunL { tk with early := e1, expect := y1 } x).toArray[5]? = some (.int .i64 y1) from rfl) ?_
        rw [i64w (n := y1 + 1) (by omega) (by omega), i64w (n := y1 + 1 + (i : Int)) (by omega) (by omega), i64w (n := (i : Int) + 1) (by omega) (by omega)]
        have hmap : MapF (Value.int .i64) q m f1 := hev.map.sub (hfq.block m hev.map.lt)
        have hstep : bitsN e1 y1 (i + 1) = bitsN e1 y1 i + if (e1 (y1 + 1 + i)).isSome then 2 ^ i else 0 := rfl
        cases hei : e1 (y1 + 1 + i) with
        | none =>
          refine qnM keyI mapI zI hmap (y1 + 1 + i) (⟨none, 0, 0⟩, false, ()) (by rw [hev.no _ hei]; rfl) ?_
          intro n2
          refine bF rfl ⟨⟨hfq.trans (Fr.drewN q n2), i + 1, by omega, rfl, ?_⟩, by omega⟩
          rw [hstep, hei]; rfl
        | some b2 =>
          obtain ⟨hy2, _⟩ := hev.yes _ _ hei
          refine qnM keyI mapI zI hmap (y1 + 1 + i) (sl1 (y1 + 1 + i), true, ()) (by rw [hy2]; rfl) ?_
          intro n2
          refine bT rfl (bP (by omega) ?_)
          refine ⟨⟨hfq.trans (Fr.drewN q n2), i + 1, by omega, rfl, ?_⟩, by omega⟩
          have h15 : (2 : Nat) ^ i ≤ 2 ^ 15 := Nat.pow_le_pow_right (by decide) (by omega)
          have ew : ∀ q : Nat, q ≤ 2 ^ 15 → IntKind.i64.wrap (q : Int) = (q : Int) := fun q hq => i64w (by omega) (by omega)
          have epow : IntKind.i64.wrap (1 * 2 ^ (min (Int.toNat (i : Int)) 64)) = ((2 ^ i : Nat) : Int) := by
            rw [Int.toNat_natCast, Nat.min_eq_left (by omega), Int.one_mul, show (2 : Int) ^ i = ((2 ^ i : Nat) : Int) from by rw [Int.natCast_pow]; rfl, ew _ h15]
          rw [hstep, hei]
          rw [epow, bits_step (by omega)]
          rfl
      · obtain rfl : i = 16 := by omega
        intro n2
        have hfr := hfq.trans (Fr.drewN q n2)
        generalize q.drewN n2 = v2 at *
        have hv2 := hv.fr hfr
        refine nzS ?_
        rw [addOff]
        refine ldI0 hv2.cells (show (tunL { tk with early := e1, expect := y1 } x).toArray[8]? = some (.int .i64 tk.you) from rfl) (nzS ?_)
        rw [addOff]
        refine ldI0 hv2.cells (show (tunL { tk with early := e1, expect := y1 } x).toArray[5]? = some (.int .i64 y1) from rfl) ?_
        refine (say_ok (p := (3, 0, tk.you, 0, y1, (bitsN e1 y1 16 : Nat), ⟨none, 0, 0⟩, ())) hv2 (Bs.nil _ _) (by show tk.out.length ≤ _; rw [hko]; exact hl)).mono fun _ w' h' => ?_
        rw [hdata, ← htell]
        obtain ⟨F', x', h1', h2', h3'⟩ := h'
        have hzr := hfr.size
        have hzmu := hmu.size
        have hzv2 := hmv.size
        have hmF1 : Mv F w2 w' := (hmv.trans (Mv.of_fr (F := F1) hfr) fun k hk => .inl (hF1 k hk)).trans h2' fun k hk => .inl (hF1 k hk)
        have hul : ∀ k, F k → k < u.heap.size := hu.fl
        have hgt : ∀ ad, got.a = some ad → u.heap.size ≤ ad.block ∧ ad.block < v.heap.size := hown.own
        refine ⟨F', x', hs1, h1'.anti fun k hk => .inl hk, (Mv.of_fr (F := F) hf2).trans hmF1 fun k hk => .inl hk, fun k hk => ?_, ?_, ?_, hpw, fun k hk => .inl (hnb k hk).1, fun ad ha => ?_⟩
        · rcases h3' k hk with h4 | h4
          · exact .inl (hF1 k h4)
          · right; omega
        · refine OwS.mono ((hown.fr hfr).mv h2' fun ad ha hf => ?_) (by omega)
          have := (hgt ad ha).1
          have := hul _ (hF1 _ hf)
          omega
        · refine hall.mono fun a c ham _ ho => (ho.fr hfr).mv h2' fun ad ha => (hnb ad.block ⟨a, ham, ad, ha, rfl⟩).2
        · refine ⟨h1'.gf _ (.inr (hgt ad ha)), fun hn => ?_⟩
          have := (hgt ad ha).1
          have := hul _ (hnb _ hn).1
          omega
    | some b1 =>
      rw [hek] at htell
      dsimp only at htell
      obtain ⟨hy, hbo⟩ := hev.yes _ _ hek
      refine qnM keyI mapI zI hev.map (y1 + 1) (sl1 (y1 + 1), true, ()) (by rw [hy]; rfl) ?_
      intro n
      have hfn := Fr.drewN v n
      refine bF rfl ?_
      intro n2
      have hfn := hfn.trans (Fr.drewN _ n2)
      have hz2 : ((v.drewN n).drewN n2).heap.size = v.heap.size := rfl
      generalize (v.drewN n).drewN n2 = v2 at *
      have hv2 := hv.fr hfn
      have hev2 : EarlyM v2 F1 g x.out m e1 f1 sl1 := hev.mv (E := fun _ => False) (Mv.of_fr hfn) (fun _ h => h.elim) (fun k hk _ _ => hk) fun o ho => .inl ⟨o, ho, rfl⟩
      refine nzS ?_
      rw [addOff]
      refine ldM0 (r := some m) hv2.cells (by rw [← hr]; rfl) (nzS ?_)
      rw [addOff]
      refine ldI0 hv2.cells (show (tunL { tk with early := e1, expect := y1 } x).toArray[5]? = some (.int .i64 y1) from rfl) ?_
      rw [i64w (n := y1 + 1) (by omega) (by omega)]
      refine rnD keyI mapI hev2.map (y1 + 1) fun v3 hM hg3 hs3 => ?_
      obtain ⟨h3, he3⟩ := tun_tell hv2 hr hev2 hek hg3 hM
      refine nzS ?_
      rw [addOff]
      refine ldI0 h3.cells (show (tunL { tk with early := setE e1 (y1 + 1) none, expect := y1 } x).toArray[5]? = some (.int .i64 y1) from rfl) (nzS ?_)
      rw [addOff, i64w (n := y1 + 1) (by omega) (by omega)]
      refine st0 h3.cells (by show 5 < 12; decide) fun v4 hb4 hg4 hs4 => ?_
      have hc4 : v4.heap[g]? = some (.cells (tunL { tk with early := setE e1 (y1 + 1) none, expect := y1 + 1 } x).toArray t_tunnel_Tunnel (0, 0)) := hb4
      have h4 := h3.own (t' := { tk with early := setE e1 (y1 + 1) none, expect := y1 + 1 }) hg4 hc4 rfl rfl rfl rfl rfl
      refine nwI fun a5 v5 ha5 hs5 hf5 hb5 hr5 => ?_
      have hul : ∀ k, F k → k < u.heap.size := hu.fl
      have hgt : ∀ ad, got.a = some ad → u.heap.size ≤ ad.block ∧ ad.block < v.heap.size := hown.own
      have hgF : F g := hF1 g hv.fg
      have hmF : F m := hF1 m hev.fm
      have hgu := hul g hgF
      have hmu' := hul m hmF
      have hmv24 : Mv (fun k => k = m ∨ k = g) v v5 := (((Mv.of_fr (F := fun k => k = m ∨ k = g) hfn).trans (Mv.of_grown (F := fun k => k = m) hg3 rfl) fun k hk => .inl (.inl hk)).trans (Mv.of_grown (F := fun k => k = g) hg4 rfl) fun k hk => .inl (.inr hk)).trans (Mv.of_fr (F := fun _ => False) hf5) fun _ h => h.elim
      have hz5 := hf5.size
      have hown5 : OwS v5 u.heap.size t_s_uint8 got hs1 := hown.mv hmv24 fun ad ha e => by
        have := (hgt ad ha).1
        rcases e with e | e <;> omega
      have hne : y1 + 1 ≤ t.expect + 16 := heb _ _ hek
      refine app_S slS (by decide) (base := u.heap.size) (ms := [sl1 (y1 + 1)]) hown5 hr5 rfl (by simp; omega) (by omega) fun r v6 h6 hg6 _ => ?_
      rw [ownB_slice] at hg6
      have hz6 := hg6.size
      have hmv6 : Mv (fun k => BK got k) v5 v6 := ⟨hg6.os, hg6.tape, hg6.output, hg6.size, fun k hk hn => hg6.block k hk fun e => by
        cases hxa : got.a with
        | none => rw [hxa] at e; cases e
        | some o => rw [hxa] at e; exact hn ⟨o, hxa, (Option.some.inj e).symm⟩⟩
      have hmvA : Mv (fun k => (k = m ∨ k = g) ∨ BK got k) v v6 := (hmv24.mono fun k hk => .inl (.inl hk)).trans hmv6 fun k hk => .inl (.inr hk)
      have hsb : ∀ ad, (sl1 (y1 + 1)).a = some ad → F1 ad.block ∧ ad.block ≠ g ∧ ad.block ≠ m := fun ad ha => ⟨(hev.blk _ _ hek ad ha).1, (hev.blk _ _ hek ad ha).2.1, (hev.blk _ _ hek ad ha).2.2.1⟩
      have hngot : ∀ k, F k → ¬BK got k := fun k hk ⟨ad, h1, h2⟩ => by
        have := (hgt ad h1).1
        have := hul k hk
        omega
      have hl6 := h6.len
      have hl6 : r.n = got.n + 1 := by rw [hl6, hgn, List.length_append]; rfl
      have hg16 : got.n ≤ 16 := by omega
      refine ⟨⟨k, setE e1 (y1 + 1) none, y1 + 1, l1 ++ [b1], hs1 ++ [sl1 (y1 + 1)], fun k => F1 k ∧ ¬BK (sl1 (y1 + 1)) k, by omega, by simp; omega, by simp; omega, htell, fun j b' hj => ?_, ?_, ?_, by omega, fun k hk => hF1 k hk.1, h6, ?_, ?_, fun k hk => ?_⟩, by show 17 - r.n < 17 - got.n; rw [hl6]; omega⟩
      · unfold setE at hj
        split at hj
        · cases hj
        · exact heb j b' hj
      · refine h4.other (E := fun k => BK got k) ((Mv.of_fr (F := fun k => BK got k) hf5).trans hmv6 fun k hk => .inl hk) (fun k hk => .inl ⟨?_, fun hf => hngot k (hF1 k hf.1) hk⟩) (fun k hk => ?_) (fun k hk => ?_)
        · obtain ⟨ad, h1, h2⟩ := hk
          rw [← h2]
          exact .inl (.inr (hgt ad h1))
        · rcases hk with (hk | hk) | hk
          · exact .inl (.inl (.inl (.inl hk)))
          · rcases NB.append.1 hk with hk | hk
            · exact .inl (.inl (.inl (.inr hk)))
            · exact .inl (.inr hk)
          · by_cases hkv : k < v.heap.size
            · exact .inl (.inl (.inr ⟨hk.1, hkv⟩))
            · right; omega
        · rcases hk with (hk | hk) | hk
          · have := hu.gl k hk; omega
          · rcases NB.append.1 hk with hk | ⟨ad, h1, h2⟩
            · have := hul k (hnb k hk).1; omega
            · have := hul _ (hF1 _ (hsb ad h1).1); omega
          · exact hk.2
      · refine hmv.trans hmvA fun k hk => ?_
        rcases hk with (hk | hk) | ⟨ad, h1, h2⟩
        · rw [hk]; exact .inl hmF
        · rw [hk]; exact .inl hgF
        · have := (hgt ad h1).1
          have := hmu.size
          right; omega
      · refine All2.append (hall.mono fun a c ham _ ho => ho.mv hmvA fun ad ha e => ?_) ⟨hbo.mv hmvA fun ad ha e => ?_, trivial⟩
        · have h7 := hnb ad.block ⟨a, ham, ad, ha, rfl⟩
          rcases e with (e | e) | e
          · rw [e] at h7; exact h7.2 hev.fm
          · rw [e] at h7; exact h7.2 hv.fg
          · exact hngot _ h7.1 e
        · have h7 := hsb ad ha
          rcases e with (e | e) | e
          · exact h7.2.2 e
          · exact h7.2.1 e
          · exact hngot _ (hF1 _ h7.1) e
      · rw [List.pairwise_append]
        refine ⟨hpw, List.pairwise_singleton _ _, fun a ham c hcm y z hy hz e => ?_⟩
        rw [List.mem_singleton] at hcm
        rw [hcm] at hz
        have h7 := (hnb y.block ⟨a, ham, y, hy, rfl⟩).2
        rw [e] at h7
        exact h7 (hsb z hz).1
      · rcases NB.append.1 hk with hk | hk
        · exact ⟨(hnb k hk).1, fun h => (hnb k hk).2 h.1⟩
        · obtain ⟨ad, h1, h2⟩ := hk
          refine ⟨by rw [← h2]; exact hF1 _ (hsb ad h1).1, fun h => h.2 ⟨ad, h1, h2⟩⟩
  clear_value j2
  intro j1
  have hj1 : ∀ (y : Bool) (u : World), Fr w2 u → (y = true ↔ ((fmOf p b).sq > t.expect ∧ (fmOf p b).sq - t.expect ≤ 16)) → j1 y u := by
    intro y u hfu hyy
    have hu := h2.fr hfu
    show bif y then _ else _
    cases y with
    | true =>
      have hk : t.keep (fmOf p b) = { t with early := setE t.early p.2.2.2.1 (some b) } := if_pos (hyy.1 rfl)
      refine bT rfl ?_
      intro n
      have hfn := hfu.trans (Fr.drewN u n)
      have hu := h2.fr hfn
      refine nzS ?_
      rw [addOff]
      refine ldM0 (r := some m) hu.cells (by rw [← hr]; rfl) ?_
      refine ldI0 (hfn.heap hb1) rfl ?_
      rw [addOff]
      refine ldL0 (s := p.2.2.2.2.2.2.1) (hfn.heap hb1) rfl ?_
      have heu : EarlyM (u.drewN n) F g x.out m t.early f sl := he2.mv (E := fun _ => False) (Mv.of_fr hfn) (fun _ h => h.elim) (fun k hk _ _ => hk) fun o ho => .inl ⟨o, ho, rfl⟩
      refine ruM keyI mapI heu.map p.2.2.2.1 (slV p.2.2.2.2.2.2.1) fun w' hM hg hs => ?_
      refine hj2 w' ((Mv.of_fr (F := F) hfn).trans (Mv.of_grown hg he2.fm) fun k hk => .inl hk) ?_
      rw [hk]
      exact tun_keep hu hr heu (hb2.fr hfn) hbk hsep hg hM
    | false =>
      have hk : t.keep (fmOf p b) = t := if_neg fun h => by have := hyy.2 h; cases this
      refine bF rfl (hj2 u (Mv.of_fr hfu) ?_)
      rw [hk]; exact hu
  clear_value j1
  rw [addOff]
  refine ldI0 hb1 rfl (nzS ?_)
  rw [addOff]
  refine ldI0 h2.cells (show (tunL t x).toArray[5]? = some (.int .i64 t.expect) from rfl) ?_
  have hsq : (fmOf p b).sq = p.2.2.2.1 := rfl
  refine bD ?_ ?_ <;> intro hgt
  · refine ldI0 hb1 rfl (nzS ?_)
    rw [addOff]
    refine ldI0 h2.cells (show (tunL t x).toArray[5]? = some (.int .i64 t.expect) from rfl) ?_
    intro n
    refine hj1 _ _ (Fr.drewN w2 n) ?_
    rw [decide_eq_true_iff, hsq, i64w (by omega) (by omega)]
    exact ⟨fun h => ⟨hgt, h⟩, fun h => h.2⟩
  · intro n
    refine hj1 _ _ (Fr.drewN w2 n) ?_
    rw [hsq]
    exact ⟨(fun h => by cases h), fun h => absurd h.1 hgt⟩
end
end Go.Proofs.YtmhibpcbdbhfoaaDoor
namespace Go.Proofs.YtmhibpcbdbhfoaaDoor
open Go.RowKit Go.Fl

theorem wayV_set2 {hs : WayH} {j : Nat} (h : j < hs.length) (v : Int) : (wayV hs).set (j * 3 + 2) (.int .i64 v) = wayV (hs.set j (hs[j].1, hs[j].2.1, v)) := by
  induction hs generalizing j with
  | nil => simp at h
  | cons b l ih =>
    have e : ∀ c : Int × Sl × Int, ∀ m : WayH, wayV (c :: m) = .int .i64 c.1 :: slV c.2.1 :: .int .i64 c.2.2 :: wayV m := fun c m => by simp [wayV]
    cases j with
    | zero => rw [e]; simp [e]
    | succ j =>
      have := ih (j := j) (by simpa using h)
      rw [List.set_cons_succ, e, e, show (j + 1) * 3 + 2 = j * 3 + 2 + 1 + 1 + 1 from by omega]
      simp only [List.set_cons_succ, List.getElem_cons_succ]
      rw [this]
/-- The age of a frame of an own row is written. -/
theorem stAge {w : World} {base : Nat} {s : Sl} {hs : WayH} {i v : Int} {j : Nat} {K : World → Prop} (h : OwW w base s hs) (hij : i = (j : Int)) (hj : j < hs.length)
    (hk : ∀ w', OwW w' base s (hs.set j (hs[j].1, hs[j].2.1, v)) → Mv (BK s) w w' → w'.heap.size = w.heap.size → K w') : ixa s.a s.n i 3 fun ad => st1 w (ad.add 2) (.int .i64 v) K := by
  subst hij
  have hl := h.len
  obtain ⟨h1, h2⟩ := h
  rcases h2 with ⟨_, hn⟩ | ⟨g, cap, cur, hs', hb, hg, hnc, hcm, hsz, ht⟩
  · omega
  · have ha : s.a = some ⟨g, 0, none⟩ := by injection hs'
    refine ⟨by omega, by omega, ?_⟩
    rw [ha]
    show st1 w ((atOff ⟨g, 0, none⟩ (j : Int) 3).add 2) _ K
    rw [atOff_eq, addOff, addOff, Nat.zero_add, Int.toNat_natCast]
    refine st0 hg (by omega) fun w' hb' hgr hsz' => hk w' ⟨by rw [wayV_length, List.length_set]; omega, .inr ⟨g, cap, _, hs', hb, hb', hnc, hcm, by simp; omega, ?_⟩⟩ (Mv.of_grown hgr ⟨_, ha, rfl⟩) hsz'
    rw [Array.toList_setIfInBounds, List.take_set, ht, wayV_set2 hj]
theorem All2.map2 {α β γ δ : Type} {R : γ → δ → Prop} {f : α → γ} {g : β → δ} : ∀ {l : List α} {m : List β}, All2 (fun a b => R (f a) (g b)) l m → All2 R (l.map f) (m.map g)
  | [], [], _ => trivial
  | _ :: _, _ :: _, h => ⟨h.1, All2.map2 h.2⟩
  | [], _ :: _, h => h.elim
  | _ :: _, [], h => h.elim
abbrev oldH (a : Int × Sl × Int) : Int × Sl × Int := (a.1, a.2.1, wr (a.2.2 + 1))
theorem age_set {hs : WayH} {i : Nat} (h : i < hs.length) : ((hs.take i).map oldH ++ hs.drop i).set i (oldH hs[i]) = (hs.take (i + 1)).map oldH ++ hs.drop (i + 1) := by
  have hl : ((hs.take i).map oldH).length = i := by rw [List.length_map, List.length_take]; omega
  rw [List.set_append_right _ _ (by omega), hl, Nat.sub_self, List.drop_eq_getElem_cons h, List.set_cons_zero, List.take_succ_eq_append_getElem h, List.map_append]
  simp
theorem age_get {hs : WayH} {i : Nat} (h : i < hs.length) (h' : i < ((hs.take i).map oldH ++ hs.drop i).length) : ((hs.take i).map oldH ++ hs.drop i)[i] = hs[i] := by
  have hl : ((hs.take i).map oldH).length = i := by rw [List.length_map, List.length_take]; omega
  have e : ((hs.take i).map oldH ++ hs.drop i)[i]? = hs[i]? := by rw [List.getElem?_append_right (by omega), hl, Nat.sub_self, List.getElem?_drop, Nat.add_zero]
  exact Option.some.inj ((List.getElem?_eq_getElem h').symm.trans (e.trans (List.getElem?_eq_getElem h)))
theorem age_get2 {hs : WayH} {i : Nat} (h : i < hs.length) (h' : i < ((hs.take (i + 1)).map oldH ++ hs.drop (i + 1)).length) : ((hs.take (i + 1)).map oldH ++ hs.drop (i + 1))[i] = oldH hs[i] := by
  have e : ((hs.take (i + 1)).map oldH ++ hs.drop (i + 1))[i]? = some (oldH hs[i]) := by
    rw [List.getElem?_append_left (by rw [List.length_map, List.length_take]; omega), List.getElem?_map, List.getElem?_take_of_lt (by omega), List.getElem?_eq_getElem h]; rfl
  exact Option.some.inj ((List.getElem?_eq_getElem h').symm.trans e)
theorem ixAge {w : World} {s : Sl} {hs : WayH} {j : Nat} {K : Int → Prop} (hr : Rd w s.a (wayV hs)) (hl : s.n = hs.length) (hj : j < hs.length) (h : K hs[j].2.2) : ixa s.a s.n (j : Int) 3 fun a => ld (.I .i64) w (a.add 2) K :=
  ixa_mono (ixW3 (K := fun e => K e.2.2.1) hr hl rfl hj h) fun _ => ldSent2
theorem ixSeq {w : World} {s : Sl} {hs : WayH} {j : Nat} {K : Int → Prop} (hr : Rd w s.a (wayV hs)) (hl : s.n = hs.length) (hj : j < hs.length) (h : K hs[j].1) : ixa s.a s.n (j : Int) 3 fun a => ld (.I .i64) w a K :=
  ixa_mono (ixW3 (K := fun e => K e.1) hr hl rfl hj h) fun _ => ldSent0
theorem ixBody {w : World} {s : Sl} {hs : WayH} {j : Nat} {K : Sl → Prop} (hr : Rd w s.a (wayV hs)) (hl : s.n = hs.length) (hj : j < hs.length) (h : K hs[j].2.1) : ixa s.a s.n (j : Int) 3 fun a => ld .L w (a.add 1) K :=
  ixa_mono (ixW3 (K := fun e => K e.2.1) hr hl rfl hj h) fun _ => ldSent1
theorem ageF_way : ∀ (l : List (Int × List UInt8 × Int)) (t : Tn), ∃ o, ageF t l = { t with out := t.out ++ o } ∧ o.length ≤ l.length
  | [], t => ⟨[], by simp [ageF], Nat.le_refl _⟩
  | y :: l, t => by
    unfold ageF
    split
    · obtain ⟨o, h1, h2⟩ := ageF_way l (t.say ⟨2, 0, t.you, y.1, 0, 0, y.2.1⟩)
      rw [h1]
      exact ⟨[(putF { (⟨2, 0, t.you, y.1, 0, 0, y.2.1⟩ : Fm) with fr := t.me }).1] ++ o, by simp [Tn.say], by simp; omega⟩
    · obtain ⟨o, h1, h2⟩ := ageF_way l t
      rw [h1]
      exact ⟨o, rfl, by simp; omega⟩
section
variable {w : World} {G F : Nat → Prop} {g : Nat} {t : Tn} {x : Shp}
theorem tick_ok (h : Tun w G F g t x) (hme : 1 ≤ t.me) (hw : t.way.length ≤ 64) (hl : t.out.length ≤ 1073741000) :
    cl Tryd.prog n_tunnel_Tunnel_Tick #[.pointer (some ⟨g, 0, none⟩)] (.tup .nil) w fun (_ : Unit) w' => TunTo w w' G F g t.tick := by
  refine tunnel_Tunnel_Tick.cl (p0 := some ⟨g, 0, none⟩) ?_
  unfold tunnel_Tunnel_Tick
  refine (made_ok h hme).mono ?_
  rintro _ _ ⟨rfl, rfl⟩
  refine bF rfl (nzS ?_)
  rw [addOff]
  refine ldI0 h.cells (show (tunL t x).toArray[10]? = some (.int .i64 t.ticks) from rfl) (nzS ?_)
  rw [addOff]
  refine st0 h.cells (by show 10 < 12; decide) fun w6 hb6 hg6 hs6 => ?_
  have h6 := h.own (t' := { t with ticks := wr (t.ticks + 1) }) hg6 hb6 rfl rfl rfl rfl rfl
  have m6 : Mv F w w6 := mv_g hg6 h.fg
  have pre6 : ∀ {u : World} {t' : Tn}, TunTo w6 u G F g t' → TunTo w u G F g t' := fun h' => TunTo.step m6 (fun k hk => .inl hk) h'
  refine nzS ?_
  refine ldB0 h6.cells (show (tunL { t with ticks := wr (t.ticks + 1) } x).toArray[0]? = some (.bool t.up) from rfl) ?_
  cases hu : t.up with
  | false =>
    have e : t.tick = if t.you > 0 ∧ Int.tmod (wr (t.ticks + 1)) 4 = 0 then ({ t with ticks := wr (t.ticks + 1) } : Tn).say (hel t.you) else { t with ticks := wr (t.ticks + 1) } := by
      unfold Tn.tick; dsimp only; rw [if_pos hu]
    rw [e]
    refine bT rfl ?_
    dsimp -zeta only
    intro j1
    have hj1 : ∀ y : Bool, (y = true ↔ (t.you > 0 ∧ Int.tmod (wr (t.ticks + 1)) 4 = 0)) → j1 y w6 := by
      intro y hy
      show bif y then _ else _
      cases y with
      | true =>
        rw [if_pos (hy.1 rfl)]
        refine bT rfl (nzS ?_)
        rw [addOff]
        refine ldI0 h6.cells (show (tunL { t with ticks := wr (t.ticks + 1) } x).toArray[8]? = some (.int .i64 t.you) from rfl) ?_
        exact (say_ok (p := (1, 0, t.you, 0, 0, 0, ⟨none, 0, 0⟩, ())) h6 (Bs.nil _ _) (by show t.out.length ≤ _; omega)).mono fun _ _ h' => pre6 h'
      | false =>
        rw [if_neg fun h => by have := hy.2 h; cases this]
        exact bF rfl (pre6 (TunTo.refl h6))
    clear_value j1
    refine nzS ?_
    rw [addOff]
    refine ldI0 h6.cells (show (tunL { t with ticks := wr (t.ticks + 1) } x).toArray[8]? = some (.int .i64 t.you) from rfl) ?_
    refine bD ?_ ?_ <;> intro hy
    · refine nzS ?_
      rw [addOff]
      refine ldI0 h6.cells (show (tunL { t with ticks := wr (t.ticks + 1) } x).toArray[10]? = some (.int .i64 (wr (t.ticks + 1))) from rfl) ?_
      exact hj1 _ (by rw [beq_iff_eq]; exact ⟨fun h => ⟨hy, h⟩, fun h => h.2⟩)
    · exact hj1 false ⟨(fun h => by cases h), fun h => absurd h.1 hy⟩
  | true =>
  refine bF rfl (nzS ?_)
  rw [addOff]
  refine ldI0 h6.cells (show (tunL { t with ticks := wr (t.ticks + 1) } x).toArray[1]? = some (.int .i64 t.sil) from rfl) (nzS ?_)
  rw [addOff]
  refine st0 h6.cells (by show 1 < 12; decide) fun w26 hb26 hg26 hs26 => ?_
  let t2 : Tn := { t with ticks := wr (t.ticks + 1), sil := wr (t.sil + 1) }
  have h26 : Tun w26 G F g t2 x := h6.own (t' := t2) hg26 hb26 rfl rfl rfl rfl rfl
  have m26 : Mv F w w26 := m6.trans (mv_g hg26 h.fg) fun k hk => .inl hk
  have pre26 : ∀ {u : World} {t' : Tn}, TunTo w26 u G F g t' → TunTo w u G F g t' := fun h' => TunTo.step m26 (fun k hk => .inl hk) h'
  have e : t.tick = if t2.sil ≥ 64 then t2.fin else t2.tickUp := by
    unfold Tn.tick; dsimp only; rw [if_neg (by rw [hu]; decide)]
  rw [e]
  refine nzS ?_
  rw [addOff]
  refine ldI0 h26.cells (show (tunL t2 x).toArray[1]? = some (.int .i64 (wr (t.sil + 1))) from rfl) ?_
  refine bD ?_ ?_ <;> intro h64
  · rw [if_pos h64]
    exact (fin_ok h26).mono fun _ _ h' => pre26 h'
  rw [if_neg h64]
  dsimp -zeta only
  intro j2
  have hj2 : ∀ (u : World) (t3 : Tn), TunTo w26 u G F g t3 → t3 = (if Int.tmod t2.ticks 8 = 0 then t2.say (hel t2.you) else t2) → t3.way = t.way → t3.you = t.you → t3.out.length ≤ 1073741001 → j2 u := by
    intro u t3 hto ht3 hway3 hyou3 hout3
    have e3 : t2.tickUp = { (ageF t3 t3.way) with way := older t3.way } := by
      unfold Tn.tickUp
      rw [← ht3, hway3]
    obtain ⟨F1, x1, h3, m3, f3⟩ := hto
    unfold j2
    rw [e3]
    obtain ⟨hs, hwr⟩ := h3.way
    have hwl := hwr.all.length
    rw [hway3] at hwl
    refine nzS ?_
    rw [addOff]
    refine ldL0 (s := x1.way) h3.cells rfl ?_
    refine (Clone_sent_ok hwr.rd hwr.len (by omega)).mono ?_
    rintro x5 w66 ⟨h5, hf5⟩
    have hx5 : ∀ ad, x5.a = some ad → u.heap.size ≤ ad.block ∧ ad.block < w66.heap.size := h5.own
    have hz5 := hf5.size
    let G1 : Nat → Prop := fun k => G k ∨ (u.heap.size ≤ k ∧ k < w66.heap.size)
    have h66 : Tun w66 G1 F1 g t3 x1 := h3.other (E := fun _ => False) (Mv.of_fr hf5) (fun _ h => h.elim) (fun k hk => hk.imp id fun h => h.1) fun k hk => hk.elim (fun h => by have := h3.gl k h; omega) fun h => h.2
    refine lpI (fun (s' : Int × Unit) v => ∃ (i : Nat) (F4 : Nat → Prop) (x4 : Shp) (o : List (List UInt8)), i ≤ hs.length ∧ s'.1 = i ∧ o.length ≤ i ∧ Tun v G1 F4 g { t3 with out := t3.out ++ o } x4 ∧ ageF { t3 with out := t3.out ++ o } (t3.way.drop i) = ageF t3 t3.way ∧ OwW v u.heap.size x5 ((hs.take i).map oldH ++ hs.drop i) ∧
        All2 (fun a b => a.1 = b.1 ∧ Cb v (Zt G1 F4) a.2.1 b.2.1 ∧ a.2.2 = b.2.2) hs t3.way ∧ Mv F1 u v ∧ u.heap.size ≤ v.heap.size ∧ ∀ k, F4 k → F1 k ∨ u.heap.size ≤ k) (fun s' _ => (x5.n - s'.1).toNat)
      ⟨0, F1, x1, [], Nat.zero_le _, rfl, Nat.le_refl _, by rw [List.append_nil]; exact h66, by rw [List.append_nil]; rfl, by simpa using h5, ?_, Mv.of_fr hf5, hz5, fun k hk => .inl hk⟩ ?_
    · exact hwr.all.mono fun a c _ _ hr => ⟨hr.1, hr.2.1.mv (Mv.of_fr (F := fun _ => False) hf5) (fun _ h => h.elim) fun k hk => by
        rcases hk with (hk | hk) | hk
        · exact .inl (.inl hk)
        · exact .inr hk.1
        · exact .inl (.inr hk), hr.2.2⟩
    rintro D ⟨i', ⟨⟩⟩ v ⟨i, F4, x4, o, hih, rfl, hol, h4, hage, hown, hall, hmv, hzv, hF4⟩
    dsimp -zeta only
    have hn5 := h5.len
    have hrl : ((hs.take i).map oldH ++ hs.drop i).length = hs.length := by
      rw [List.length_append, List.length_map, List.length_take, List.length_drop]; omega
    have hal := hall.length
    refine bD ?_ ?_ <;> intro hlt
    · have hi1 : i < hs.length := by omega
      have hi2 : i < t3.way.length := by omega
      have hi3 : i < ((hs.take i).map oldH ++ hs.drop i).length := by omega
      have hi4 : i < ((hs.take (i + 1)).map oldH ++ hs.drop (i + 1)).length := by
        rw [List.length_append, List.length_map, List.length_take, List.length_drop]; omega
      obtain ⟨ra, rb, rc⟩ := hall.get hi1 hi2
      refine ixAge hown.rd hown.len hi3 ?_
      rw [age_get hi1]
      refine stAge hown rfl hi3 fun v2 hown2 hmb hzs => ?_
      rw [age_get hi1] at hown2
      have hown2 : OwW v2 u.heap.size x5 (((hs.take i).map oldH ++ hs.drop i).set i (oldH hs[i])) := hown2
      rw [age_set hi1] at hown2
      refine ixAge hown2.rd hown2.len hi4 ?_
      rw [age_get2 hi1, i64w (n := (i : Int) + 1) (by omega) (by omega)]
      have hbE : ∀ k, BK x5 k → (G1 k ∧ ¬F4 k) ∨ v.heap.size ≤ k := fun k ⟨ad, h1, h2⟩ => by
        have hg : G1 k := by rw [← h2]; exact .inr (hx5 ad h1)
        exact .inl ⟨hg, h4.gf k hg⟩
      have h42 : Tun v2 G1 F4 g { t3 with out := t3.out ++ o } x4 := h4.other hmb hbE (fun k hk => .inl hk) fun k hk => by have := h4.gl k hk; omega
      have hall2 : All2 (fun a b => a.1 = b.1 ∧ Cb v2 (Zt G1 F4) a.2.1 b.2.1 ∧ a.2.2 = b.2.2) hs t3.way := hall.mono fun a c _ _ hr => ⟨hr.1, hr.2.1.mv hmb (fun k hk => (hbE k hk).imp (fun h => .inl h.1) id) fun k hk => .inl hk, hr.2.2⟩
      have hmv2 : Mv F1 u v2 := hmv.trans hmb fun k ⟨ad, h1, h2⟩ => by rw [← h2]; exact .inr (hx5 ad h1).1
      have hdrop : t3.way.drop i = t3.way[i] :: t3.way.drop (i + 1) := List.drop_eq_getElem_cons hi2
      rw [hdrop, ageF] at hage
      dsimp only at hage
      have hcond : (oldH hs[i]).2.2 = wr (t3.way[i].2.2 + 1) := by show wr (hs[i].2.2 + 1) = _; rw [rc]
      refine bE ?_ ?_ <;> intro hmod
      · rw [hcond] at hmod
        rw [if_pos hmod] at hage
        intro n
        have hfn := Fr.drewN v2 n
        have hzn : (v2.drewN n).heap.size = v2.heap.size := rfl
        generalize v2.drewN n = v3 at *
        have h43 := h42.fr hfn
        have hown3 := hown2.fr hfn
        have hall3 : All2 (fun a b => a.1 = b.1 ∧ Cb v3 (Zt G1 F4) a.2.1 b.2.1 ∧ a.2.2 = b.2.2) hs t3.way := hall2.mono fun a c _ _ hr => ⟨hr.1, hr.2.1.mv (Mv.of_fr (F := fun _ => False) hfn) (fun _ h => h.elim) fun k hk => .inl hk, hr.2.2⟩
        refine nzS ?_
        rw [addOff]
        refine ldI0 h43.cells (show (tunL { t3 with out := t3.out ++ o } x4).toArray[8]? = some (.int .i64 t3.you) from rfl) ?_
        refine ixSeq hown3.rd hown3.len hi4 ?_
        refine ixBody hown3.rd hown3.len hi4 ?_
        rw [age_get2 hi1]
        obtain ⟨_, rb3, _⟩ := hall3.get hi1 hi2
        refine (say_ok (p := (2, 0, t3.you, hs[i].1, 0, 0, hs[i].2.1, ())) (b := t3.way[i].2.1) h43 rb3.bs ?_).mono fun _ v4 h' => ?_
        · show (t3.out ++ o).length ≤ _
          rw [List.length_append]; omega
        obtain ⟨F5, x5', h5', m5, f5⟩ := h'
        have hsay : ({ t3 with out := t3.out ++ o } : Tn).say (fmOf (2, 0, t3.you, hs[i].1, 0, 0, hs[i].2.1, ()) t3.way[i].2.1) = { t3 with out := t3.out ++ (o ++ [(putF { (⟨2, 0, t3.you, t3.way[i].1, 0, 0, t3.way[i].2.1⟩ : Fm) with fr := t3.me }).1]) } := by
          rw [← ra]
          show ({ t3 with out := (t3.out ++ o) ++ [_] } : Tn) = _
          rw [List.append_assoc]
        have hsay2 : ({ t3 with out := t3.out ++ o } : Tn).say ⟨2, 0, t3.you, t3.way[i].1, 0, 0, t3.way[i].2.1⟩ = { t3 with out := t3.out ++ (o ++ [(putF { (⟨2, 0, t3.you, t3.way[i].1, 0, 0, t3.way[i].2.1⟩ : Fm) with fr := t3.me }).1]) } := by
          show ({ t3 with out := (t3.out ++ o) ++ [_] } : Tn) = _
          rw [List.append_assoc]
        rw [hsay] at h5'
        rw [hsay2] at hage
        have hz43 := m5.size
        refine ⟨⟨i + 1, F5, x5', _, by omega, rfl, by rw [List.length_append]; simp; omega, h5', hage, ?_, ?_, ?_, by omega, fun k hk => ?_⟩, by omega⟩
        · exact hown3.mv m5 fun ad ha => h4.gf _ (.inr (hx5 ad ha))
        · refine hall3.mono fun a c _ _ hr => ⟨hr.1, hr.2.1.mv m5 (fun k hk => .inl (.inr hk)) fun k hk => ?_, hr.2.2⟩
          rcases hk with hk | hk
          · exact .inl (.inl hk)
          · exact (f5 k hk).imp .inr id
        · exact (hmv2.trans (Mv.of_fr (F := fun _ => False) hfn) fun _ h => h.elim).trans m5 hF4
        · rcases f5 k hk with h | h
          · exact hF4 k h
          · right; omega
      · rw [hcond] at hmod
        rw [if_neg hmod] at hage
        exact ⟨⟨i + 1, F4, x4, o, by omega, rfl, by omega, h42, hage, hown2, hall2, hmv2, by omega, hF4⟩, by omega⟩
    · obtain rfl : i = hs.length := by omega
      rw [List.take_length, List.drop_length, List.append_nil] at hown
      rw [hal, List.drop_length] at hage
      have hage : ({ t3 with out := t3.out ++ o } : Tn) = ageF t3 t3.way := hage
      have h4' : Tun v G F4 g { t3 with out := t3.out ++ o } x4 := h4.anti fun k hk => .inl hk
      refine nzS ?_
      rw [addOff]
      refine st0 h4'.cells (by show 3 < 12; decide) fun v2 hb2 hg2 hs2 => ?_
      have hmg : Mv (fun k => k = g) v v2 := Mv.of_grown hg2 rfl
      have hgx : ∀ ad, x5.a = some ad → ad.block ≠ g := fun ad ha e => h4.gf _ (.inr (hx5 ad ha)) (by rw [e]; exact h4.fg)
      have hxG : ∀ ad, x5.a = some ad → ¬Zt G F4 ad.block := fun ad ha hz => by
        rcases hz with hz | hz
        · have := h3.gl _ hz; have := (hx5 ad ha).1; omega
        · exact h4.gf _ (.inr (hx5 ad ha)) hz
      rw [← hage]
      have hown2 : OwW v2 u.heap.size x5 (hs.map oldH) := hown.mv hmg hgx
      have h7 : Tun v2 G F4 g { t3 with out := t3.out ++ o, way := older t3.way } ⟨x5, x4.queue, x4.out, x4.r⟩ := by
        refine h4'.wq (t' := { t3 with out := t3.out ++ o, way := older t3.way }) (x' := ⟨x5, x4.queue, x4.out, x4.r⟩) hmg hb2 rfl rfl rfl rfl rfl ⟨hs.map oldH, ⟨hown2.rd, hown2.len, hown2.cap, fun _ ad ha => hxG ad ha, ?_⟩⟩ (h4'.queueK hmg (fun k hk => .inl (by rw [hk]; exact h4.fg)) fun k hk => .inl hk)
        refine All2.map2 (hall.mono fun a c _ _ hr => ⟨hr.1, ?_, by show wr (a.2.2 + 1) = wr (c.2.2 + 1); rw [hr.2.2]⟩)
        exact (hr.2.1.anti (Z' := Zt G F4) fun k hk => hk.imp .inl id).mv hmg (fun k hk => .inl (.inr (by rw [hk]; exact h4.fg))) fun k hk => .inl hk
      refine pre26 (TunTo.step m3 f3 ⟨F4, _, h7, hmv.trans hmg fun k hk => ?_, hF4⟩)
      rw [hk]; exact hF4 g h4.fg
  clear_value j2
  refine nzS ?_
  rw [addOff]
  refine ldI0 h26.cells (show (tunL t2 x).toArray[10]? = some (.int .i64 (wr (t.ticks + 1))) from rfl) ?_
  refine bE ?_ ?_ <;> intro h8
  · refine nzS ?_
    rw [addOff]
    refine ldI0 h26.cells (show (tunL t2 x).toArray[8]? = some (.int .i64 t.you) from rfl) ?_
    refine (say_ok (p := (1, 0, t.you, 0, 0, 0, ⟨none, 0, 0⟩, ())) h26 (Bs.nil _ _) (by show t.out.length ≤ _; omega)).mono fun _ u h' => ?_
    refine hj2 u _ h' (by rw [if_pos h8]; rfl) rfl rfl ?_
    rw [say_len]
    show t.out.length + 1 ≤ _
    omega
  · exact hj2 w26 t2 (TunTo.refl h26) (by rw [if_neg h8]) rfl rfl (by show t.out.length ≤ _; omega)
end
end Go.Proofs.YtmhibpcbdbhfoaaDoor
namespace Go.Proofs.YtmhibpcbdbhfoaaDoor
open Go.RowKit Go.Fl

section
variable {w : World} {G F : Nat → Prop} {g : Nat} {t : Tn} {x : Shp}
theorem take_ok {s : Sl} {b : List UInt8} (h : Tun w G F g t x) (hi : t.inv) (hb : Bs w s b) (hbl : b.length ≤ 140737488351232) (hl : t.out.length ≤ 1073741000) :
    cl Tryd.prog n_tunnel_Tunnel_Take #[.pointer (some ⟨g, 0, none⟩), .slice s.a s.n s.c] (.tup (.pair .L (.pair (.I .i64) .nil))) w fun (r : Sl × Int × Unit) w' => r.2.1 = (t.take b).2.2 ∧ Told w w' G F g (t.take b).1 r.1 (t.take b).2.1 := by
  refine tunnel_Tunnel_Take.cl (p0 := some ⟨g, 0, none⟩) (p1 := s) ?_
  unfold tunnel_Tunnel_Take
  refine (made_ok h hi.me.1).mono ?_
  rintro _ _ ⟨rfl, rfl⟩
  refine bF rfl ?_
  refine (tGet_ok h.crc hb hbl).mono ?_
  rintro ⟨p, e, ⟨⟩⟩ w4 ⟨hG, hf4⟩
  dsimp -zeta only
  refine nwI fun a5 w6 ha5 hs6 hf6 hb6 _ => ?_
  have hz4 := hf4.size
  refine stW (Kd.av k_api_Frame p) rfl hb6 rfl fun w7 hb7 hg7 hs7 => ?_
  have hf7 : Fr w w7 := (hf4.trans hf6).on (grown_below hg7 (by omega) (by omega))
  have h7 := h.fr hf7
  have hgl := tun_lt h
  have to7 : ∀ {u : World} {t' : Tn}, TunTo w7 u G F g t' → TunTo w u G F g t' := fun h' => TunTo.step (Mv.of_fr hf7) (fun k hk => .inl hk) h'
  cases hgf : getF b with
  | none =>
    unfold FGetP at hG
    rw [hgf] at hG
    obtain ⟨rfl, he⟩ := Prod.mk.inj hG
    obtain ⟨rfl, _⟩ := Prod.mk.inj he
    have hne : getE b ≠ 0 := fun h => by have := getE_zero.1 h; rw [hgf] at this; cases this
    have et : t.take b = (t, [], getE b) := by unfold Tn.take; rw [hgf]
    rw [et]
    refine bNe (fun _ => ⟨rfl, Told.none (to7 (TunTo.refl h7))⟩) fun h => absurd h hne
  | some f =>
    unfold FGetP at hG
    rw [hgf] at hG
    obtain ⟨h1, hp, hbo⟩ := hG
    obtain ⟨rfl, _⟩ := Prod.mk.inj h1
    dsimp only at hp hbo
    have hok := (getF_back hgf).1
    have hin := okF_in hok
    have et : t.take b = if f.k = 1 then (t.hello f, [], 0) else if t.up = false ∨ f.fr ≠ t.you ∨ f.yo ≠ t.me then ((if f.yo ≠ t.me ∧ f.fr ≥ t.you then t.say (hel f.fr) else t), [], 0)
        else if f.k = 3 then (({ t with sil := 0 } : Tn).ack f, [], 0) else ((({ t with sil := 0 } : Tn).data f).1, (({ t with sil := 0 } : Tn).data f).2, 0) := by
      unfold Tn.take; rw [hgf]
    rw [et]
    have ek : p.1 = f.k := congrArg Fm.k hp
    have efr : p.2.1 = f.fr := congrArg Fm.fr hp
    have eyo : p.2.2.1 = f.yo := congrArg Fm.yo hp
    have esq : p.2.2.2.1 = f.sq := congrArg Fm.sq hp
    have ebi : p.2.2.2.2.2.1 = f.bi := congrArg Fm.bi hp
    have hb7' : w7.heap[a5]? = some (.cells (frC p).toArray t_api_Frame (0, 0)) := hb7
    have cfr : ∀ {u : World} {K : Int → Prop}, Fr w7 u → K f.fr → ld (.I .i64) u ((⟨a5, 0, none⟩ : Addr).add 1) K := fun hf hK => ldI0 (hf.heap hb7') (show (frC p).toArray[1]? = some (.int .i64 p.2.1) from rfl) (by rw [efr]; exact hK)
    have cyo : ∀ {u : World} {K : Int → Prop}, Fr w7 u → K f.yo → ld (.I .i64) u ((⟨a5, 0, none⟩ : Addr).add 2) K := fun hf hK => ldI0 (hf.heap hb7') (show (frC p).toArray[2]? = some (.int .i64 p.2.2.1) from rfl) (by rw [eyo]; exact hK)
    have me : ∀ {u : World} {K : Int → Prop}, Fr w7 u → K t.me → nz (some ⟨g, 0, none⟩) fun a => ld (.I .i64) u (a.add 7) K := fun hf hK => ldI0 (hf.heap h7.cells) (show (tunL t x).toArray[7]? = some (.int .i64 t.me) from rfl) hK
    have you : ∀ {u : World} {K : Int → Prop}, Fr w7 u → K t.you → nz (some ⟨g, 0, none⟩) fun a => ld (.I .i64) u (a.add 8) K := fun hf hK => ldI0 (hf.heap h7.cells) (show (tunL t x).toArray[8]? = some (.int .i64 t.you) from rfl) hK
    refine bF rfl ?_
    refine ldI0 hb7' (show (frC p).toArray[0]? = some (.int .i64 p.1) from rfl) ?_
    rw [ek]
    refine bE ?_ ?_ <;> intro hk1
    · rw [if_pos hk1]
      refine ldW (k := k_api_Frame) (x := p) hb7 rfl ?_
      refine (hello_ok (p := p) (b := f.bd) h7 (by omega)).mono fun _ u h' => ⟨rfl, Told.none (to7 ?_)⟩
      rw [hp] at h'; exact h'
    rw [if_neg hk1]
    intro j2
    have hj2 : ∀ (y : Bool) (u : World), Fr w7 u → (y = true ↔ (t.up = false ∨ f.fr ≠ t.you ∨ f.yo ≠ t.me)) → j2 y u := by
      intro y u hfu hyy
      unfold j2
      have hu := h7.fr hfu
      have toU : ∀ {v : World} {t' : Tn}, TunTo u v G F g t' → TunTo w v G F g t' := fun h' => to7 (TunTo.step (Mv.of_fr hfu) (fun k hk => .inl hk) h')
      cases y with
      | true =>
        rw [if_pos (hyy.1 rfl)]
        refine bT rfl ?_
        dsimp -zeta only
        intro j3
        have hj3 : ∀ (z : Bool) (v : World), Fr u v → (z = true ↔ (f.yo ≠ t.me ∧ f.fr ≥ t.you)) → j3 z v := by
          intro z v hfv hzz
          show bif z then _ else _
          have hv := hu.fr hfv
          have toV : ∀ {q : World} {t' : Tn}, TunTo v q G F g t' → TunTo w q G F g t' := fun h' => toU (TunTo.step (Mv.of_fr hfv) (fun k hk => .inl hk) h')
          cases z with
          | true =>
            rw [if_pos (hzz.1 rfl)]
            refine bT rfl (cfr (hfu.trans hfv) ?_)
            exact (say_ok (p := (1, 0, f.fr, 0, 0, 0, ⟨none, 0, 0⟩, ())) hv (Bs.nil _ _) (by omega)).mono fun _ q h' => ⟨rfl, Told.none (toV h')⟩
          | false =>
            rw [if_neg fun h => by have := hzz.2 h; cases this]
            exact bF rfl ⟨rfl, Told.none (toV (TunTo.refl hv))⟩
        clear_value j3
        refine cyo hfu (me hfu ?_)
        refine bNe ?_ ?_ <;> intro hy
        · refine cfr hfu (you hfu ?_)
          intro n
          refine hj3 _ _ (Fr.drewN u n) ?_
          rw [decide_eq_true_iff]
          exact ⟨fun h => ⟨hy, h⟩, fun h => h.2⟩
        · intro n
          exact hj3 false _ (Fr.drewN u n) ⟨(fun h => by cases h), fun h => absurd hy h.1⟩
      | false =>
        have hcond : ¬(t.up = false ∨ f.fr ≠ t.you ∨ f.yo ≠ t.me) := fun h => by have := hyy.2 h; cases this
        rw [if_neg hcond]
        have hup : t.up = true := by
          cases hup : t.up with
          | true => rfl
          | false => exact absurd (.inl hup) hcond
        refine bF rfl ?_
        -- the body's block is the tunnel's from here on
        obtain ⟨m, hr⟩ : ∃ m, x.r = some m := by
          cases hx : x.r with
          | none => exact absurd hx (h.upr hup)
          | some m => exact ⟨m, rfl⟩
        have he0 := h.early
        simp only [EarlyR, hr] at he0
        obtain ⟨fm, sl, he0⟩ := he0
        let Fk : Nat → Prop := fun k => F k ∨ BK p.2.2.2.2.2.2.1 k
        have hFk : ∀ k, Fk k → F k ∨ w.heap.size ≤ k := fun k hk => hk.imp id fun ⟨ad, h1, h2⟩ => by rw [← h2]; exact (hbo.own ad h1).1
        have hfwu := hf7.trans hfu
        have hf4u : Fr w4 u := by
          have h67 : Fr w4 w7 := hf6.on (grown_below hg7 (by omega) (by omega))
          exact h67.trans hfu
        have hz4u := hf4u.size
        have heu : EarlyM u Fk g x.out m t.early fm sl := he0.mv (E := fun _ => False) (Mv.of_fr hfwu) (fun _ h => h.elim) (fun k hk _ _ => .inl hk) fun o ho => .inl ⟨o, ho, rfl⟩
        have hku : Tun u G Fk g t x := by
          refine h.re (E := fun _ => False) (Mv.of_fr hfwu) (fun _ h => h.elim) (fun _ _ h => h) hFk (fun k hk => ?_) (.inl h.fg) (fun o ho => .inl (h.outf o ho).1) (hfwu.heap h.cells) rfl rfl (h.wayK (E := fun _ => False) (Mv.of_fr hfwu) (fun _ h => h.elim) hFk) (h.queueK (E := fun _ => False) (Mv.of_fr hfwu) (fun _ h => h.elim) hFk) ?_ h.upr
          · rcases hk with hk | ⟨ad, h1, h2⟩
            · have := h.fl k hk; omega
            · have := (hbo.own ad h1).2; omega
          · unfold EarlyR; rw [hr]; exact ⟨fm, sl, heu⟩
        have hbk : ∀ ad, p.2.2.2.2.2.2.1.a = some ad → Fk ad.block ∧ ad.block ≠ g ∧ ad.block ≠ m ∧ ∀ o, x.out.a = some o → o.block ≠ ad.block := fun ad ha => by
          have h1 := (hbo.own ad ha).1
          have h4 := he0.map.lt
          refine ⟨.inr ⟨ad, ha, rfl⟩, by omega, by omega, fun o ho => ?_⟩
          have := h.fl _ (h.outf o ho).1
          omega
        have hsep : ∀ k b', t.early k = some b' → ∀ ad ad', p.2.2.2.2.2.2.1.a = some ad → (sl k).a = some ad' → ad.block ≠ ad'.block := fun k b' hk ad ad' ha ha' => by
          have h1 := (hbo.own ad ha).1
          have h3 := ((he0.yes k b' hk).2.own ad' ha').2
          omega
        refine nzS ?_
        rw [addOff]
        refine st0 hku.cells (by show 1 < 12; decide) fun w58 hb58 hg58 hs58 => ?_
        have hmg : Mv (fun k => k = g) u w58 := Mv.of_grown hg58 rfl
        have h58 : Tun w58 G Fk g { t with sil := 0 } x := hku.own (t' := { t with sil := 0 }) hg58 hb58 rfl rfl rfl rfl rfl
        have he58 : EarlyM w58 Fk g x.out m t.early fm sl := heu.mv hmg (fun k hk => .inl hk) (fun k hk _ _ => hk) fun o ho => .inl ⟨o, ho, rfl⟩
        have ha5g : a5 ≠ g := by omega
        have hfr58 : w58.heap[a5]? = some (.cells (frC p).toArray t_api_Frame (0, 0)) := hmg.heap (hfu.heap hb7') ha5g
        have hm58 : Mv F w w58 := (Mv.of_fr (F := F) hfwu).trans hmg fun k hk => .inl (by rw [hk]; exact h.fg)
        refine ldI0 hfr58 (show (frC p).toArray[0]? = some (.int .i64 p.1) from rfl) ?_
        rw [ek]
        refine bE ?_ ?_ <;> intro hk3
        · rw [if_pos hk3]
          refine ldW (k := k_api_Frame) (x := p) hfr58 rfl ?_
          refine (ack_ok (p := p) (b := f.bd) h58 (by rw [ebi]; exact hin.2.2.2.1.1) hi.room hl).mono fun _ q h' => ⟨rfl, Told.step hm58 hFk (Told.none ?_)⟩
          rw [hp] at h'; exact h'
        · rw [if_neg hk3]
          refine ldW (k := k_api_Frame) (x := p) hfr58 rfl ?_
          have hbo58 : OwB w58 0 t_uint8 p.2.2.2.2.2.2.1 f.bd := (((hbo.mono (Nat.zero_le _)).fr hf4u).mv hmg fun ad ha e => (hbk ad ha).2.1 e)
          have hi' : ({ t with sil := 0 } : Tn).inv := ⟨hi.me, hi.you, hi.ex, hi.early, hi.way, hi.queue, hi.room, Int.le_refl _, by show (0 : Int) < 64; decide⟩
          refine (data_ok (p := p) (b := f.bd) h58 hr he58 hbo58 hbk hsep hi' (by rw [esq]; exact hin.2.1.2) (by show t.out.length ≤ _; omega)).mono fun r q h' => ⟨rfl, Told.step hm58 hFk ?_⟩
          rw [hp] at h'; exact h'
    clear_value j2
    refine nzS ?_
    refine ldB0 h7.cells (show (tunL t x).toArray[0]? = some (.bool t.up) from rfl) ?_
    cases hup : t.up with
    | false =>
      refine bT rfl ?_
      intro n
      exact hj2 true _ (Fr.drewN w7 n) ⟨fun _ => .inl hup, fun _ => rfl⟩
    | true =>
      refine bF rfl (cfr (Fr.refl _) (you (Fr.refl _) ?_))
      refine bNe ?_ ?_ <;> intro h1
      · intro n
        exact hj2 true _ (Fr.drewN w7 n) ⟨fun _ => .inr (.inl h1), fun _ => rfl⟩
      · refine cyo (Fr.refl _) (me (Fr.refl _) ?_)
        intro n
        refine hj2 _ _ (Fr.drewN w7 n) ?_
        rw [bne_iff_ne, hup]
        exact ⟨fun h => .inr (.inr h), fun h => by rcases h with h | h | h; cases h; exact absurd h1 h; exact h⟩
end
end Go.Proofs.YtmhibpcbdbhfoaaDoor
namespace Go.Fl

theorem inv_tn0 {me : Int} (h : 1 ≤ me ∧ me ≤ 1099511627776) : (tn0 me).inv :=
  ⟨h, ⟨Int.le_refl _, by show (0 : Int) ≤ _; decide⟩, ⟨Int.le_refl _, by show (0 : Int) ≤ _; decide⟩, fun k b hk => (by cases hk), fun x hx => (by cases hx), fun b hb => (by cases hb), by show 0 + 0 ≤ 64; decide, Int.le_refl _, by show (0 : Int) < 64; decide⟩
theorem Tn.inv.say {t : Tn} (h : t.inv) (f : Fm) : (t.say f).inv := ⟨h.me, h.you, h.ex, h.early, h.way, h.queue, h.room, h.sil⟩
theorem Tn.inv.clear {t : Tn} (h : t.inv) : t.clear.inv := ⟨h.me, h.you, h.ex, h.early, h.way, h.queue, h.room, h.sil⟩
theorem Tn.inv.calm {t : Tn} (h : t.inv) : ({ t with sil := 0 } : Tn).inv := ⟨h.me, h.you, h.ex, h.early, h.way, h.queue, h.room, Int.le_refl _, by show (0 : Int) < 64; decide⟩
theorem Tn.inv.hint {t : Tn} (h : t.inv) (n : Int) : (t.hint n).inv := by
  unfold Tn.hint; split
  · exact h.say _
  · exact h
theorem Tn.inv.fresh {t : Tn} (h : t.inv) {you : Int} (hy : 0 ≤ you ∧ you ≤ 1099511627776) : (t.fresh you).inv :=
  ⟨h.me, hy, ⟨Int.le_refl _, by show (0 : Int) ≤ _; decide⟩, fun k b hk => (by cases hk), fun x hx => (by cases hx), fun b hb => (by cases hb), by show 0 + 0 ≤ 64; decide, Int.le_refl _, by show (0 : Int) < 64; decide⟩
theorem Tn.inv.beg {t : Tn} (h : t.inv) {you : Int} (hy : 0 ≤ you ∧ you ≤ 1099511627776) : (t.beg you).inv := (h.fresh hy).say _
theorem Tn.inv.fin {t : Tn} (h : t.inv) : t.fin.inv := by
  have h1 := h.me
  have e : wr (t.me + 1) = t.me + 1 := by rw [wr, IntKind.wrap_i64]; omega
  refine ⟨?_, h.you, ⟨Int.le_refl _, by show (0 : Int) ≤ _; decide⟩, fun k b hk => (by cases hk), fun x hx => (by cases hx), fun b hb => (by cases hb), by show 0 + 0 ≤ 64; decide, Int.le_refl _, by show (0 : Int) < 64; decide⟩
  show 1 ≤ min (wr (t.me + 1)) 1099511627776 ∧ min (wr (t.me + 1)) 1099511627776 ≤ 1099511627776
  rw [e]; omega
theorem Tn.inv.slideF : ∀ (k : Nat) {t : Tn}, t.inv → (Go.Fl.slideF k t).inv
  | 0, _, h => h
  | k + 1, t, h => by
    unfold Go.Fl.slideF
    split
    · exact h
    · rename_i b q hq
      split
      · refine Tn.inv.slideF k ⟨h.me, h.you, h.ex, h.early, fun x hx => ?_, fun c hc => h.queue c (by rw [hq]; exact List.mem_cons_of_mem _ hc), ?_, h.sil⟩
        · have hx : x ∈ t.way ++ [(wr (t.next + 1), b, 0)] := hx
          rcases List.mem_append.1 hx with hx | hx
          · exact h.way x hx
          · rw [List.mem_singleton] at hx
            rw [hx]
            exact h.queue b (by rw [hq]; exact List.mem_cons_self ..)
        · have := h.room
          rw [hq] at this
          show q.length + (t.way ++ [(wr (t.next + 1), b, 0)]).length ≤ 64
          simp at this ⊢; omega
      · exact h
theorem Tn.inv.slide {t : Tn} (h : t.inv) : t.slide.inv := Tn.inv.slideF _ h
theorem Tn.room_eq {t : Tn} (h : t.inv) : t.room = if t.up then 64 - (t.queue.length : Int) - t.way.length else 0 := by
  have := h.room
  unfold Tn.room
  split
  · rw [wr, wr, IntKind.wrap_i64, IntKind.wrap_i64]; omega
  · rfl
theorem Tn.inv.send {t : Tn} (h : t.inv) (b : List UInt8) : (t.send b).1.inv := by
  have hr := Tn.room_eq h
  unfold Tn.send
  split
  · exact h
  · split
    · exact h
    · split
      · exact h
      · rename_i h1 h2 h3
        refine Tn.inv.slide ⟨h.me, h.you, h.ex, h.early, h.way, fun c hc => ?_, ?_, h.sil⟩
        · rcases List.mem_append.1 hc with hc | hc
          · exact h.queue c hc
          · rw [List.mem_singleton] at hc; rw [hc]; omega
        · rw [hr, if_pos (by simpa using h1)] at h3
          show (t.queue ++ [b]).length + t.way.length ≤ 64
          simp; omega
theorem Tn.inv.hello {t : Tn} (h : t.inv) {f : Fm} (hf : f.ok) : (t.hello f).inv := by
  have := hf.1
  unfold Tn.hello
  split
  · split
    · exact h.say _
    · exact h
  · split
    · exact h.beg (by omega)
    · split
      · exact h.calm
      · exact h
theorem Tn.inv.keep {t : Tn} (h : t.inv) {f : Fm} (hf : f.ok) : (t.keep f).inv := by
  have := okF_in hf
  unfold Tn.keep
  split
  · rename_i hc
    refine ⟨h.me, h.you, h.ex, fun k b hk => ?_, h.way, h.queue, h.room, h.sil⟩
    dsimp only [setE] at hk
    split at hk
    · rename_i e
      cases hk
      show t.expect < k ∧ k ≤ t.expect + 16 ∧ _
      rw [e]
      omega
    · exact h.early k b hk
  · exact h
theorem tellF_inv : ∀ (n : Nat) {t : Tn} {l : List (List UInt8)}, t.inv → (tellF n t l).1.inv
  | 0, _, _, h => h
  | n + 1, t, l, h => by
    unfold tellF
    split
    · exact h
    · rename_i b hb
      have h1 := h.early _ _ hb
      have h2 := h.ex
      refine tellF_inv n ⟨h.me, h.you, ⟨by show 0 ≤ t.expect + 1; omega, h1.2.2.1⟩, fun k c hk => ?_, h.way, h.queue, h.room, h.sil⟩
      dsimp only [setE] at hk
      split at hk
      · cases hk
      · have := h.early k c hk
        show t.expect + 1 < k ∧ k ≤ t.expect + 1 + 16 ∧ _
        omega
theorem Tn.inv.data {t : Tn} (h : t.inv) {f : Fm} (hf : f.ok) : (t.data f).1.inv := (tellF_inv 17 (h.keep hf)).say _
theorem Tn.inv.ack {t : Tn} (h : t.inv) (f : Fm) : (t.ack f).inv := by
  refine Tn.inv.slide ⟨h.me, h.you, h.ex, h.early, fun x hx => h.way x (List.mem_filter.1 hx).1, h.queue, ?_, h.sil⟩
  have := h.room
  have := List.length_filter_le (fun x => !gone f x) t.way
  show t.queue.length + (t.way.filter fun x => !gone f x).length ≤ 64
  omega
theorem Tn.inv.take {t : Tn} (h : t.inv) (b : List UInt8) : (t.take b).1.inv := by
  unfold Tn.take
  split
  · exact h
  · rename_i f hf
    have hok := (getF_back hf).1
    split
    · exact h.hello hok
    · split
      · show (if _ then _ else _ : Tn).inv
        split
        · exact h.say _
        · exact h
      · split
        · exact h.calm.ack f
        · exact h.calm.data hok
theorem ageF_out : ∀ (l : List (Int × List UInt8 × Int)) (t : Tn), ∃ o, ageF t l = { t with out := t.out ++ o } ∧ o.length ≤ l.length
  | [], t => ⟨[], by simp [ageF], Nat.le_refl _⟩
  | y :: l, t => by
    unfold ageF
    split
    · obtain ⟨o, h1, h2⟩ := ageF_out l (t.say ⟨2, 0, t.you, y.1, 0, 0, y.2.1⟩)
      rw [h1]
      exact ⟨[(putF { (⟨2, 0, t.you, y.1, 0, 0, y.2.1⟩ : Fm) with fr := t.me }).1] ++ o, by simp [Tn.say], by simp; omega⟩
    · obtain ⟨o, h1, h2⟩ := ageF_out l t
      rw [h1]
      exact ⟨o, rfl, by simp; omega⟩
theorem older_len (l : List (Int × List UInt8 × Int)) : (older l).length = l.length := List.length_map ..
theorem Tn.inv.tick {t : Tn} (h : t.inv) : t.tick.inv := by
  have hs := h.sil
  have e : wr (t.sil + 1) = t.sil + 1 := by rw [wr, IntKind.wrap_i64]; omega
  unfold Tn.tick
  dsimp only
  have h1 : ({ t with ticks := wr (t.ticks + 1) } : Tn).inv := ⟨h.me, h.you, h.ex, h.early, h.way, h.queue, h.room, h.sil⟩
  split
  · split
    · exact h1.say _
    · exact h1
  · split
    · -- an end
      have h1 := h.me
      have e : wr (t.me + 1) = t.me + 1 := by rw [wr, IntKind.wrap_i64]; omega
      refine ⟨?_, h.you, ⟨Int.le_refl _, by show (0 : Int) ≤ _; decide⟩, fun k b hk => (by cases hk), fun x hx => (by cases hx), fun b hb => (by cases hb), by show 0 + 0 ≤ 64; decide, Int.le_refl _, by show (0 : Int) < 64; decide⟩
      show 1 ≤ min (wr (t.me + 1)) 1099511627776 ∧ min (wr (t.me + 1)) 1099511627776 ≤ 1099511627776
      rw [e]; omega
    · rename_i h64
      have h2 : ({ t with ticks := wr (t.ticks + 1), sil := wr (t.sil + 1) } : Tn).inv := ⟨h.me, h.you, h.ex, h.early, h.way, h.queue, h.room, by show 0 ≤ wr (t.sil + 1); rw [e]; omega, by show wr (t.sil + 1) < 64; omega⟩
      generalize ({ t with ticks := wr (t.ticks + 1), sil := wr (t.sil + 1) } : Tn) = t2 at *
      unfold Tn.tickUp
      have h3 : (if Int.tmod t2.ticks 8 = 0 then t2.say (hel t2.you) else t2).inv := by
        split
        · exact h2.say _
        · exact h2
      have hw : (if Int.tmod t2.ticks 8 = 0 then t2.say (hel t2.you) else t2).way = t2.way := by split <;> rfl
      have hq : (if Int.tmod t2.ticks 8 = 0 then t2.say (hel t2.you) else t2).queue = t2.queue := by split <;> rfl
      generalize (if Int.tmod t2.ticks 8 = 0 then t2.say (hel t2.you) else t2) = t3 at *
      obtain ⟨o, h4, _⟩ := ageF_out t2.way t3
      rw [h4]
      refine ⟨h3.me, h3.you, h3.ex, h3.early, fun x hx => ?_, h3.queue, ?_, h3.sil⟩
      · obtain ⟨y, hy, rfl⟩ := List.mem_map.1 hx
        exact h2.way y hy
      · show t3.queue.length + (older t2.way).length ≤ 64
        rw [older_len, hq]; exact h2.room
/-- How much it says. -/
theorem slideF_out : ∀ (k : Nat) (t : Tn), (slideF k t).out.length ≤ t.out.length + t.queue.length
  | 0, t => by simp [slideF]
  | k + 1, t => by
    unfold slideF
    split
    · simp_all
    · rename_i b q hq
      split
      · refine Nat.le_trans (slideF_out k _) ?_
        rw [hq]
        simp [Tn.put1, Tn.say]
        omega
      · omega
theorem say_out (t : Tn) (f : Fm) : (t.say f).out.length = t.out.length + 1 := by simp [Tn.say]
theorem tellF_out : ∀ (n : Nat) (t : Tn) (l : List (List UInt8)), (tellF n t l).1.out = t.out
  | 0, _, _ => rfl
  | n + 1, t, l => by
    unfold tellF
    split
    · rfl
    · exact tellF_out n _ _
theorem keep_out (t : Tn) (f : Fm) : (t.keep f).out = t.out := by unfold Tn.keep; split <;> rfl
theorem send_out {t : Tn} (h : t.inv) (b : List UInt8) : (t.send b).1.out.length ≤ t.out.length + 65 := by
  have := h.room
  unfold Tn.send
  split
  · show t.out.length ≤ _; omega
  · split
    · show t.out.length ≤ _; omega
    · split
      · show t.out.length ≤ _; omega
      · refine Nat.le_trans (slideF_out _ _) ?_
        show t.out.length + (t.queue ++ [b]).length ≤ _
        simp; omega
theorem take_out {t : Tn} (h : t.inv) (b : List UInt8) : (t.take b).1.out.length ≤ t.out.length + 65 := by
  have := h.room
  unfold Tn.take
  split
  · show t.out.length ≤ _; omega
  · rename_i f _
    split
    · show (t.hello f).out.length ≤ _
      unfold Tn.hello
      split
      · split
        · rw [say_out]; omega
        · omega
      · split
        · unfold Tn.beg; rw [say_out]; show t.out.length + 1 ≤ _; omega
        · split
          · show t.out.length ≤ _; omega
          · omega
    · split
      · show (if _ then _ else _ : Tn).out.length ≤ _
        split
        · rw [say_out]; omega
        · omega
      · split
        · refine Nat.le_trans (slideF_out _ _) ?_
          show t.out.length + t.queue.length ≤ _
          omega
        · show (tellF 17 _ []).1.acks.out.length ≤ _
          unfold Tn.acks
          rw [say_out, tellF_out, keep_out]
          show t.out.length + 1 ≤ _
          omega
theorem tick_out {t : Tn} (h : t.inv) : t.tick.out.length ≤ t.out.length + 65 := by
  have := h.room
  unfold Tn.tick
  dsimp only
  split
  · split
    · rw [say_out]; show t.out.length + 1 ≤ _; omega
    · show t.out.length ≤ _; omega
  · split
    · show t.out.length ≤ _; omega
    · unfold Tn.tickUp
      obtain ⟨o, h4, h5⟩ := ageF_out t.way (if Int.tmod (wr (t.ticks + 1)) 8 = 0 then ({ t with ticks := wr (t.ticks + 1), sil := wr (t.sil + 1) } : Tn).say (hel t.you) else { t with ticks := wr (t.ticks + 1), sil := wr (t.sil + 1) })
      dsimp only
      rw [h4]
      show ((_ : Tn).out ++ o).length ≤ _
      rw [List.length_append]
      split
      · rw [say_out]; show t.out.length + 1 + o.length ≤ _; omega
      · show t.out.length + o.length ≤ _; omega
theorem hint_out (t : Tn) (n : Int) : (t.hint n).out.length ≤ t.out.length + 1 := by
  unfold Tn.hint; split
  · rw [say_out]; omega
  · omega
/-- Datagrams come, one by one. -/
def takes (t : Tn) : List (List UInt8) → Tn × List (List UInt8)
  | [] => (t, [])
  | b :: l => ((takes (t.take b).1 l).1, (t.take b).2.1 ++ (takes (t.take b).1 l).2)
theorem takes_inv : ∀ (l : List (List UInt8)) {t : Tn}, t.inv → (takes t l).1.inv
  | [], _, h => h
  | b :: l, _, h => takes_inv l (h.take b)
theorem takes_out : ∀ (l : List (List UInt8)) {t : Tn}, t.inv → (takes t l).1.out.length ≤ t.out.length + 65 * l.length
  | [], _, _ => by simp [takes]
  | b :: l, t, h => by
    have h1 := takes_out l (h.take b)
    have h2 := take_out h b
    show (takes (t.take b).1 l).1.out.length ≤ _
    rw [List.length_cons]
    omega
theorem tellF_len : ∀ (n : Nat) (t : Tn) (l : List (List UInt8)), (tellF n t l).2.length ≤ l.length + n
  | 0, _, _ => Nat.le_refl _
  | n + 1, t, l => by
    unfold tellF
    split
    · show l.length ≤ _; omega
    · rename_i b _
      refine Nat.le_trans (tellF_len n _ _) ?_
      simp; omega
theorem take_len (t : Tn) (b : List UInt8) : (t.take b).2.1.length ≤ 17 := by
  unfold Tn.take
  split
  · simp
  · split
    · simp
    · split
      · simp
      · split
        · simp
        · refine Nat.le_trans (tellF_len 17 _ _) ?_
          simp
/-- A datagram that does not bear the tunnel's own number. -/
theorem take_stranger (t : Tn) (b : List UInt8) (h : ∀ f, getF b = some f → f.yo ≠ t.me) : (t.take b).2 = ([], getE b) ∧ (t.take b).1.me = t.me ∧ (t.take b).1.you = t.you ∧ (t.take b).1.up = t.up ∧ (t.take b).1.epoch = t.epoch ∧ (t.take b).1.waiting = t.waiting ∧ (t.take b).1.out.length ≤ t.out.length + 1 := by
  unfold Tn.take
  cases hg : getF b with
  | none => exact ⟨rfl, rfl, rfl, rfl, rfl, rfl, Nat.le_succ _⟩
  | some f =>
    have hy := h f hg
    have he : (0 : Int) = getE b := (getE_zero.2 (by rw [hg]; rfl)).symm
    have key : ∀ t' : Tn, (t' = t ∨ t' = t.say (hel f.fr)) → (([], (0 : Int)) : List (List UInt8) × Int) = ([], getE b) ∧ t'.me = t.me ∧ t'.you = t.you ∧ t'.up = t.up ∧ t'.epoch = t.epoch ∧ t'.waiting = t.waiting ∧ t'.out.length ≤ t.out.length + 1 := by
      intro t' ht
      rw [← he]
      rcases ht with rfl | rfl
      · exact ⟨rfl, rfl, rfl, rfl, rfl, rfl, Nat.le_succ _⟩
      · exact ⟨rfl, rfl, rfl, rfl, rfl, rfl, by rw [say_out]; exact Nat.le_refl _⟩
    dsimp only
    split
    · refine key _ ?_
      unfold Tn.hello
      rw [if_pos hy]
      split
      · exact .inr rfl
      · exact .inl rfl
    · rw [if_pos (.inr (.inr hy))]
      refine key _ ?_
      dsimp only
      split
      · exact .inr rfl
      · exact .inl rfl
theorem putF_len (f : Fm) : (putF f).1.length ≤ 2000 := by
  unfold putF
  split
  · rename_i hok
    have h1 := (okF_in hok).2.2.2.2
    have h2 := numsB_le f.nums
    have h3 := numB_le f.bd.length
    have h4 : f.nums.length = 6 := rfl
    show f.bytes.length ≤ _
    rw [Fm.bytes, sealB_length]
    simp only [rawF, List.length_cons, List.length_append]
    omega
  · simp
/-- Two find one another, and a message goes over. -/
def wA0 : Tn := (tn0 5).hint 7
def wB0 : Tn := (takes (tn0 7) wA0.out).1
def wA1 : Tn := (takes wA0.clear wB0.out).1
def wB1 : Tn := (takes wB0.clear wA1.out).1
def wA2 : Tn := (wA1.clear.send [120]).1
def wB2 : Tn × List (List UInt8) := takes wB1 wA2.out
def wA3 : Tn := (takes wA2.clear wB2.1.out).1
theorem aw_ok : (wA1.clear.send [120]).2 = 0 ∧ wA3.up = true ∧ wB2.1.up = true ∧ wB2.2 = [[120]] ∧ wA3.waiting = 0 ∧ wA3.you = 7 := by
  decide +kernel
theorem aw_len : (wA0.out.length ≤ 9 ∧ wB0.out.length ≤ 9 ∧ wA1.out.length ≤ 9 ∧ wB1.out.length ≤ 9 ∧ wA2.out.length ≤ 9 ∧ wB2.1.out.length ≤ 9) ∧
    (∀ d ∈ wA0.out ++ wB0.out ++ wA1.out ++ wA2.out ++ wB2.1.out, d.length ≤ 999) := by
  decide +kernel
theorem aw_inv : wA0.inv ∧ wB0.inv ∧ wA1.inv ∧ wB1.inv ∧ wA2.inv ∧ wB2.1.inv := by
  have h0 : wA0.inv := (inv_tn0 (by decide)).hint 7
  have h1 : wB0.inv := takes_inv _ (inv_tn0 (by decide))
  have h2 : wA1.inv := takes_inv _ h0.clear
  have h3 : wB1.inv := takes_inv _ h1.clear
  have h4 : wA2.inv := h2.clear.send _
  exact ⟨h0, h1, h2, h3, h4, takes_inv _ h3⟩
end Go.Fl
namespace Go.Proofs.YtmhibpcbdbhfoaaDoor
open Go.RowKit Go.Fl

/-- Two tunnels in one world. -/
structure Two (w : World) (G Fa Fb : Nat → Prop) (ga gb : Nat) (a b : Tn) (xa xb : Shp) : Prop where
  one : Tun w (fun k => G k ∨ Fb k) Fa ga a xa
  two : Tun w (fun k => G k ∨ Fa k) Fb gb b xb
section
variable {w w' : World} {G Fa Fb Fb' : Nat → Prop} {ga gb : Nat} {a b b' : Tn} {xa xb xb' : Shp}
theorem Two.symm (h : Two w G Fa Fb ga gb a b xa xb) : Two w G Fb Fa gb ga b a xb xa := ⟨h.two, h.one⟩
theorem Two.dis (h : Two w G Fa Fb ga gb a b xa xb) {k : Nat} (ha : Fa k) : ¬Fb k := h.two.gf k (.inr ha)
theorem Two.step (h : Two w G Fa Fb ga gb a b xa xb) (tb : Tun w' (fun k => G k ∨ Fa k) Fb' gb b' xb') (m : Mv Fb w w') (hF : ∀ k, Fb' k → Fb k ∨ w.heap.size ≤ k) : Two w' G Fa Fb' ga gb a b' xa xb' := by
  refine ⟨h.one.other m (fun k hk => .inl ⟨.inr hk, fun ha => h.dis ha hk⟩) (fun k hk => ?_) (fun k hk => ?_), tb⟩
  · rcases hk with hk | hk
    · exact .inl (.inl hk)
    · exact (hF k hk).imp .inr id
  · rcases hk with hk | hk
    · exact tb.gl k (.inl hk)
    · exact tb.fl k hk
theorem Two.other {G' E : Nat → Prop} (h : Two w G Fa Fb ga gb a b xa xb) (m : Mv E w w') (hE : ∀ k, E k → (G k ∧ ¬Fa k ∧ ¬Fb k) ∨ w.heap.size ≤ k) (hG : ∀ k, G' k → G k ∨ w.heap.size ≤ k) (hl : ∀ k, G' k → k < w'.heap.size) : Two w' G' Fa Fb ga gb a b xa xb := by
  refine ⟨h.one.other m (fun k hk => (hE k hk).imp (fun h => ⟨.inl h.1, h.2.1⟩) id) (fun k hk => ?_) (fun k hk => ?_), h.two.other m (fun k hk => (hE k hk).imp (fun h => ⟨.inl h.1, h.2.2⟩) id) (fun k hk => ?_) (fun k hk => ?_)⟩
  · rcases hk with hk | hk
    · exact (hG k hk).imp .inl id
    · exact .inl (.inr hk)
  · rcases hk with hk | hk
    · exact hl k hk
    · exact Nat.lt_of_lt_of_le (h.two.fl k hk) m.size
  · rcases hk with hk | hk
    · exact (hG k hk).imp .inl id
    · exact .inl (.inr hk)
  · rcases hk with hk | hk
    · exact hl k hk
    · exact Nat.lt_of_lt_of_le (h.one.fl k hk) m.size
theorem Two.fr (h : Two w G Fa Fb ga gb a b xa xb) (hf : Fr w w') : Two w' G Fa Fb ga gb a b xa xb := ⟨h.one.fr hf, h.two.fr hf⟩
abbrev Z3 (G Fa Fb : Nat → Prop) : Nat → Prop := fun k => G k ∨ Fa k ∨ Fb k
theorem BK.none {k n c : Nat} : ¬BK ⟨.none, n, c⟩ k := fun ⟨_, h, _⟩ => by cases h
theorem carry_ok (h : Two w G Fa Fb ga gb a b xa xb) (ia : a.inv) (ib : b.inv) (hla : a.out.length ≤ 1000000) (hlb : b.out.length ≤ 1000000) (hlo : ∀ d ∈ a.out, d.length ≤ 1099511627776) :
    cl Tryd.prog n_flumelaw12_carry #[.pointer (some ⟨ga, 0, none⟩), .pointer (some ⟨gb, 0, none⟩)] .L w fun (r : Sl) w' => ∃ Fa' Fb' xa' xb' hs, Two w' G Fa' Fb' ga gb a.clear (takes b a.out).1 xa' xb' ∧ Mv (fun k => Fa k ∨ Fb k) w w' ∧ (∀ k, Fa' k ∨ Fb' k → (Fa k ∨ Fb k) ∨ w.heap.size ≤ k) ∧
      OwS w' w.heap.size t_s_uint8 r hs ∧ (∀ k, BK r k → ¬Z3 G Fa' Fb' k) ∧ All2 (Cb w' (Z3 G Fa' Fb')) hs (takes b a.out).2 := by
  refine flumelaw12_carry.cl (p0 := some ⟨ga, 0, none⟩) (p1 := some ⟨gb, 0, none⟩) ?_
  unfold flumelaw12_carry
  refine (tOut_ok h.one ia.me.1).mono ?_
  rintro x1 w2 ⟨Fa', xa', hs, h1, m1, hFa, ho1, ha1, hx1⟩
  have h2 : Two w2 G Fa' Fb ga gb a.clear b xa' xb := (h.symm.step h1 m1 fun k hk => .inl (hFa k hk)).symm
  have hn1 := ho1.len
  have hal := ha1.length
  have hz2 := m1.size
  refine lpI (fun (s' : Sl × Int × Unit) v => ∃ (i : Nat) (b1 : Tn) (l1 : List (List UInt8)) (Fb1 : Nat → Prop) (xb1 : Shp) (hs1 : List Sl), i ≤ hs.length ∧ s'.2.1 = i ∧ takes b a.out = ((takes b1 (a.out.drop i)).1, l1 ++ (takes b1 (a.out.drop i)).2) ∧ b1.inv ∧ b1.out.length ≤ b.out.length + 65 * i ∧ l1.length ≤ 17 * i ∧
      Two v (fun k => G k ∨ BK s'.1 k) Fa' Fb1 ga gb a.clear b1 xa' xb1 ∧ Mv Fb w2 v ∧ (∀ k, Fb1 k → Fb k ∨ w2.heap.size ≤ k) ∧ OwS v 0 t_s_uint8 x1 hs ∧ All2 (Cb v (Z3 (fun k => G k ∨ BK s'.1 k) Fa' Fb1)) hs a.out ∧ OwS v w2.heap.size t_s_uint8 s'.1 hs1 ∧ All2 (Cb v (Z3 (fun k => G k ∨ BK s'.1 k) Fa' Fb1)) hs1 l1)
    (fun s' _ => (x1.n - s'.2.1).toNat) ⟨0, b, [], Fb, xb, [], Nat.zero_le _, rfl, rfl, ib, by omega, Nat.le_refl _, ?_, Mv.refl _ _, fun k hk => .inl hk, ho1, ?_, OwS.nil _ _ _, trivial⟩ ?_
  · exact h2.other (E := fun _ => False) (Mv.refl _ _) (fun _ h => h.elim) (fun k hk => hk.elim .inl fun h => absurd h BK.none) fun k hk => hk.elim (fun h => h2.one.gl k (.inl h)) fun h => absurd h BK.none
  · refine ha1.mono fun c d _ _ hr => hr.anti fun k hk => ?_
    rcases hk with (hk | hk) | hk | hk
    · exact .inl (.inl hk)
    · exact absurd hk BK.none
    · exact .inr hk
    · exact .inl (.inr hk)
  rintro D ⟨r, i', ⟨⟩⟩ v ⟨i, b1, l1, Fb1, xb1, hs1, hih, rfl, htk, ib1, hob, hll, h3, m3, hF1, hx, hxa, hr, hra⟩
  dsimp only at h3 hxa hr hra ⊢
  have hzv := m3.size
  refine bD ?_ ?_ <;> intro hlt
  · have hi1 : i < hs.length := by omega
    have hi2 : i < a.out.length := by omega
    refine ixS hx.rd hx.len rfl hi1 (Fr.refl _) ?_
    have hcb := hxa.get hi1 hi2
    refine (take_ok h3.two ib1 hcb.bs (Nat.le_trans (hlo _ (List.getElem_mem hi2)) (by decide)) (by omega)).mono ?_
    rintro ⟨x9, e9, ⟨⟩⟩ v2 ⟨_, Fb2, xb2, hs9, t2, m2, hF2, ho9, ha9, _, hN9, hx9⟩
    dsimp only at ho9 ha9 hx9 ⊢
    have hzv2 := m2.size
    have h4 : Two v2 (fun k => G k ∨ BK r k) Fa' Fb2 ga gb a.clear (b1.take a.out[i]).1 xa' xb2 := h3.step (t2.anti fun k hk => .inl hk) m2 hF2
    have hdrop : a.out.drop i = a.out[i] :: a.out.drop (i + 1) := List.drop_eq_getElem_cons hi2
    rw [hdrop] at htk
    have hrown : ∀ ad, r.a = some ad → w2.heap.size ≤ ad.block ∧ ad.block < v.heap.size := hr.own
    have hrF : ∀ k, BK r k → ¬Fa' k ∧ ¬Fb1 k := fun k hk => ⟨h3.one.gf k (.inl (.inr hk)), h3.two.gf k (.inl (.inr hk))⟩
    have hr2 : OwS v2 w2.heap.size t_s_uint8 r hs1 := hr.mv m2 fun ad ha hf => (hrF _ ⟨ad, ha, rfl⟩).2 hf
    have hl9 := ha9.length
    have hln := hra.length
    have hk17 := take_len b1 a.out[i]
    refine app_S slS (by decide) hr2 ho9.rd ho9.len.symm (by omega) (by omega) fun r2 v3 h5 hg5 hat5 => ?_
    rw [ownB_slice] at hg5
    rw [ownB_slice, ownB_slice] at hat5
    have hz5 := hg5.size
    have m5 : Mv (fun k => BK r k) v2 v3 := ⟨hg5.os, hg5.tape, hg5.output, hg5.size, fun k hk hn => hg5.block k hk fun e => by
      cases hxa : r.a with
      | none => rw [hxa] at e; cases e
      | some o => rw [hxa] at e; exact hn ⟨o, hxa, (Option.some.inj e).symm⟩⟩
    have hnew : ∀ k, BK r2 k → BK r k ∨ v2.heap.size ≤ k := by
      rintro k ⟨o, ho, rfl⟩
      rw [ho] at hat5
      rcases hat5 with h1 | h1
      · cases hxa : r.a with
        | none => rw [hxa] at h1; cases h1
        | some o' => rw [hxa] at h1; exact .inl ⟨o', hxa, (Option.some.inj h1).symm⟩
      · right; rw [← Option.some.inj h1]; exact Nat.le_refl _
    have hrF2 : ∀ k, BK r k → ¬Fa' k ∧ ¬Fb2 k := fun k hk => ⟨h4.one.gf k (.inl (.inr hk)), h4.two.gf k (.inl (.inr hk))⟩
    have hlr2 : ∀ k, BK r2 k → k < v3.heap.size := fun k ⟨o, ho, e⟩ => by rw [← e]; exact (h5.own o ho).2
    have h6 : Two v3 (fun k => G k ∨ BK r2 k) Fa' Fb2 ga gb a.clear (b1.take a.out[i]).1 xa' xb2 := by
      refine h4.other m5 (fun k hk => .inl ⟨.inr hk, hrF2 k hk⟩) (fun k hk => ?_) fun k hk => ?_
      · rcases hk with hk | hk
        · exact .inl (.inl hk)
        · exact (hnew k hk).imp .inr id
      · rcases hk with hk | hk
        · have := h4.one.gl k (.inl (.inl hk)); omega
        · exact hlr2 k hk
    have hZ2 : ∀ k, Z3 (fun k => G k ∨ BK r k) Fa' Fb2 k → Z3 (fun k => G k ∨ BK r k) Fa' Fb1 k ∨ v.heap.size ≤ k := fun k hk => by
      rcases hk with hk | hk | hk
      · exact .inl (.inl hk)
      · exact .inl (.inr (.inl hk))
      · exact (hF2 k hk).imp (fun h => .inr (.inr h)) id
    have hZ3 : ∀ k, Z3 (fun k => G k ∨ BK r2 k) Fa' Fb2 k → Z3 (fun k => G k ∨ BK r k) Fa' Fb2 k ∨ v2.heap.size ≤ k := fun k hk => by
      rcases hk with (hk | hk) | hk | hk
      · exact .inl (.inl (.inl hk))
      · exact (hnew k hk).imp (fun h => .inl (.inr h)) id
      · exact .inl (.inr (.inl hk))
      · exact .inl (.inr (.inr hk))
    have tr : ∀ {c : Sl} {d : List UInt8}, Cb v (Z3 (fun k => G k ∨ BK r k) Fa' Fb1) c d → Cb v3 (Z3 (fun k => G k ∨ BK r2 k) Fa' Fb2) c d := fun hc =>
      (hc.mv m2 (fun k hk => .inl (.inr (.inr hk))) hZ2).mv m5 (fun k hk => .inl (.inl (.inr hk))) hZ3
    have hdisN : ∀ k, NB hs9 k → ¬Z3 (fun k => G k ∨ BK r k) Fa' Fb2 k := fun k hk hz => by
      have hb2 : ¬Fb2 k := t2.gf k (.inr hk)
      rcases hN9 k hk with hf | hf
      · rcases hz with hz | hz | hz
        · exact h3.two.gf k (.inl hz) hf
        · exact h3.dis hz hf
        · exact hb2 hz
      · rcases hz with hz | hz | hz
        · have := h3.two.gl k (.inl hz); omega
        · have := h3.one.fl k hz; omega
        · exact hb2 hz
    have hx1b : ∀ ad, x1.a = some ad → ad.block < w2.heap.size := fun ad ha => (ho1.own ad ha).2
    refine ⟨⟨i + 1, (b1.take a.out[i]).1, l1 ++ (b1.take a.out[i]).2.1, Fb2, xb2, hs1 ++ hs9, by omega, i64w (by omega) (by omega), ?_, ib1.take _, ?_, ?_, h6, ?_, fun k hk => ?_, ?_, hxa.mono fun c d _ _ hr => tr hr, h5, All2.append (hra.mono fun c d _ _ hr => tr hr) (ha9.mono fun c d hc _ ho => ?_)⟩, ?_⟩
    · rw [htk, List.append_assoc]; rfl
    · have := take_out ib1 a.out[i]; omega
    · rw [List.length_append]; omega
    · refine (m3.trans m2 hF1).trans m5 fun k ⟨ad, h1, h2⟩ => ?_
      rw [← h2]; exact .inr (hrown ad h1).1
    · rcases hF2 k hk with h | h
      · exact hF1 k h
      · right; omega
    · refine (hx.mv m2 fun ad ha hf => ?_).mv m5 fun ad ha ⟨ad', h1, h2⟩ => ?_
      · have h8 := hx1 ad ha
        rcases hF1 _ hf with h9 | h9
        · exact h.dis h8.1 h9
        · have := hx1b ad ha; omega
      · have := (hrown ad' h1).1
        have := hx1b ad ha
        omega
    · have hc2 : Cb v2 (Z3 (fun k => G k ∨ BK r k) Fa' Fb2) c d := ⟨ho.bs, fun _ ad ha => hdisN _ ⟨c, hc, ad, ha, rfl⟩⟩
      exact hc2.mv m5 (fun k hk => .inl (.inl (.inr hk))) hZ3
    · show (x1.n - IntKind.i64.wrap ((i : Int) + 1)).toNat < (x1.n - (i : Int)).toNat
      rw [i64w (by omega) (by omega)]; omega
  · obtain rfl : i = hs.length := by omega
    rw [hal, List.drop_length] at htk
    have e1 : (takes b a.out).1 = b1 := by rw [htk]; rfl
    have e2 : (takes b a.out).2 = l1 := by rw [htk]; exact List.append_nil _
    rw [e1, e2]
    refine ⟨Fa', Fb1, xa', xb1, hs1, h3.other (E := fun _ => False) (Mv.refl _ _) (fun _ h => h.elim) (fun k hk => .inl (.inl hk)) (fun k hk => h3.one.gl k (.inl (.inl hk))), ?_, fun k hk => ?_, hr.mono hz2, fun k hk hz => ?_, hra.mono fun c d _ _ hr => hr.anti fun k hk => ?_⟩
    · exact (m1.mono fun k hk => .inl (.inl hk)).trans m3 fun k hk => .inl (.inr hk)
    · rcases hk with hk | hk
      · exact .inl (.inl (hFa k hk))
      · rcases hF1 k hk with h | h
        · exact .inl (.inr h)
        · right; omega
    · obtain ⟨ad, h1, h2⟩ := hk
      have h8 := (hr.own ad h1).1
      rcases hz with hz | hz | hz
      · have := h.one.gl k (.inl hz); omega
      · exact h3.one.gf k (.inl (.inr ⟨ad, h1, h2⟩)) hz
      · exact h3.two.gf k (.inl (.inr ⟨ad, h1, h2⟩)) hz
    · exact hk.imp .inl id
end
end Go.Proofs.YtmhibpcbdbhfoaaDoor
namespace Go.Proofs.YtmhibpcbdbhfoaaDoor
open Go.RowKit Go.Fl

section
variable {w v v' : World} {ga gb : Nat} {a b a' b' : Tn}
/-- Two new tunnels, whatever became of them. -/
def TwoF (w v : World) (ga gb : Nat) (a b : Tn) : Prop := ∃ Fa Fb xa xb, Two v (fun _ => False) Fa Fb ga gb a b xa xb ∧ Fr w v ∧ ∀ k, Fa k ∨ Fb k → w.heap.size ≤ k
theorem TwoF.symm (h : TwoF w v ga gb a b) : TwoF w v gb ga b a := by
  obtain ⟨Fa, Fb, xa, xb, h1, h2, h3⟩ := h
  exact ⟨Fb, Fa, xb, xa, h1.symm, h2, fun k hk => h3 k hk.symm⟩
theorem TwoF.fr (h : TwoF w v ga gb a b) (hf : Fr v v') : TwoF w v' ga gb a b := by
  obtain ⟨Fa, Fb, xa, xb, h1, h2, h3⟩ := h
  exact ⟨Fa, Fb, xa, xb, h1.fr hf, h2.trans hf, h3⟩
theorem TwoF.base (h : TwoF w v ga gb a b) : Fr w v := by
  obtain ⟨Fa, Fb, xa, xb, h1, h2, h3⟩ := h
  exact h2
/-- The first one acts. -/
theorem TwoF.act {K : Prop} (h : TwoF w v ga gb a b) (hk : ∀ G F x, Tun v G F ga a x → (∀ v' a', TunTo v v' G F ga a' → TwoF w v' ga gb a' b) → K) : K := by
  obtain ⟨Fa, Fb, xa, xb, h1, h2, h3⟩ := h
  refine hk _ _ _ h1.one fun v' a' ⟨F', x', t1, m1, f1⟩ => ⟨F', Fb, x', xb, (h1.symm.step t1 m1 f1).symm, m1.on h2 fun k hk => h3 k (.inl hk), fun k hk => ?_⟩
  rcases hk with hk | hk
  · rcases f1 k hk with h | h
    · exact h3 k (.inl h)
    · have := h2.size; omega
  · exact h3 k (.inr hk)
theorem TwoF.carry (h : TwoF w v ga gb a b) (ia : a.inv) (ib : b.inv) (hla : a.out.length ≤ 1000000) (hlb : b.out.length ≤ 1000000) (hlo : ∀ d ∈ a.out, d.length ≤ 1099511627776) :
    cl Tryd.prog n_flumelaw12_carry #[.pointer (some ⟨ga, 0, none⟩), .pointer (some ⟨gb, 0, none⟩)] .L v fun (r : Sl) v' => ∃ Fa' Fb' xa' xb' hs, Two v' (fun _ => False) Fa' Fb' ga gb a.clear (takes b a.out).1 xa' xb' ∧ Fr w v' ∧ (∀ k, Fa' k ∨ Fb' k → w.heap.size ≤ k) ∧
      OwS v' v.heap.size t_s_uint8 r hs ∧ (∀ k, BK r k → ¬Z3 (fun _ => False) Fa' Fb' k) ∧ All2 (Cb v' (Z3 (fun _ => False) Fa' Fb')) hs (takes b a.out).2 := by
  obtain ⟨Fa, Fb, xa, xb, h1, h2, h3⟩ := h
  refine (carry_ok h1 ia ib hla hlb hlo).mono ?_
  rintro r v' ⟨Fa', Fb', xa', xb', hs, h4, m4, f4, h5, h6, h7⟩
  refine ⟨Fa', Fb', xa', xb', hs, h4, m4.on h2 h3, fun k hk => ?_, h5, h6, h7⟩
  rcases f4 k hk with h | h
  · exact h3 k h
  · have := h2.size; omega
theorem awake12_ok {w : World} (hd : Crc w) : cl Tryd.prog n_flumelaw12_awake #[] .B w fun (r : Bool) w' => r = true ∧ Fr w w' := by
  refine flumelaw12_awake.cl ?_
  unfold flumelaw12_awake
  obtain ⟨e0, e1, e2, e3, e4, e5⟩ := aw_ok
  obtain ⟨⟨l0, l1, l2, l3, l4, l5⟩, ll⟩ := aw_len
  obtain ⟨i0, i1, i2, i3, i4, i5⟩ := aw_inv
  have hll : ∀ d, (d ∈ wA0.out ∨ d ∈ wB0.out ∨ d ∈ wA1.out ∨ d ∈ wA2.out ∨ d ∈ wB2.1.out) → d.length ≤ 1099511627776 := fun d hd => by
    have := ll d (by simp only [List.mem_append]; rcases hd with h | h | h | h | h <;> simp [h])
    omega
  have i5' : (tn0 5).inv := inv_tn0 (by decide)
  have i7' : (tn0 7).inv := inv_tn0 (by decide)
  refine (tNew_ok (G := fun _ => False) hd (fun _ h => h.elim) fun h => h).mono ?_
  rintro r1 w2 ⟨h1, hf2⟩
  rw [if_pos (by decide)] at h1
  obtain ⟨ga, xa, rfl, hga, ta⟩ := h1
  refine (tNew_ok (G := fun k => False ∨ k = ga) (hd.fr hf2) (fun k hk => by rcases hk with hk | hk; exact hk.elim; rw [hk]; exact tun_lt ta) fun h => by rcases h with h | h; exact h; have := hd.lt; omega).mono ?_
  rintro r2 w4 ⟨h2, hf4⟩
  rw [if_pos (by decide)] at h2
  obtain ⟨gb, xb, rfl, hgb, tb⟩ := h2
  have hz2 := hf2.size
  have hz4 := hf4.size
  have two : TwoF w w4 ga gb (tn0 5) (tn0 7) := by
    refine ⟨_, _, xa, xb, ⟨ta.other (E := fun _ => False) (Mv.of_fr hf4) (fun _ h => h.elim) (fun k hk => ?_) fun k hk => ?_, tb⟩, hf2.trans hf4, fun k hk => ?_⟩
    · rcases hk with hk | hk
      · exact hk.elim
      · right; omega
    · rcases hk with hk | hk
      · exact hk.elim
      · rw [hk]; exact tun_lt tb
    · rcases hk with hk | hk <;> omega
  refine bF rfl (bF rfl ?_)
  -- no session yet
  refine two.act fun G F x t st => ?_
  refine (send_ok t i5'.me.1 (Bs.nil w4 0) (by show 0 + 0 ≤ 64; decide) (by show 0 ≤ _; decide)).mono ?_
  rintro _ w6 ⟨rfl, h6⟩
  have two := st _ _ h6
  rw [show ((tn0 5).send []).1 = tn0 5 from rfl] at two
  refine bF rfl ?_
  refine two.act fun G F x t st => ?_
  refine (hint_ok t i5'.me.1 (by show 0 ≤ _; decide)).mono ?_
  rintro _ w8 h8
  have two : TwoF w w8 ga gb wA0 (tn0 7) := st _ _ h8
  refine (two.carry i0 i7' (by omega) (by show 0 ≤ _; decide) fun d hd => hll d (.inl hd)).mono ?_
  rintro x9 w10 ⟨Fa, Fb, xa, xb, hs, h10, f10, b10, _, _, _⟩
  have two : TwoF w w10 gb ga wB0 wA0.clear := TwoF.symm ⟨Fa, Fb, xa, xb, h10, f10, b10⟩
  refine (two.carry i1 i0.clear (by omega) (by show 0 ≤ _; decide) fun d hd => hll d (.inr (.inl hd))).mono ?_
  rintro x11 w12 ⟨Fa, Fb, xa, xb, hs, h12, f12, b12, _, _, _⟩
  have two : TwoF w w12 ga gb wA1 wB0.clear := TwoF.symm ⟨Fa, Fb, xa, xb, h12, f12, b12⟩
  refine (two.carry i2 i1.clear (by omega) (by show 0 ≤ _; decide) fun d hd => hll d (.inr (.inr (.inl hd)))).mono ?_
  rintro x13 w14 ⟨Fa, Fb, xa, xb, hs, h14, f14, b14, _, _, _⟩
  have two : TwoF w w14 ga gb wA1.clear wB1 := ⟨Fa, Fb, xa, xb, h14, f14, b14⟩
  refine nwConv (l := [120]) u_s_uint8 u_uint8 rfl rfl fun r17 w18 hr17 hf18 => ?_
  have two := two.fr hf18
  refine two.act fun G F x t st => ?_
  refine (send_ok t i2.clear.me.1 hr17 i2.clear.room (by show 0 ≤ _; decide)).mono ?_
  rintro _ w20 ⟨rfl, h20⟩
  have two : TwoF w w20 ga gb wA2 wB1 := st _ _ h20
  refine (two.carry i4 i3 (by omega) (by omega) fun d hd => hll d (.inr (.inr (.inr (.inl hd))))).mono ?_
  rintro x21 w22 ⟨Fa, Fb, xa, xb, hs, h22, f22, b22, ho22, hn22, ha22⟩
  have hm22 : ∀ {K : Sl → World → Prop}, (∀ r w24, TwoF w w24 ga gb wA3 wB2.1.clear → Mv (fun k => Fb k ∨ Fa k) w22 w24 → K r w24) → cl Tryd.prog n_flumelaw12_carry #[.pointer (some ⟨gb, 0, none⟩), .pointer (some ⟨ga, 0, none⟩)] .L w22 K := by
    intro K hK
    refine (carry_ok h22.symm i5 i4.clear (by show wB2.1.out.length ≤ _; omega) (by show 0 ≤ _; decide) fun d hd => hll d (.inr (.inr (.inr (.inr hd))))).mono ?_
    rintro r w24 ⟨Fb', Fa', xb', xa', hs', h24, m24, f24, _, _, _⟩
    refine hK r w24 ⟨Fa', Fb', xa', xb', h24.symm, m24.on f22 fun k hk => b22 k hk.symm, fun k hk => ?_⟩ m24
    rcases f24 k hk.symm with h | h
    · exact b22 k h.symm
    · have := f22.size; omega
  refine hm22 fun x23 w24 two m24 => ?_
  have hE : ∀ k, Fb k ∨ Fa k → Z3 (fun _ => False) Fa Fb k := fun k hk => .inr hk.symm
  have ho24 : OwS w24 w20.heap.size t_s_uint8 x21 hs := ho22.mv m24 fun ad ha hf => hn22 _ ⟨ad, ha, rfl⟩ (hE _ hf)
  have ha24 : All2 (Cb w24 (Z3 (fun _ => False) Fa Fb)) hs [[120]] := by
    have h9 : All2 (Cb w22 (Z3 (fun _ => False) Fa Fb)) hs wB2.2 := ha22
    rw [e3] at h9
    exact h9.mono fun c d _ _ hr => hr.mv m24 (fun k hk => .inl (hE k hk)) fun k hk => .inl hk
  have hI : wA3.inv := takes_inv _ i4.clear
  have two' := two
  obtain ⟨Fa2, Fb2, xa2, xb2, h2, f2, b2⟩ := two
  refine (tUp_ok h2.one hI.me.1).mono ?_
  rintro _ _ ⟨rfl, rfl⟩
  refine bT e1 ?_
  refine (tUp_ok h2.two i5.clear.me.1).mono ?_
  rintro _ _ ⟨rfl, rfl⟩
  refine bT e2 ?_
  refine bT (by rw [beq_iff_eq]; exact e0) ?_
  have hl24 := ho24.len
  have hla := ha24.length
  refine bT (by rw [beq_iff_eq]; simp at hla; omega) ?_
  have h0 : 0 < hs.length := by rw [hla]; decide
  refine ixS (j := 0) ho24.rd ho24.len rfl h0 (Fr.refl _) ?_
  have hc := ha24.get h0 (by decide)
  refine bstrI hc.bs.rd hc.bs.len.symm (Fr.refl _) ?_
  refine bT (by rw [show (⟨#[120]⟩ : ByteArray) = ⟨([120] : List UInt8).toArray⟩ from rfl, beqB_eq]; rfl) ?_
  refine (tWaiting_ok h2.one hI.me.1).mono ?_
  rintro _ w33 ⟨rfl, f33⟩
  refine bT (by rw [beq_iff_eq]; exact e4) ?_
  refine (tYou_ok (h2.one.fr f33) hI.me.1).mono ?_
  rintro _ _ ⟨rfl, rfl⟩
  exact ⟨by rw [beq_iff_eq]; exact e5, f2.trans f33⟩
end
end Go.Proofs.YtmhibpcbdbhfoaaDoor
namespace Go.Proofs.YtmhibpcbdbhfoaaDoor
open Go.RowKit Go.Fl Go.ChangeShapes Go.WideShapes Go.ChangeAt

theorem u8s_of : ∀ {R : List Value}, (∀ v ∈ R, ∃ z, v = .int .u8 z ∧ (Lit.int .u8 z).wf = true) → ∃ d : List UInt8, R = u8s d
  | [], _ => ⟨[], rfl⟩
  | v :: R, h => by
    obtain ⟨d, rfl⟩ := u8s_of (R := R) fun u hu => h u (List.mem_cons_of_mem _ hu)
    obtain ⟨z, rfl, hz⟩ := h v (List.mem_cons_self ..)
    have hb : 0 ≤ z ∧ z ≤ 255 := by
      simp only [Lit.wf, IntKind.min, IntKind.max, IntKind.signed, IntKind.bits, Bool.and_eq_true] at hz
      simp at hz
      omega
    refine ⟨UInt8.ofNat z.toNat :: d, ?_⟩
    have : ((UInt8.ofNat z.toNat).toNat : Int) = z := by
      simp
      omega
    show Value.int .u8 z :: u8s d = Value.int .u8 ((UInt8.ofNat z.toNat).toNat : Int) :: u8s d
    rw [this]
theorem take1 {cs : List Value} {i : Nat} {v : Value} (h : (cs.drop i).take 1 = [v]) : cs.drop i = v :: cs.drop (i + 1) := by
  cases hd : cs.drop i with
  | nil => rw [hd] at h; cases h
  | cons a t =>
    rw [hd] at h
    simp only [List.take_succ_cons, List.take_zero, List.cons.injEq, and_true] at h
    rw [h, ← List.drop_drop, hd]
    rfl
section
variable {H : Type} {enc : TypeId × Value → H} {w : World} {fuel : Nat} {cs : List Value} {x : DataW H × List MemPlace}
theorem int_of_cells {t : TypeId} (ht : Tryd.prog.underlying t = some (.int .i64)) (h : DataW.trod enc Tryd.prog w 0 (fun _ => true) true fuel t cs = some x) : ∃ k : Int, cs = [.int .i64 k] ∧ -9223372036854775808 ≤ k ∧ k ≤ 9223372036854775807 := by
  obtain ⟨k, hk, _, hw⟩ := DataW.trod_int ht h
  exact ⟨k, hk, wfI64 hw⟩
theorem bytes_of_cells (h : DataW.trod enc Tryd.prog w 0 (fun _ => true) true fuel t_s_uint8 cs = some x) : ∃ (s : Sl) (l : List UInt8), cs = [slV s] ∧ Bs w s l := by
  rcases open_ints u_s_uint8 u_uint8 (by kernel_rfl) h with ⟨hcs, _⟩ | ⟨a, n, c, zs, hcs, _, hl, hm, hz, _, hcell, hwz⟩
  · exact ⟨⟨none, 0, 0⟩, [], hcs, Bs.nil _ _⟩
  · obtain ⟨l, hB⟩ := rowB (w := w) (a := some a) (len := n) (cap := c) (zs := zs) (.inr ⟨a, rfl, hl, hm, by simpa using hz, hcell, hwz⟩)
    exact ⟨⟨some a, n, c⟩, l, hcs, hB⟩
/-- Is a number of a machine's word? -/
abbrev I64 (n : Int) : Prop := -9223372036854775808 ≤ n ∧ n ≤ 9223372036854775807
/-- What is known of a frame that came in. -/
structure FrIn (w : World) (p : y_api_Frame) (l : List UInt8) : Prop where
  data : Bs w p.2.2.2.2.2.2.1 l
  k : I64 p.1
  fr : I64 p.2.1
  yo : I64 p.2.2.1
  sq : I64 p.2.2.2.1
  ac : I64 p.2.2.2.2.1
  bi : I64 p.2.2.2.2.2.1
theorem frame_of_cells (h : DataW.trod enc Tryd.prog w 0 (fun _ => true) true fuel t_api_Frame cs = some x) : ∃ (p : y_api_Frame) (l : List UInt8), cs = frC p ∧ FrIn w p l := by
  obtain ⟨xs, n, rfl, rfl, hl, hxl, hf⟩ := DataW.trod_struct u_api_Frame h
  have c1 : Tryd.prog.cellsOf t_int = 1 := by kernel_rfl
  have c2 : Tryd.prog.cellsOf t_s_uint8 = 1 := by kernel_rfl
  have c7 : Tryd.prog.cellsOf t_api_Frame = 7 := by kernel_rfl
  have hxl : xs.length = 7 := hxl
  rw [c7] at hl
  have f0 := hf 0 _ rfl
  have f1 := hf 1 _ rfl
  have f2 := hf 2 _ rfl
  have f3 := hf 3 _ rfl
  have f4 := hf 4 _ rfl
  have f5 := hf 5 _ rfl
  have f6 := hf 6 _ rfl
  rw [List.getElem?_eq_getElem (by omega)] at f0 f1 f2 f3 f4 f5 f6
  obtain ⟨k0, h0, b0⟩ := int_of_cells u_int f0
  obtain ⟨k1, h1, b1⟩ := int_of_cells u_int f1
  obtain ⟨k2, h2, b2⟩ := int_of_cells u_int f2
  obtain ⟨k3, h3, b3⟩ := int_of_cells u_int f3
  obtain ⟨k4, h4, b4⟩ := int_of_cells u_int f4
  obtain ⟨k5, h5, b5⟩ := int_of_cells u_int f5
  obtain ⟨sl, l, h6, hB⟩ := bytes_of_cells f6
  have h0' : (cs.drop 0).take 1 = [.int .i64 k0] := (congrArg (fun n => (cs.drop 0).take n) c1).symm.trans h0
  have h1' : (cs.drop 1).take 1 = [.int .i64 k1] := (congrArg (fun n => (cs.drop 1).take n) c1).symm.trans h1
  have h2' : (cs.drop 2).take 1 = [.int .i64 k2] := (congrArg (fun n => (cs.drop 2).take n) c1).symm.trans h2
  have h3' : (cs.drop 3).take 1 = [.int .i64 k3] := (congrArg (fun n => (cs.drop 3).take n) c1).symm.trans h3
  have h4' : (cs.drop 4).take 1 = [.int .i64 k4] := (congrArg (fun n => (cs.drop 4).take n) c1).symm.trans h4
  have h5' : (cs.drop 5).take 1 = [.int .i64 k5] := (congrArg (fun n => (cs.drop 5).take n) c1).symm.trans h5
  have h6' : (cs.drop 6).take 1 = [slV sl] := (congrArg (fun n => (cs.drop 6).take n) c2).symm.trans h6
  refine ⟨(k0, k1, k2, k3, k4, k5, sl, ()), l, ?_, ⟨hB, b0, b1, b2, b3, b4, b5⟩⟩
  have e0 := take1 h0'
  have e6 := take1 h6'
  rw [List.drop_of_length_le (i := 7) (by omega)] at e6
  rw [List.drop_zero] at e0
  rw [e0, take1 h1', take1 h2', take1 h3', take1 h4', take1 h5', e6]
  rfl
end
set_option maxRecDepth 100000 in
theorem frame_in {H : Type} {enc : TypeId × Value → H} {w : World} {base : Nat} {v : Value} {dd : DataW H} {ps : List MemPlace} (hv : Value.okWide Tryd.prog w .any base t_api_Frame v) (h : DataW.Trod enc Tryd.prog w 0 (fun _ => true) true t_api_Frame v dd ps) :
    ∃ (p : y_api_Frame) (l : List UInt8), v = frV p ∧ FrIn w p l := by
  obtain ⟨cs, rfl, _⟩ := Go.WideShapes.okWide_struct u_api_Frame hv
  obtain ⟨fuel, hf⟩ := h
  obtain ⟨p, l, hcs, hR⟩ := frame_of_cells hf
  refine ⟨p, l, ?_, hR⟩
  have h1 : cs.toList = frC p := hcs
  have : cs = (frC p).toArray := (Array.toArray_toList (xs := cs)).symm.trans (congrArg List.toArray h1)
  exact congrArg Value.agg this
end Go.Proofs.YtmhibpcbdbhfoaaDoor
namespace Go.Proofs.YtmhibpcbdbhfoaaDoor
open Go.RowKit Go.Fl

/-- What the reference reads of a frame. -/
def RFGetP (w : World) (r : y_api_Frame × Int × Unit) (p : List UInt8) : Prop :=
  match getF p with
  | some f => r.2 = (0, ()) ∧ fmOf r.1 f.bd = f ∧ Bs w r.1.2.2.2.2.2.2.1 f.bd
  | none => r = (z_api_Frame, getE p, ())
theorem RFGetP.some {w : World} {r : y_api_Frame × Int × Unit} {p : List UInt8} {f : Fm} (h : getF p = .some f) (h1 : r.2 = (0, ())) (h2 : fmOf r.1 f.bd = f) (h3 : Bs w r.1.2.2.2.2.2.2.1 f.bd) : RFGetP w r p := by
  unfold RFGetP; rw [h]; exact ⟨h1, h2, h3⟩
theorem RFGetP.none {w : World} {r : y_api_Frame × Int × Unit} {p : List UInt8} (h : getF p = .none) (h1 : r = (z_api_Frame, getE p, ())) : RFGetP w r p := by
  unfold RFGetP; rw [h]; exact h1
theorem look_at' {a : Int} (h : 0 ≤ a) (h2 : a ≤ 9223372036854775807) (r : List UInt8) : (((lookS (numB a.toNat ++ r)).1 : Nat) : Int) = a ∧ (numB a.toNat ++ r).drop (lookS (numB a.toNat ++ r)).2.1 = r := by
  rw [look_num (by omega)]
  exact ⟨by omega, by rw [← numB_length, List.drop_left' rfl]⟩
theorem rdText_room' (l : List UInt8) : (rdText l 512).1.length ≤ 512 := by
  unfold rdText
  split
  · simp
  · split
    · simp
    · rename_i h
      split
      · simp
      · rw [List.length_take, List.length_drop]; omega
theorem nums_in {f : Fm} (h : f.ok) : ∀ x ∈ f.nums, 0 ≤ x ∧ x ≤ 9223372036854775807 := by
  have hi := okF_in h
  have h1 := h.1
  have h2 := h.2.1
  intro x hx
  simp only [Fm.nums, List.mem_cons, List.not_mem_nil, or_false] at hx
  rcases hx with rfl | rfl | rfl | rfl | rfl | rfl <;> omega
theorem rtGet_own {s : Sl} {b : List UInt8} {w : World} (hs : Bs w s b) (hl : b.length ≤ 140737488351232) :
    cl Tryd.prog n_flumeref12_Get #[.slice s.a s.n s.c] (.tup (.pair k_api_Frame (.pair (.I .i64) .nil))) w fun (r : y_api_Frame × Int × Unit) w' => (RFGetP w' r b ∧ Fr w w') ∧ ∀ ad, r.1.2.2.2.2.2.2.1.a = some ad → w.heap.size ≤ ad.block := by
  refine flumeref12_Get.cl ?_
  unfold flumeref12_Get
  refine nwI fun a1 w2 ha1 hs2 hf2 hb1 _ => ?_
  refine (refOpenB_ok (hs.fr hf2) hl).mono ?_
  rintro ⟨x3, e3, ⟨⟩⟩ w4 ⟨h3, he3, hf4⟩
  dsimp only at h3 he3
  obtain ⟨rfl, _⟩ := Prod.mk.inj he3
  dsimp -zeta only
  have hb14 := hf4.heap hb1
  have hf4' := hf2.trans hf4
  have la1 := (Array.getElem?_eq_some_iff.1 hb1).1
  have frg : ∀ {u u' : World} {m : Nat}, Fr w u → u.grownBy u' (some m) → w.heap.size ≤ m → Fr w u' := fun {u u' m} hf hk hm => hf.on (grown_below hk hm hf.size)
  have bad : ∀ {u : World} {e : Int} {K : y_api_Frame → World → Prop}, Fr w u → u.heap[a1]? = some (.cells (frC z_api_Frame).toArray t_api_Frame (0, 0)) → getF b = none → e = getE b →
      (∀ u', RFGetP u' (z_api_Frame, e, ()) b ∧ Fr w u' → K z_api_Frame u') → st u ⟨a1, 0, none⟩ (Kd.av k_api_Frame (0, (0, (0, (0, (0, (0, (⟨none, 0, 0⟩, ())))))))) fun u1 => ld k_api_Frame u1 ⟨a1, 0, none⟩ fun r => K r u1 := by
    intro u e K hfu h1 hg he hK
    refine finF h1 rfl z_api_Frame fun u' hg' _ => hK u' ⟨RFGetP.none hg (by rw [he]), frg hfu hg' (by omega)⟩
  refine bNe ?_ ?_ <;> intro h0
  · have hg : getF b = none := by rw [getF, if_pos (by omega)]
    refine bad hf4' hb14 hg (by rw [getE, if_pos (by omega)]) fun u' hu => ⟨hu, fun _ h => by cases h⟩
  have hgo : getF b = bodyF (openB b).1 := by rw [getF, if_neg (by omega)]
  have heo : getF b = none → (120 : Int) = getE b := fun h => by rw [getE, if_neg (by omega), h]; rfl
  have hgood : ∀ f : Fm, f.ok → f.bytes = b → (openB b).1 = rawF f := by
    intro f _ h2
    rw [← h2, Fm.bytes, openB_seal]
  have ho : (openB b).1.length ≤ 140737488351232 := by
    unfold openB
    split
    · simp
    · split
      · dsimp only; rw [List.length_take]; omega
      · simp
  generalize (openB b).1 = p at *
  have h3n := h3.len
  refine bE ?_ ?_ <;> intro hp0
  · have : p = [] := List.eq_nil_of_length_eq_zero (by omega)
    have hg : getF b = none := by rw [hgo, this]; rfl
    exact bad hf4' hb14 hg (heo hg) fun u' hu => ⟨hu, fun _ h => by cases h⟩
  have hpl : 1 ≤ p.length := by omega
  refine nwI fun a9 w10 ha9 hs10 hf10 hb9 _ => ?_
  refine nwI fun a11 w12 ha11 hs12 hf12 hb11 _ => ?_
  have hf12' := (hf4'.trans hf10).trans hf12
  have hold : p ≠ [] → ∀ ad, x3.a = some ad → ad.block < w4.heap.size := fun hb => h3.bs.lt hb
  have hz4 := hf4.size
  have hz2 := hf2.size
  have hz10 := hf10.size
  have hr12 : RR w12 a9 x3 p 1 := ⟨hf12.heap hb9, (h3.bs.fr hf10).fr hf12, fun hb ad had => by have := hold hb ad had; omega, hpl, ho⟩
  refine stW (Kd.av k_api_Frame (numP [] ⟨none, 0, 0⟩)) rfl hb11 rfl fun w13 hb13 hg13 hs13 => ?_
  have rdk : ∀ {u u' : World} {m i : Nat}, RR u a9 x3 p i → u.grownBy u' (some m) → m ≠ a9 → w4.heap.size ≤ m → RR u' a9 x3 p i := fun {u u' m i} hr hk hm hw => hr.kp (kp_grown hk) (by omega) fun hb ad had => by have := hold hb ad had; omega
  have stp : ∀ {u u' : World} {m j : Nat} {o : Obj}, u.grownBy u' (some j) → j ≠ m → u.heap[m]? = some o → u'.heap[m]? = some o := fun {u u' m j o} hk hm ho => (hk.block m (Array.getElem?_eq_some_iff.1 ho).1 (by simp; omega)).trans ho
  have hb112 := (hf10.trans hf12).heap hb14
  have tail : Fm → List UInt8 := fun f => numB f.bd.length ++ f.bd
  have num : ∀ (k : Nat) {u : World} {i : Nat} {ns : List Int} {K : World → Prop}, k < 6 → ns.length = k → Fr w u → RR u a9 x3 p i → u.heap[a1]? = some (.cells (frC z_api_Frame).toArray t_api_Frame (0, 0)) → u.heap[a11]? = some (.cells (frC (numP ns ⟨none, 0, 0⟩)).toArray t_api_Frame (0, 0)) →
      (∀ f : Fm, f.ok → f.bytes = b → ns = f.nums.take k ∧ p.drop i = numsB (f.nums.drop k) ++ (numB f.bd.length ++ f.bd)) →
      (∀ u' i' ns', ns'.length = k + 1 → Fr w u' → RR u' a9 x3 p i' → u'.heap[a1]? = some (.cells (frC z_api_Frame).toArray t_api_Frame (0, 0)) → u'.heap[a11]? = some (.cells (frC (numP ns' ⟨none, 0, 0⟩)).toArray t_api_Frame (0, 0)) →
        (∀ f : Fm, f.ok → f.bytes = b → ns' = f.nums.take (k + 1) ∧ p.drop i' = numsB (f.nums.drop (k + 1)) ++ (numB f.bd.length ++ f.bd)) → K u') →
      cl Tryd.prog n_flumeref02_Reader_Number #[.pointer (some ⟨a9, 0, none⟩)] (.tup (.pair (.I .i64) (.pair (.I .i64) .nil))) u fun (x : Int × Int × Unit) u' => st1 u' ⟨a11, k, none⟩ (.int .i64 x.1) K := by
    intro k u i ns K hk hns hfu hr h1 h11 hG hK
    refine (ref_Number_rd hr).mono ?_
    rintro _ u' ⟨rfl, hr', hg'⟩
    dsimp only
    refine st0 (stp hg' (by omega) h11) (by show k < 7; omega) fun u2 hb2 hg2 hs2 => ?_
    subst hns
    rw [numP_set hk] at hb2
    refine hK u2 _ _ (by simp) (frg (frg hfu hg' (by omega)) hg2 (by omega)) (rdk hr' hg2 (by omega) (by omega)) (stp hg2 (by omega) (stp hg' (by omega) h1)) hb2 fun f hf hb => ?_
    obtain ⟨g1, g2⟩ := hG f hf hb
    have hkl : ns.length < f.nums.length := hk
    have hin := nums_in hf _ (List.getElem_mem hkl)
    rw [List.drop_eq_getElem_cons hkl, numsB_cons, List.append_assoc] at g2
    have := look_at' hin.1 hin.2 (numsB (f.nums.drop (ns.length + 1)) ++ (numB f.bd.length ++ f.bd))
    rw [← g2] at this
    rw [← List.drop_drop]
    refine ⟨?_, this.2⟩
    rw [this.1, List.take_succ_eq_append_getElem hkl, ← g1]
  refine num 0 (by decide) rfl (frg hf12' hg13 (by omega)) (rdk hr12 hg13 (by omega) (by omega)) (stp hg13 (by omega) hb112) hb13 (fun f hf hb => ?_) ?_
  · refine ⟨rfl, ?_⟩
    rw [hgood f hf hb]
    rfl
  intro u1 i1 n1 l1 f1 r1 b1 c1 g1
  refine num 1 (by decide) l1 f1 r1 b1 c1 g1 ?_
  intro u2 i2 n2 l2 f2 r2 b2 c2 g2
  refine num 2 (by decide) l2 f2 r2 b2 c2 g2 ?_
  intro u3 i3 n3 l3 f3 r3 b3 c3 g3
  refine num 3 (by decide) l3 f3 r3 b3 c3 g3 ?_
  intro u4 i4 n4 l4 f4 r4 b4 c4 g4
  refine num 4 (by decide) l4 f4 r4 b4 c4 g4 ?_
  intro u5 i5 n5 l5 f5 r5 b5 c5 g5
  refine num 5 (by decide) l5 f5 r5 b5 c5 g5 ?_
  intro u6 i6 ns l6 f6 r6 b6 c6 g6
  have lu1 := (Array.getElem?_eq_some_iff.1 b6).1
  have lu11 := (Array.getElem?_eq_some_iff.1 c6).1
  have hz6 := f6.size
  refine (ref_Text_rd (most := 512) r6).mono ?_
  rintro ⟨x32, e32, ⟨⟩⟩ w33 ⟨he, h32, hr33, hg33⟩
  dsimp only at he h32
  have hroom := rdText_room' (p.drop i6)
  have hf33 := frg f6 hg33 (by omega)
  dsimp -zeta only
  rw [addOff, Nat.zero_add]
  refine st0 (stp hg33 (by omega) c6) (by show 6 < 7; decide) fun w34 hb34 hg34 hs34 => ?_
  have hb34 : w34.heap[a11]? = some (.cells (frC (numP ns x32)).toArray t_api_Frame (0, 0)) := hb34
  have hf34 := frg hf33 hg34 (by omega)
  have h134 := stp hg34 (by omega) (stp hg33 (by omega) b6)
  have h32' : OwB w34 u6.heap.size t_uint8 x32 (rdText (p.drop i6) 512).1 := h32.kp (kp_grown hg34) fun ad had => by have := (h32.own ad had).1; omega
  have hna : ∀ ad, x32.a = some ad → ad.block ≠ a1 := fun ad had => by have := (h32.own ad had).1; omega
  have hgd : ∀ f : Fm, f.ok → f.bytes = b → fmOf (numP ns x32) (rdText (p.drop i6) 512).1 = f := by
    intro f hf hb
    obtain ⟨q1, q2⟩ := g6 f hf hb
    have hi := okF_in hf
    have e1 : ns = f.nums := q1
    have e2 : p.drop i6 = numB f.bd.length ++ f.bd := q2
    have ht := rdText_put (m := f.bd) (most := 512) (by omega) (by omega) []
    rw [List.append_nil] at ht
    rw [e1, e2, ht]
    rfl
  generalize (rdText (p.drop i6) 512).1 = bd at *
  have h32n := h32'.len
  have hok := okP_of (p := numP ns x32) (b := bd) h32n
  have hnone : ¬((fmOf (numP ns x32) bd).ok ∧ (fmOf (numP ns x32) bd).bytes = b) → getF b = none := by
    intro h
    cases hg : getF b with
    | none => rfl
    | some f =>
      obtain ⟨q1, q2⟩ := getF_back hg
      exact absurd (by rw [hgd f q1 q2]; exact ⟨q1, q2⟩) h
  refine ldW (k := k_api_Frame) (x := numP ns x32) hb34 rfl ?_
  refine (rtPut_ok (p := numP ns x32) h32'.bs).mono ?_
  rintro ⟨x36, e36, ⟨⟩⟩ w37 ⟨hx, he37, hf37⟩
  dsimp only at hx he37
  obtain ⟨rfl, _⟩ := Prod.mk.inj he37
  have hf37' := hf34.trans hf37
  by_cases hk : (fmOf (numP ns x32) bd).ok
  · have ep : putF (fmOf (numP ns x32) bd) = ((fmOf (numP ns x32) bd).bytes, 0) := by rw [putF, if_pos hk]
    rw [ep] at hx ⊢
    refine bF rfl ?_
    refine bstrI hx.rd hx.len.symm (Fr.refl _) ?_
    refine bstrI (hs.fr hf37').rd hs.len.symm (Fr.refl _) ?_
    rw [beqB_eq]
    by_cases hbb : (fmOf (numP ns x32) bd).bytes = b
    · have hg : getF b = some (fmOf (numP ns x32) bd) := by
        rw [← hbb]; exact getF_put hk
      rw [decide_eq_true hbb]
      refine bF rfl ?_
      refine ldW (k := k_api_Frame) (x := numP ns x32) (hf37.heap hb34) rfl ?_
      refine finF (hf37.heap h134) rfl (numP ns x32) fun u' hg' _ => ⟨⟨?_, frg hf37' hg' (by omega)⟩, fun ad had => by have := (h32'.own ad had).1; omega⟩
      exact RFGetP.some hg rfl rfl ((h32'.bs.fr hf37).kpn (kp_grown hg') fun _ => hna)
    · have hg := hnone fun h => hbb h.2
      rw [decide_eq_false hbb]
      exact bT rfl (bad hf37' (hf37.heap h134) hg (heo hg) fun u' hu => ⟨hu, fun _ h => by cases h⟩)
  · have ep : putF (fmOf (numP ns x32) bd) = ([], 120) := by rw [putF, if_neg hk]
    rw [ep]
    have hg := hnone fun h => hk h.1
    exact bT rfl (bad hf37' (hf37.heap h134) hg (heo hg) fun u' hu => ⟨hu, fun _ h => by cases h⟩)
theorem rtGet_ok {s : Sl} {b : List UInt8} {w : World} (hs : Bs w s b) (hl : b.length ≤ 140737488351232) :
    cl Tryd.prog n_flumeref12_Get #[.slice s.a s.n s.c] (.tup (.pair k_api_Frame (.pair (.I .i64) .nil))) w fun (r : y_api_Frame × Int × Unit) w' => RFGetP w' r b ∧ Fr w w' := (rtGet_own hs hl).mono fun _ _ h => h.1
end Go.Proofs.YtmhibpcbdbhfoaaDoor
namespace Go.Proofs.YtmhibpcbdbhfoaaDoor
open Go.RowKit Go.Fl

theorem awake_law {w w2 : World} (hd : Crc w) (hf : Fr w w2) : cl Tryd.prog n_flumelaw12_awake #[] .B w2 fun (r : Bool) w' => r = true ∧ Fr w w' :=
  (awake12_ok (hd.fr hf)).mono fun _ _ h => ⟨h.1, hf.trans h.2⟩
theorem same_ok {p q : y_api_Frame} {l m : List UInt8} {w : World} (hp : Bs w p.2.2.2.2.2.2.1 l) (hq : Bs w q.2.2.2.2.2.2.1 m) :
    cl Tryd.prog n_flumelaw12_same #[frV p, frV q] .B w fun (r : Bool) w' => r = decide (fmOf p l = fmOf q m) ∧ Fr w w' := by
  refine flumelaw12_same.cl (p0 := p) (p1 := q) ?_
  unfold flumelaw12_same
  refine nwI fun a1 w2 ha1 hs2 hf2 hb1 _ => ?_
  refine nwI fun a3 w4 ha3 hs4 hf4 hb3 _ => ?_
  have hf := hf2.trans hf4
  have hb1 := hf4.heap hb1
  have no : fmOf p l ≠ fmOf q m → false = decide (fmOf p l = fmOf q m) ∧ Fr w w4 := fun h => ⟨by rw [decide_eq_false h], hf⟩
  refine ldI0 hb1 rfl (ldI0 hb3 rfl (bE (fun e0 => ?_) fun h => no fun e => h (congrArg Fm.k e)))
  refine ldI0 hb1 rfl (ldI0 hb3 rfl (bE (fun e1 => ?_) fun h => no fun e => h (congrArg Fm.fr e)))
  refine ldI0 hb1 rfl (ldI0 hb3 rfl (bE (fun e2 => ?_) fun h => no fun e => h (congrArg Fm.yo e)))
  refine ldI0 hb1 rfl (ldI0 hb3 rfl (bE (fun e3 => ?_) fun h => no fun e => h (congrArg Fm.sq e)))
  refine ldI0 hb1 rfl (ldI0 hb3 rfl (bE (fun e4 => ?_) fun h => no fun e => h (congrArg Fm.ac e)))
  refine ldI0 hb1 rfl (ldI0 hb3 rfl (bE (fun e5 => ?_) fun h => no fun e => h (congrArg Fm.bi e)))
  refine ldL0 (s := p.2.2.2.2.2.2.1) hb1 rfl (ldL0 (s := q.2.2.2.2.2.2.1) hb3 rfl ?_)
  refine (Equal_ok (hp.fr hf) (hq.fr hf)).mono ?_
  rintro _ _ ⟨rfl, rfl⟩
  refine ⟨?_, hf⟩
  rw [Bool.eq_iff_iff]
  simp only [decide_eq_true_iff, fmOf, e0, e1, e2, e3, e4, e5, Fm.mk.injEq, true_and]
theorem chkP_body {p : y_api_Frame} {x : Sl} (h : x.n = p.2.2.2.2.2.2.1.n) : chkP (p.1, p.2.1, p.2.2.1, p.2.2.2.1, p.2.2.2.2.1, p.2.2.2.2.2.1, x, ()) = chkP p := by
  unfold chkP okP
  dsimp only
  rw [h]
set_option maxRecDepth 100000 in
theorem TunnelPuts_law {H : Type} {enc : TypeId × Value → H} {w : World} {b0 : Nat} {v0 : Value} {d0 : DataW H} {p0 : List MemPlace} (hd : Crc w)
    (o0 : Value.okWide Tryd.prog w .any b0 t_api_Frame v0) (h0 : DataW.Trod enc Tryd.prog w 0 (fun _ => true) true t_api_Frame v0 d0 p0) :
    Calls Tryd.prog n_flumelaw12_TunnelPuts #[v0] w fun e w' => e = .returned (.bool true) ∧ Below w.heap.size w w' := by
  refine lawE ?_
  obtain ⟨p, l, rfl, hp⟩ := frame_in o0 h0
  have hl := hp.data
  have hn := hl.len
  refine flumelaw12_TunnelPuts.cl (p0 := p) ?_
  unfold flumelaw12_TunnelPuts
  refine nwI fun a1 w2 ha1 hs2 hf2 hb1 _ => ?_
  refine ldL0 (s := p.2.2.2.2.2.2.1) hb1 rfl ?_
  refine bD ?_ ?_ <;> intro hbig
  · exact awake_law hd hf2
  refine ldW (k := k_api_Frame) (x := p) hb1 rfl ?_
  refine nwI fun a7 w8 ha7 hs8 hf8 hb7 _ => ?_
  refine stW (Kd.av k_api_Frame p) rfl hb7 rfl fun w9 hb9 hg9 hs9 => ?_
  have hz2 := hf2.size
  have hz8 := hf8.size
  have hf29 : Fr w2 w9 := hf8.on (grown_below hg9 (by omega) (by omega))
  have hb19 := hf29.heap hb1
  have hf9 := hf2.trans hf29
  refine ldL0 (s := p.2.2.2.2.2.2.1) hb19 rfl ?_
  refine (Clone_byte_ok (hl.fr hf9) (by omega)).mono ?_
  rintro x11 w12 ⟨h11, hf12⟩
  refine st0 (hf12.heap hb9) (by show 6 < 7; decide) fun w13 hb13 hg13 hs13 => ?_
  have hz12 := hf12.size
  have hf213 : Fr w2 w13 := (hf29.trans hf12).on (grown_below hg13 (show w2.heap.size ≤ a7 by omega) (by have := hf29.size; omega))
  have hf13 := hf2.trans hf213
  let p' : y_api_Frame := (p.1, p.2.1, p.2.2.1, p.2.2.2.1, p.2.2.2.2.1, p.2.2.2.2.2.1, x11, ())
  have hb13 : w13.heap[a7]? = some (.cells (frC p').toArray t_api_Frame (0, 0)) := hb13
  have h11' : OwB w13 w9.heap.size t_uint8 x11 l := h11.kp (S := fun k => k ≠ a7) (fun k hk hne => hg13.block k hk fun e => hne (Option.some.inj e)) fun ad ha => by have := (h11.own ad ha).1; show ad.block ≠ a7; omega
  refine ldW (k := k_api_Frame) (x := p') hb13 rfl ?_
  refine (tPut_ok (p := p') (hd.fr hf13) h11'.bs).mono ?_
  rintro ⟨x15, e15, ⟨⟩⟩ w16 ⟨h15, he15, hf16⟩
  dsimp only at h15 he15
  obtain ⟨rfl, _⟩ := Prod.mk.inj he15
  have hb116 := (hf213.trans hf16).heap hb1
  refine ldW (k := k_api_Frame) (x := p) hb116 rfl ?_
  refine (rtPut_ok (p := p) (b := l) (hl.fr (hf13.trans hf16))).mono ?_
  rintro ⟨x18, e18, ⟨⟩⟩ w19 ⟨h18, he18, hf19⟩
  dsimp only at h18 he18
  obtain ⟨rfl, _⟩ := Prod.mk.inj he18
  intro n
  have hfn := Fr.drewN w19 n
  generalize w19.drewN n = w20 at *
  refine (Equal_ok (h15.fr (hf19.trans hfn)).bs (h18.fr hfn).bs).mono ?_
  rintro _ _ ⟨rfl, rfl⟩
  refine ⟨Fr.refl _, bT (by simp [p']) (bT (by simp [p']) ?_)⟩
  have hf20 := (hf16.trans hf19).trans hfn
  refine ldW (k := k_api_Frame) (x := p') (hf20.heap hb13) rfl ?_
  refine ldW (k := k_api_Frame) (x := p) ((hf213.trans hf20).heap hb1) rfl ?_
  refine (tCheck_ok (p := p')).mono ?_
  rintro _ w26 ⟨rfl, hf26⟩
  refine ⟨hf26, ?_⟩
  refine (rtCheck_ok (p := p)).mono ?_
  rintro _ w28 ⟨rfl, hf28⟩
  refine ⟨hf28, bT (by rw [beq_iff_eq]; exact chkP_body (by rw [h11.len, hn])) ?_⟩
  have hf28' := (hf20.trans hf26).trans hf28
  refine ldW (k := k_api_Frame) (x := p') (hf28'.heap hb13) rfl ?_
  refine ldW (k := k_api_Frame) (x := p) ((hf213.trans hf28').heap hb1) rfl ?_
  refine (same_ok (p := p') (q := p) (h11'.fr hf28').bs (hl.fr (hf13.trans hf28'))).mono ?_
  rintro _ w32 ⟨rfl, hf32⟩
  exact bT (decide_eq_true rfl) (awake_law hd ((hf13.trans hf28').trans hf32))
/-- What was read, or none. -/
def fm0 : Fm := ⟨0, 0, 0, 0, 0, 0, []⟩
theorem FGetP.eq {w : World} {own : Nat} {p : y_api_Frame} {e : Int} {b : List UInt8} (h : FGetP w own (p, e, ()) b) : fmOf p ((getF b).getD fm0).bd = (getF b).getD fm0 ∧ OwB w own t_uint8 p.2.2.2.2.2.2.1 ((getF b).getD fm0).bd ∧ e = getE b := by
  unfold FGetP at h
  cases hg : getF b with
  | some f =>
    rw [hg] at h
    exact ⟨h.2.1, h.2.2, by rw [(Prod.mk.inj h.1).1, getE_zero.2 (by rw [hg]; rfl)]⟩
  | none =>
    rw [hg] at h
    obtain ⟨rfl, h2⟩ := Prod.mk.inj h
    exact ⟨rfl, OwB.nil _ _ _, (Prod.mk.inj h2).1⟩
theorem RFGetP.eq {w : World} {p : y_api_Frame} {e : Int} {b : List UInt8} (h : RFGetP w (p, e, ()) b) : fmOf p ((getF b).getD fm0).bd = (getF b).getD fm0 ∧ Bs w p.2.2.2.2.2.2.1 ((getF b).getD fm0).bd ∧ e = getE b := by
  unfold RFGetP at h
  cases hg : getF b with
  | some f =>
    rw [hg] at h
    exact ⟨h.2.1, h.2.2, by rw [(Prod.mk.inj h.1).1, getE_zero.2 (by rw [hg]; rfl)]⟩
  | none =>
    rw [hg] at h
    obtain ⟨rfl, h2⟩ := Prod.mk.inj h
    exact ⟨rfl, Bs.nil _ _, (Prod.mk.inj h2).1⟩
theorem TunnelGets_law {w : World} {a : Option Addr} {len cap : Nat} {zs : List Int} (hd : Crc w) (h : RowK .u8 w a len cap zs) : Calls Tryd.prog n_flumelaw12_TunnelGets #[.slice a len cap] w fun e w' => e = .returned (.bool true) ∧ Below w.heap.size w w' := by
  refine lawE ?_
  obtain ⟨l, hl⟩ := rowB h
  refine flumelaw12_TunnelGets.cl (p0 := ⟨a, len, cap⟩) ?_
  unfold flumelaw12_TunnelGets
  have hn : len = l.length := hl.len
  refine bD ?_ ?_ <;> intro h0
  · exact awake_law hd (Fr.refl w)
  have h0 : ¬((len : Int) > 32768) := h0
  refine (Clone_byte_ok (s := ⟨a, len, cap⟩) hl (by omega)).mono ?_
  rintro x3 w4 ⟨h3, hf4⟩
  refine (tGet_ok (hd.fr hf4) h3.bs (by omega)).mono ?_
  rintro ⟨p, e, ⟨⟩⟩ w6 ⟨hm, hf6⟩
  obtain ⟨p1, p2, p3⟩ := hm.eq
  refine nwI fun a7 w8 ha7 hs8 hf8 hb7 _ => ?_
  refine stW (Kd.av k_api_Frame p) rfl hb7 rfl fun w9 hb9 hg9 hs9 => ?_
  have hf69 : Fr w6 w9 := hf8.on (grown_below hg9 (by omega) hf8.size)
  have hf9 := (hf4.trans hf6).trans hf69
  refine (rtGet_ok (s := ⟨a, len, cap⟩) (hl.fr hf9) (by omega)).mono ?_
  rintro ⟨q, f, ⟨⟩⟩ w11 ⟨hk, hf11⟩
  obtain ⟨q1, q2, q3⟩ := hk.eq
  refine nwI fun a12 w13 ha12 hs13 hf13 hb12 _ => ?_
  refine stW (Kd.av k_api_Frame q) rfl hb12 rfl fun w14 hb14 hg14 hs14 => ?_
  have hf1114 : Fr w11 w14 := hf13.on (grown_below hg14 (by omega) hf13.size)
  have hf914 := hf11.trans hf1114
  refine ldW (k := k_api_Frame) (x := p) (hf914.heap hb9) rfl ?_
  refine ldW (k := k_api_Frame) (x := q) hb14 rfl ?_
  refine (same_ok (p := p) (q := q) (p2.fr (hf69.trans hf914)).bs (q2.fr hf1114)).mono ?_
  rintro _ w18 ⟨rfl, hf18⟩
  refine bT (by rw [p1, q1]; exact decide_eq_true rfl) (bT (by rw [p3, q3]; simp) ?_)
  have hf418 := ((hf6.trans hf69).trans hf914).trans hf18
  refine (Equal_ok (x := ⟨a, len, cap⟩) (h3.bs.fr hf418) (hl.fr (hf4.trans hf418))).mono ?_
  rintro _ _ ⟨rfl, rfl⟩
  exact bT (by simp) (awake_law hd (hf4.trans hf418))
theorem bytes_len (f : Fm) : 12 ≤ f.bytes.length := by
  have h : ∀ x : Nat, 1 ≤ (numB x).length := fun x => by rw [numB_length]; omega
  have h0 := h f.k.toNat
  have h1 := h f.fr.toNat
  have h2 := h f.yo.toNat
  have h3 := h f.sq.toNat
  have h4 := h f.ac.toNat
  have h5 := h f.bi.toNat
  have h6 := h f.bd.length
  rw [Fm.bytes, sealB_length]
  simp only [rawF, Fm.nums, numsB_cons, numsB_nil, List.length_cons, List.length_append, List.length_nil]
  omega
theorem xor_ne {a b : UInt8} (h : b ≠ 0) : a ≠ a ^^^ b := fun e => h (by
  have e2 : a ^^^ a = a ^^^ (a ^^^ b) := congrArg (a ^^^ ·) e
  rw [← UInt8.xor_assoc, UInt8.xor_self, UInt8.zero_xor] at e2
  exact e2.symm)
/-- One byte of an own row is another one now. -/
theorem turn1 {w : World} {base : Nat} {e : TypeId} {s : Sl} {l : List UInt8} {i v : Nat} (h : OwB w base e s l) (hi : i < l.length) (hv : 1 ≤ v ∧ v ≤ 255) {K : World → Prop}
    (hk : ∀ w' c, l[i] ≠ c → OwB w' base e s (l.set i c) → Below base w w' → (∀ k, some k ≠ (Value.slice s.a s.n s.c).ownBlock → w'.heap[k]? = w.heap[k]?) → K w') :
    ixa s.a s.n (i : Int) 1 fun a => ld (.I .u8) w a fun (x : Int) => ixa s.a s.n (i : Int) 1 fun a' => st1 w a' (.int .u8 (bits .xor .u8 x (v : Int))) K := by
  refine ixBc (c := l[i]) h.rd h.len (by omega) (by rw [Int.toNat_natCast]; exact List.getElem?_eq_getElem hi) (Fr.refl w) ?_
  refine stB (b := l[i] ^^^ UInt8.ofNat v) h (by omega) (by rw [Int.toNat_natCast]; exact hi) ?_ fun w' h' hb hk' _ => hk w' (l[i] ^^^ UInt8.ofNat v) (xor_ne fun e => ?_) (by rw [Int.toNat_natCast] at h'; exact h') hb hk'
  · rw [u8_xor_nat _ _ (UInt8.toNat_lt _) (by omega), UInt8.toNat_xor]
    have : (UInt8.ofNat v).toNat = v := by simp; omega
    rw [this]
  · have := congrArg UInt8.toNat e
    simp at this
    omega
theorem at_mod {n : Nat} (p : Int) (hn : 0 < n) (hn2 : n ≤ 1099511627776) : ∃ i : Nat, i < n ∧ IntKind.i64.wrap (Int.tmod (IntKind.u64.wrap p) (IntKind.u64.wrap (n : Int))) = i := by
  have hu : 0 ≤ IntKind.u64.wrap p := by simp only [IntKind.wrap, IntKind.bits, IntKind.signed]; simp; omega
  rw [u64w (n := (n : Int)) (by omega) (by omega)]
  generalize IntKind.u64.wrap p = u at *
  rw [Int.tmod_eq_emod_of_nonneg hu]
  have h1 := Int.emod_nonneg u (b := (n : Int)) (by omega)
  have h2 := Int.emod_lt_of_pos u (b := (n : Int)) (by omega)
  exact ⟨(u % (n : Int)).toNat, by omega, by rw [i64w (by omega) (by omega)]; omega⟩
theorem by_mod (p : Int) : ∃ v : Nat, (1 ≤ v ∧ v ≤ 255) ∧ IntKind.u8.wrap (IntKind.u64.wrap (1 + Int.tmod (IntKind.u64.wrap p) 255)) = v := by
  have hu : 0 ≤ IntKind.u64.wrap p := by simp only [IntKind.wrap, IntKind.bits, IntKind.signed]; simp; omega
  generalize IntKind.u64.wrap p = u at *
  rw [Int.tmod_eq_emod_of_nonneg hu]
  refine ⟨(1 + u % 255).toNat, by omega, ?_⟩
  rw [u64w (by omega) (by omega), u8w]
  omega
set_option maxRecDepth 100000 in
theorem TunnelForm_law {H : Type} {enc : TypeId × Value → H} {w : World} {b0 : Nat} {v0 : Value} {d0 : DataW H} {p0 : List MemPlace} {a : Option Addr} {len cap : Nat} {zs : List Int} {at_ x_ : Int} (hd : Crc w)
    (o0 : Value.okWide Tryd.prog w .any b0 t_api_Frame v0) (h0 : DataW.Trod enc Tryd.prog w 0 (fun _ => true) true t_api_Frame v0 d0 p0) (h : RowK .u8 w a len cap zs) (_ : (Lit.int .i64 at_).wf = true) (_ : (Lit.int .i64 x_).wf = true) :
    Calls Tryd.prog n_flumelaw12_TunnelForm #[v0, .slice a len cap, .int .i64 at_, .int .i64 x_] w fun e w' => e = .returned (.bool true) ∧ Below w.heap.size w w' := by
  refine lawE ?_
  obtain ⟨p, l, rfl, hp⟩ := frame_in o0 h0
  obtain ⟨b, hb⟩ := rowB h
  have hl := hp.data
  have hn := hl.len
  have hbn : len = b.length := hb.len
  refine flumelaw12_TunnelForm.cl (p0 := p) (p1 := ⟨a, len, cap⟩) (p2 := at_) (p3 := x_) ?_
  unfold flumelaw12_TunnelForm
  refine nwI fun a1 w2 ha1 hs2 hf2 hb1 _ => ?_
  refine ldL0 (s := p.2.2.2.2.2.2.1) hb1 rfl ?_
  refine bD ?_ ?_ <;> intro hbig
  · exact awake_law hd hf2
  refine bD ?_ ?_ <;> intro hbig2
  · exact awake_law hd hf2
  have hbig2 : ¬((len : Int) > 32768) := hbig2
  intro j1
  have hj1 : ∀ u, Fr w u → j1 u := by
    intro u hfu
    unfold j1
    refine (tGet_ok (s := ⟨a, len, cap⟩) (hd.fr hfu) (hb.fr hfu) (by omega)).mono ?_
    rintro ⟨q, e, ⟨⟩⟩ w48 ⟨hm, hf48⟩
    obtain ⟨q1, q2, q3⟩ := hm.eq
    refine nwI fun a49 w50 ha49 hs50 hf50 hb49 _ => ?_
    refine stW (Kd.av k_api_Frame q) rfl hb49 rfl fun w51 hb51 hg51 hs51 => ?_
    have hf4851 : Fr w48 w51 := hf50.on (grown_below hg51 (by omega) hf50.size)
    have hf51 := (hfu.trans hf48).trans hf4851
    refine bNe ?_ ?_ <;> intro he
    · have hg : getF b = none := by
        cases hg : getF b with
        | none => rfl
        | some f => exact absurd (q3.trans (getE_zero.2 (by rw [hg]; rfl))) he
      refine ldW (k := k_api_Frame) (x := q) hb51 rfl ?_
      rw [hg] at q1 q2
      refine (same_ok (p := q) (q := (0, 0, 0, 0, 0, 0, ⟨none, 0, 0⟩, ())) (q2.fr hf4851).bs (Bs.nil _ _)).mono ?_
      rintro _ w54 ⟨rfl, hf54⟩
      exact bT (decide_eq_true q1) (awake_law hd (hf51.trans hf54))
    · have he : e = 0 := he
      obtain ⟨f, hg⟩ : ∃ f, getF b = some f := by
        have h1 := getE_zero.1 (q3.symm.trans he)
        cases hg : getF b with
        | none => rw [hg] at h1; cases h1
        | some f => exact ⟨f, rfl⟩
      rw [hg] at q1 q2
      obtain ⟨hok, hby⟩ := getF_back hg
      refine ldW (k := k_api_Frame) (x := q) hb51 rfl ?_
      refine (tPut_ok (p := q) (hd.fr hf51) (q2.fr hf4851).bs).mono ?_
      rintro ⟨x58, e58, ⟨⟩⟩ w59 ⟨h58, he58, hf59⟩
      dsimp only at h58 he58
      have hput : putF (fmOf q ((some f).getD fm0).bd) = (b, 0) := by rw [q1]; show putF f = _; rw [putF, if_pos hok, hby]
      rw [hput] at h58 he58
      obtain ⟨rfl, _⟩ := Prod.mk.inj he58
      refine bT rfl ?_
      refine (Equal_ok (x := ⟨a, len, cap⟩) h58.bs (hb.fr (hf51.trans hf59))).mono ?_
      rintro _ _ ⟨rfl, rfl⟩
      exact bT (by simp) (awake_law hd (hf51.trans hf59))
  clear_value j1
  refine ldW (k := k_api_Frame) (x := p) hb1 rfl ?_
  refine (tPut_ok (p := p) (b := l) (hd.fr hf2) (hl.fr hf2)).mono ?_
  rintro ⟨x9, e9, ⟨⟩⟩ w10 ⟨h9, he9, hf10⟩
  dsimp only at h9 he9 ⊢
  obtain ⟨rfl, _⟩ := Prod.mk.inj he9
  have hf10' := hf2.trans hf10
  by_cases hok : (fmOf p l).ok
  rotate_left
  · have e : putF (fmOf p l) = ([], 120) := by rw [putF, if_neg hok]
    rw [e]
    exact bF rfl (hj1 _ hf10')
  have e : putF (fmOf p l) = ((fmOf p l).bytes, 0) := by rw [putF, if_pos hok]
  rw [e] at h9 ⊢
  refine bT rfl ?_
  have h9 : OwB w10 w2.heap.size t_uint8 x9 (fmOf p l).bytes := h9
  have hn9 : x9.n = (fmOf p l).bytes.length := h9.len
  have hlow := bytes_len (fmOf p l)
  have hhigh : (fmOf p l).bytes.length ≤ 1099511627776 := by
    have h2 := numsB_le (fmOf p l).nums
    have h3 := numB_le l.length
    have h4 : (fmOf p l).nums.length = 6 := rfl
    have h5 : (fmOf p l).bd.length = l.length := rfl
    rw [Fm.bytes, sealB_length]
    simp only [rawF, List.length_cons, List.length_append]
    omega
  refine (tGet_ok (hd.fr hf10') h9.bs (Nat.le_trans hhigh (by decide))).mono ?_
  rintro ⟨q, e11, ⟨⟩⟩ w12 ⟨hm, hf12⟩
  obtain ⟨q1, q2, q3⟩ := hm.eq
  rw [getF_put hok] at q1 q2
  refine nwI fun a13 w14 ha13 hs14 hf14 hb13 _ => ?_
  refine stW (Kd.av k_api_Frame q) rfl hb13 rfl fun w15 hb15 hg15 hs15 => ?_
  have hf1215 : Fr w12 w15 := hf14.on (grown_below hg15 (by omega) hf14.size)
  have hf1015 := hf12.trans hf1215
  refine bF (by rw [q3, getE_zero.2 (by rw [getF_put hok]; rfl)]; rfl) ?_
  refine ldW (k := k_api_Frame) (x := p) ((hf10.trans hf1015).heap hb1) rfl ?_
  refine ldW (k := k_api_Frame) (x := q) hb15 rfl ?_
  refine (same_ok (p := p) (q := q) (hl.fr (hf10'.trans hf1015)) (q2.fr hf1215).bs).mono ?_
  rintro _ w19 ⟨rfl, hf19⟩
  refine bF (by rw [q1]; simp) ?_
  refine bF (by simp; omega) ?_
  have h919 := h9.fr (hf1015.trans hf19)
  obtain ⟨i, hi, hie⟩ := at_mod (n := x9.n) at_ (by omega) (by omega)
  obtain ⟨v, hv, hve⟩ := by_mod x_
  refine bT (by rw [u64w (by omega) (by omega)]; simp; omega) ?_
  rw [hie, hve]
  refine turn1 h919 (by omega) hv fun w23 c hc h23 hb23 _ => ?_
  have hz2 := hf2.size
  have hz10 := hf10.size
  have hf23 : Fr w w23 := ((hf10'.trans hf1015).trans hf19).on (hb23.mono (by omega))
  refine (tGet_ok (hd.fr hf23) h23.bs (by rw [List.length_set]; exact Nat.le_trans hhigh (by decide))).mono ?_
  rintro ⟨q2, e24, ⟨⟩⟩ w25 ⟨hm2, hf25⟩
  obtain ⟨_, _, q6⟩ := hm2.eq
  refine nwI fun a26 w27 ha26 hs27 hf27 hb26 _ => ?_
  refine stW (Kd.av k_api_Frame q2) rfl hb26 rfl fun w28 hb28 hg28 hs28 => ?_
  have hf2528 : Fr w25 w28 := hf27.on (grown_below hg28 (by omega) hf27.size)
  have h10 : e24 = 10 := by
    rw [q6, getE]
    have : openB ((fmOf p l).bytes.set i c) = ([], 10) := openB_turn (by show i < (fmOf p l).bytes.length; omega) hc
    rw [this]; rfl
  refine bF (by rw [h10]; rfl) (hj1 _ ((hf23.trans hf25).trans hf2528))
end Go.Proofs.YtmhibpcbdbhfoaaDoor
namespace Go.Proofs.YtmhibpcbdbhfoaaDoor
open Go.RowKit Go.Fl Go.ChangeShapes Go.WideShapes Go.ChangeAt

theorem add_zero' (a : Addr) : a.add 0 = a := by simp [Addr.add]
/-- A value that lies anywhere is read. -/
theorem ldAt : ∀ (k : Kd) (x : k.T), (k.av x).okLd = true → ∀ {w : World} {a : Addr} {K : k.T → Prop}, (∀ (j : Nat) v, (k.av x).cells[j]? = some v → w.cell? (a.add j) = some v) → K x → ld k w a K
  | .nil, (), _, _, _, _, _, hk => hk
  | .pair k1 k2, (x, y), hx, w, a, K, h, hk => by
    simp only [Kd.av, AV.okLd, Bool.and_eq_true] at hx
    simp only [Kd.av, AV.cells] at h
    have hl : (k1.av x).cells.length = k1.size := ld_all.kd_size k1 x hx.1
    refine ldAt k1 x hx.1 (fun j v hj => h j v (by rw [List.getElem?_append_left (List.getElem?_eq_some_iff.1 hj).1]; exact hj)) ?_
    refine ldAt k2 y hx.2 (fun j v hj => ?_) hk
    rw [add_add, ← hl]
    exact h _ v (by rw [List.getElem?_append_right (by omega), Nat.add_sub_cancel_left]; exact hj)
  | .row n, l, _, w, a, K, h, hk => ⟨l, fun i hi => h i _ (List.getElem?_eq_getElem hi), hk⟩
  | .B, b, _, w, a, K, h, hk => ⟨b, by have := h 0 _ rfl; rwa [add_zero'] at this, hk⟩
  | .I k, b, _, w, a, K, h, hk => ⟨b, by have := h 0 _ rfl; rwa [add_zero'] at this, hk⟩
  | .S, b, _, w, a, K, h, hk => ⟨b, by have := h 0 _ rfl; rwa [add_zero'] at this, hk⟩
  | .P, b, _, w, a, K, h, hk => ⟨b, by have := h 0 _ rfl; rwa [add_zero'] at this, hk⟩
  | .L, b, _, w, a, K, h, hk => ⟨b, by have := h 0 _ rfl; rwa [add_zero'] at this, hk⟩
  | .M, b, _, w, a, K, h, hk => ⟨b, by have := h 0 _ rfl; rwa [add_zero'] at this, hk⟩
  | .U, b, hx, w, a, K, h, hk => ⟨b, by have := h 0 b (by simp [Kd.av, AV.cells, one_cells hx]); rwa [add_zero'] at this, hk, hx⟩
  | .tup _, _, hx, _, _, _, _, _ => by cases hx
theorem flat_get {E : Type} {f : E → List Value} {sz : Nat} (hlen : ∀ x, (f x).length = sz) : ∀ {xs : List E} {i j : Nat} (_ : i < xs.length), j < sz → (xs.flatMap f)[i * sz + j]? = (f xs[i])[j]?
  | [], _, _, h, _ => by simp at h
  | x :: xs, 0, j, _, hj => by
    rw [List.flatMap_cons, Nat.zero_mul, Nat.zero_add, List.getElem?_append_left (by rw [hlen]; exact hj)]
    rfl
  | x :: xs, i + 1, j, h, hj => by
    rw [List.flatMap_cons, List.getElem?_append_right (by rw [hlen, Nat.succ_mul]; omega), hlen, show (i + 1) * sz + j - sz = i * sz + j from by rw [Nat.succ_mul]; omega]
    exact flat_get hlen (by simpa using h) hj
theorem flat_len {E : Type} {f : E → List Value} {sz : Nat} (hlen : ∀ x, (f x).length = sz) : ∀ xs : List E, (xs.flatMap f).length = xs.length * sz
  | [] => by simp
  | x :: xs => by rw [List.flatMap_cons, List.length_append, hlen, flat_len hlen xs, List.length_cons, Nat.succ_mul]; omega
/-- One of a row of structs. -/
theorem ixE {E : Type} {f : E → List Value} {sz : Nat} (hlen : ∀ x, (f x).length = sz) {w : World} {s : Sl} {xs : List E} {i : Nat} {K : Addr → Prop} (hr : Rd w s.a (xs.flatMap f)) (hl : s.n = xs.length) (hi : i < xs.length) (hs : 0 < sz)
    (h : ∀ a, (∀ (j : Nat) v, (f xs[i])[j]? = some v → w.cell? (a.add j) = some v) → K a) : ixa s.a s.n (i : Int) sz K := by
  refine ⟨by omega, by omega, ?_⟩
  have hlt : ∀ j, j < sz → ∃ v, (xs.flatMap f)[i * sz + j]? = some v := fun j hj => by
    rw [flat_get hlen hi hj]
    exact ⟨_, List.getElem?_eq_getElem (by rw [hlen]; exact hj)⟩
  obtain ⟨v0, h0⟩ := hlt 0 hs
  obtain ⟨ad, ha, _⟩ := hr _ _ h0
  rw [ha]
  refine h _ fun j v hj => ?_
  have hjs : j < sz := by rw [← hlen xs[i]]; exact (List.getElem?_eq_some_iff.1 hj).1
  obtain ⟨ad', ha', hc⟩ := hr (i * sz + j) v (by rw [flat_get hlen hi hjs]; exact hj)
  rw [ha] at ha'
  cases ha'
  rw [atOff_eq, add_add, Int.toNat_natCast]
  exact hc
section
variable {H : Type} {enc : TypeId × Value → H} {w : World} {fuel : Nat} {cs : List Value} {x : DataW H × List MemPlace}
/-- A row of structs that comes in. -/
theorem rowIn {t e : TypeId} (ht : Tryd.prog.underlying t = some (.slice e)) {sz : Nat} (hc : Tryd.prog.cellsOf e = sz) {E : Type} {f : E → List Value} {R : E → Prop}
    (hel : ∀ {fuel : Nat} {cs : List Value} {x : DataW H × List MemPlace}, DataW.trod enc Tryd.prog w 0 (fun _ => true) true fuel e cs = some x → ∃ y : E, cs = f y ∧ R y) (hlen : ∀ y, (f y).length = sz)
    (h : DataW.trod enc Tryd.prog w 0 (fun _ => true) true fuel t cs = some x) : ∃ (s : Sl) (xs : List E), cs = [slV s] ∧ s.n = xs.length ∧ Rd w s.a (xs.flatMap f) ∧ ∀ y ∈ xs, R y := by
  rcases DataW.trod_slice ht h with ⟨h0, _⟩ | ⟨a, len, cap, elems, rest, n, _, rfl, _, _, _, _, hlen', hels, _, _⟩
  · exact ⟨⟨none, 0, 0⟩, [], h0, rfl, Rd.nil _ _, by simp⟩
  suffices hx : ∀ m, m ≤ len → ∃ xs : List E, xs.length = m ∧ Rd w (some a) (xs.flatMap f) ∧ ∀ y ∈ xs, R y by
    obtain ⟨xs, h1, h2, h3⟩ := hx len (Nat.le_refl _)
    exact ⟨⟨some a, len, cap⟩, xs, rfl, h1.symm, h2, h3⟩
  intro m
  induction m with
  | zero => exact fun _ => ⟨[], rfl, Rd.nil _ _, by simp⟩
  | succ m ih =>
    intro hm
    obtain ⟨xs, h1, h2, h3⟩ := ih (by omega)
    have hb := hels m (by omega)
    rw [hc, List.getElem?_eq_getElem (by omega), Option.bind_eq_some_iff] at hb
    obtain ⟨cs', hcs, hy⟩ := hb
    obtain ⟨y, rfl, hR⟩ := hel hy
    refine ⟨xs ++ [y], by simp [h1], ?_, fun z hz => ?_⟩
    · rw [List.flatMap_append, List.flatMap_singleton]
      intro i v hv
      refine ⟨a, rfl, ?_⟩
      by_cases hi : i < (xs.flatMap f).length
      · rw [List.getElem?_append_left hi] at hv
        obtain ⟨ad, ha, hcell⟩ := h2 i v hv
        cases ha; exact hcell
      · rw [List.getElem?_append_right (by omega), flat_len hlen, h1] at hv
        rw [flat_len hlen, h1] at hi
        obtain ⟨_, hl', hcc⟩ := World.cells?_some hcs
        have hj : i - m * sz < sz := by have := (List.getElem?_eq_some_iff.1 hv).1; rwa [hlen] at this
        have := hcc _ hj
        rw [add_add, show m * sz + (i - m * sz) = i from by omega] at this
        rw [this]; exact hv
    · rcases List.mem_append.1 hz with hz | hz
      · exact h3 z hz
      · rw [List.mem_singleton] at hz; rw [hz]; exact hR
theorem bool_of_cells {t : TypeId} (ht : Tryd.prog.underlying t = some .bool) (h : DataW.trod enc Tryd.prog w 0 (fun _ => true) true fuel t cs = some x) : ∃ b : Bool, cs = [.bool b] := by
  obtain ⟨b, hb, _⟩ := DataW.trod_bool ht h
  exact ⟨b, hb⟩
/-- A call of a tunnel that came in. -/
abbrev DoE : Type := y_flumelaw12_Do × List UInt8 × List UInt8
structure DoIn (w : World) (e : DoE) : Prop where
  op : I64 e.1.1
  n : I64 e.1.2.1
  b : Bs w e.1.2.2.1 e.2.1
  f : FrIn w e.1.2.2.2.1 e.2.2
abbrev doC (e : DoE) : List Value := (Kd.av k_flumelaw12_Do e.1).cells
theorem do_of_cells (h : DataW.trod enc Tryd.prog w 0 (fun _ => true) true fuel t_flumelaw12_Do cs = some x) : ∃ e : DoE, cs = doC e ∧ DoIn w e := by
  obtain ⟨xs, n, rfl, rfl, hl, hxl, hf⟩ := DataW.trod_struct u_flumelaw12_Do h
  have c1 : Tryd.prog.cellsOf t_int = 1 := by kernel_rfl
  have c2 : Tryd.prog.cellsOf t_s_uint8 = 1 := by kernel_rfl
  have c7 : Tryd.prog.cellsOf t_api_Frame = 7 := by kernel_rfl
  have cb : Tryd.prog.cellsOf t_bool = 1 := by kernel_rfl
  have c11 : Tryd.prog.cellsOf t_flumelaw12_Do = 11 := by kernel_rfl
  have hxl : xs.length = 5 := hxl
  rw [c11] at hl
  have f0 := hf 0 _ rfl
  have f1 := hf 1 _ rfl
  have f2 := hf 2 _ rfl
  have f3 := hf 3 _ rfl
  have f4 := hf 4 _ rfl
  rw [List.getElem?_eq_getElem (by omega)] at f0 f1 f2 f3 f4
  obtain ⟨k0, h0, b0⟩ := int_of_cells u_int f0
  obtain ⟨k1, h1, b1⟩ := int_of_cells u_int f1
  obtain ⟨sl, l, h2, hB⟩ := bytes_of_cells f2
  obtain ⟨p, m, h3, hF⟩ := frame_of_cells f3
  obtain ⟨b, h4⟩ := bool_of_cells u_bool f4
  have h0' : (cs.drop 0).take 1 = [.int .i64 k0] := (congrArg (fun n => (cs.drop 0).take n) c1).symm.trans h0
  have h1' : (cs.drop 1).take 1 = [.int .i64 k1] := (congrArg (fun n => (cs.drop 1).take n) c1).symm.trans h1
  have h2' : (cs.drop 2).take 1 = [slV sl] := (congrArg (fun n => (cs.drop 2).take n) c2).symm.trans h2
  have h3' : (cs.drop 3).take 7 = frC p := (congrArg (fun n => (cs.drop 3).take n) c7).symm.trans h3
  have h4' : (cs.drop 10).take 1 = [.bool b] := (congrArg (fun n => (cs.drop 10).take n) cb).symm.trans h4
  refine ⟨((k0, k1, sl, p, b, ()), l, m), ?_, ⟨b0, b1, hB, hF⟩⟩
  have e0 := take1 h0'
  have e4 := take1 h4'
  rw [List.drop_of_length_le (i := 11) (by omega)] at e4
  rw [List.drop_zero] at e0
  have e3 : cs.drop 3 = frC p ++ cs.drop 10 := by
    have := List.take_append_drop 7 (cs.drop 3)
    rw [h3', List.drop_drop] at this
    exact this.symm
  rw [e0, take1 h1', take1 h2', e3, e4]
  rfl
end
set_option maxRecDepth 100000 in
theorem do_in {H : Type} {enc : TypeId × Value → H} {w : World} {base : Nat} {v : Value} {dd : DataW H} {ps : List MemPlace} (hv : Value.okWide Tryd.prog w .any base t_s_flumelaw12_Do v) (h : DataW.Trod enc Tryd.prog w 0 (fun _ => true) true t_s_flumelaw12_Do v dd ps) :
    ∃ (s : Sl) (xs : List DoE), v = slV s ∧ s.n = xs.length ∧ Rd w s.a (xs.flatMap doC) ∧ ∀ e ∈ xs, DoIn w e := by
  obtain ⟨a, len, cap, rfl⟩ := okWide_slice u_s_flumelaw12_Do hv
  obtain ⟨fuel, hf⟩ := h
  obtain ⟨s, xs, hcs, h1, h2, h3⟩ := rowIn u_s_flumelaw12_Do (sz := 11) (by kernel_rfl) (f := doC) (R := DoIn w) (fun h => do_of_cells h) (fun _ => rfl) hf
  refine ⟨s, xs, ?_, h1, h2, h3⟩
  have : ([Value.slice a len cap] : List Value) = [slV s] := hcs
  injection this
end Go.Proofs.YtmhibpcbdbhfoaaDoor
namespace Go.Proofs.YtmhibpcbdbhfoaaDoor
open Go.RowKit Go.Fl

section
variable {w : World} {s : Sl} {xs : List DoE}
theorem short_ok (hl : s.n = xs.length) (hr : Rd w s.a (xs.flatMap doC)) : cl Tryd.prog n_flumelaw12_short #[.slice s.a s.n s.c] .B w fun (r : Bool) w' => (r = true → xs.length ≤ 120) ∧ Fr w w' := by
  refine flumelaw12_short.cl (p0 := s) ?_
  unfold flumelaw12_short
  refine lpI (fun (s' : Int × Int × Unit) w' => Fr w w' ∧ ∃ i : Nat, i ≤ xs.length ∧ s'.2.1 = i ∧ i ≤ 121) (fun s' _ => (s.n - s'.2.1).toNat) ⟨Fr.refl w, 0, Nat.zero_le _, rfl, by omega⟩ ?_
  rintro D ⟨n, i', ⟨⟩⟩ v ⟨hfv, i, hi, rfl, hi2⟩
  dsimp only
  have fin : bif decide ((s.n : Int) ≤ 120) then ((decide (n ≤ 32768) = true → xs.length ≤ 120) ∧ Fr w v) else ((false = true → xs.length ≤ 120) ∧ Fr w v) := by
    refine bD ?_ ?_ <;> intro h
    · exact ⟨fun _ => by omega, hfv⟩
    · exact ⟨fun h => (by cases h), hfv⟩
  refine bD ?_ ?_ <;> intro hlt
  · refine bD ?_ ?_ <;> intro h120
    · refine bD ?_ ?_ <;> intro hn
      · have hi1 : i < xs.length := by omega
        refine ixE (f := doC) (sz := 11) (fun _ => rfl) (hr.below hfv) hl hi1 (by decide) fun a ha => ?_
        refine ⟨xs[i].1.2.2.1, ha 2 _ rfl, ?_⟩
        refine ixE (f := doC) (sz := 11) (fun _ => rfl) (hr.below hfv) hl hi1 (by decide) fun a ha => ?_
        rw [add_add]
        refine ⟨xs[i].1.2.2.2.1.2.2.2.2.2.2.1, ha 9 _ rfl, ?_⟩
        intro m
        rw [i64w (n := (i : Int) + 1) (by omega) (by omega)]
        exact ⟨⟨hfv.trans (Fr.drewN v m), i + 1, by omega, rfl, by omega⟩, by omega⟩
      · exact fin
    · exact fin
  · exact fin
/-- A call's frame. -/
def doF (e : DoE) (me you : Int) : Fm := if e.1.2.2.2.2.1 then { fmOf e.1.2.2.2.1 e.2.2 with fr := you, yo := me } else fmOf e.1.2.2.2.1 e.2.2
theorem frame_ok {e : DoE} {me you : Int} (hin : Bs w e.1.2.2.2.1.2.2.2.2.2.2.1 e.2.2) : cl Tryd.prog n_flumelaw12_Do_frame #[(Kd.av k_flumelaw12_Do e.1).val, .int .i64 me, .int .i64 you] .L w fun (r : Sl) w' => OwB w' w.heap.size t_uint8 r (putF (doF e me you)).1 ∧ Fr w w' := by
  refine flumelaw12_Do_frame.cl (p0 := e.1) (p1 := me) (p2 := you) ?_
  unfold flumelaw12_Do_frame
  refine nwI fun a1 w2 ha1 hs2 hf2 hb1 _ => ?_
  have hp : ∀ {u : World} {K : y_api_Frame → Prop}, Fr w2 u → K e.1.2.2.2.1 → ld k_api_Frame u ((⟨a1, 0, none⟩ : Addr).add 3) K := fun {u K} hf hK => by
    rw [addOff]
    exact ld_all k_api_Frame e.1.2.2.2.1 rfl (pre := [.int .i64 e.1.1, .int .i64 e.1.2.1, slV e.1.2.2.1]) (post := [.bool e.1.2.2.2.2.1]) (hf.heap hb1) hK
  refine hp (Fr.refl _) ?_
  refine nwI fun a4 w5 ha4 hs5 hf5 hb4 _ => ?_
  refine stW (Kd.av k_api_Frame e.1.2.2.2.1) rfl hb4 rfl fun w6 hb6 hg6 hs6 => ?_
  have hz2 := hf2.size
  have hz5 := hf5.size
  have hf26 : Fr w2 w6 := hf5.on (grown_below hg6 (show w2.heap.size ≤ a4 by omega) hf5.size)
  have hf6 := hf2.trans hf26
  rw [addOff]
  refine ldB0 (hf26.heap hb1) (show (Kd.av k_flumelaw12_Do e.1).cells.toArray[10]? = some (.bool e.1.2.2.2.2.1) from rfl) ?_
  have hz6 := hf26.size
  unfold doF
  cases hm : e.1.2.2.2.2.1 with
  | true =>
    refine bT rfl ?_
    rw [addOff]
    refine st0 hb6 (by show 1 < 7; decide) fun w8 hb8 hg8 hs8 => ?_
    rw [addOff]
    refine st0 hb8 (by show 2 < 7; decide) fun w9 hb9 hg9 hs9 => ?_
    have hf69 : Fr w2 w9 := (hf26.on (grown_below hg8 (show w2.heap.size ≤ a4 by omega) hz6)).on (grown_below hg9 (show w2.heap.size ≤ a4 by omega) (by omega))
    refine ldW (k := k_api_Frame) (x := (e.1.2.2.2.1.1, you, me, e.1.2.2.2.1.2.2.2)) hb9 rfl ?_
    have hf9 := hf2.trans hf69
    refine (rtPut_ok (p := (e.1.2.2.2.1.1, you, me, e.1.2.2.2.1.2.2.2)) (b := e.2.2) (hin.fr hf9)).mono ?_
    rintro ⟨r, c, ⟨⟩⟩ w12 ⟨h12, _, hf12⟩
    exact ⟨h12.mono hf9.size, hf9.trans hf12⟩
  | false =>
    refine bF rfl ?_
    refine ldW (k := k_api_Frame) (x := e.1.2.2.2.1) hb6 rfl ?_
    refine (rtPut_ok (p := e.1.2.2.2.1) (b := e.2.2) (hin.fr hf6)).mono ?_
    rintro ⟨r, c, ⟨⟩⟩ w12 ⟨h12, _, hf12⟩
    exact ⟨h12.mono hf6.size, hf6.trans hf12⟩
/-- A tunnel of the call's own. -/
def Mine (w v : World) (g : Nat) (t : Tn) : Prop := ∃ F x, Tun v (fun _ => False) F g t x ∧ Fr w v ∧ ∀ k, F k → w.heap.size ≤ k
theorem Mine.fr {v v' : World} {g : Nat} {t : Tn} (h : Mine w v g t) (hf : Fr v v') : Mine w v' g t := by
  obtain ⟨F, x, h1, h2, h3⟩ := h
  exact ⟨F, x, h1.fr hf, h2.trans hf, h3⟩
theorem Mine.base {v : World} {g : Nat} {t : Tn} (h : Mine w v g t) : Fr w v := by
  obtain ⟨F, x, h1, h2, h3⟩ := h
  exact h2
theorem Mine.act {v : World} {g : Nat} {t : Tn} {K : Prop} (h : Mine w v g t) (hk : ∀ F x, Tun v (fun _ => False) F g t x → (∀ v' t', TunTo v v' (fun _ => False) F g t' → Mine w v' g t') → K) : K := by
  obtain ⟨F, x, h1, h2, h3⟩ := h
  refine hk F x h1 fun v' t' ⟨F', x', t1, m1, f1⟩ => ⟨F', x', t1, m1.on h2 h3, fun k hk => ?_⟩
  rcases f1 k hk with h | h
  · exact h3 k h
  · have := h2.size; omega
theorem Told.to {v v' : World} {G F : Nat → Prop} {g : Nat} {t' : Tn} {r : Sl} {l : List (List UInt8)} (h : Told v v' G F g t' r l) : TunTo v v' G F g t' := by
  obtain ⟨F', x', hs, h1, h2, h3, _⟩ := h
  exact ⟨F', x', h1.anti fun k hk => .inl hk, h2, h3⟩
theorem Told.len {v v' : World} {G F : Nat → Prop} {g : Nat} {t' : Tn} {r : Sl} {l : List (List UInt8)} (h : Told v v' G F g t' r l) : r.n = l.length := by
  obtain ⟨F', x', hs, h1, h2, h3, h4, h5, _⟩ := h
  rw [h4.len, h5.length]
theorem Mine.out {v : World} {g : Nat} {t : Tn} {K : Sl → World → Prop} (h : Mine w v g t) (hme : 1 ≤ t.me) (hk : ∀ r v', r.n = t.out.length → Mine w v' g t.clear → K r v') : cl Tryd.prog n_tunnel_Tunnel_Out #[.pointer (some ⟨g, 0, none⟩)] .L v K := by
  obtain ⟨F, x, h1, h2, h3⟩ := h
  refine (tOut_ok h1 hme).mono ?_
  rintro r v' ⟨F', x', hs, t1, m1, f1, h5, h6, _⟩
  exact hk r v' (by rw [h5.len, h6.length]) ⟨F', x', t1, m1.on h2 h3, fun k hk => h3 k (f1 k hk)⟩
theorem ix1 {g n i : Nat} {K : Addr → Prop} (hi : i < n) (h : K ⟨g, i, none⟩) : ixa (some ⟨g, 0, none⟩) n (i : Int) 1 K := by
  refine ⟨by omega, by omega, ?_⟩
  show K (atOff ⟨g, 0, none⟩ (i : Int) 1)
  rw [atOff_eq, addOff, Int.toNat_natCast, Nat.zero_add, Nat.mul_one]
  exact h
/-- A call upon a tunnel: which. -/
theorem mod8 (n : Int) : ∃ k : Nat, k < 8 ∧ IntKind.i64.wrap (Int.tmod (IntKind.u64.wrap n) 8) = k := by
  have hu : 0 ≤ IntKind.u64.wrap n := by simp only [IntKind.wrap, IntKind.bits, IntKind.signed]; simp; omega
  generalize IntKind.u64.wrap n = u at *
  rw [Int.tmod_eq_emod_of_nonneg hu, i64w (by omega) (by omega)]
  exact ⟨(u % 8).toNat, by omega, by omega⟩
end
set_option maxRecDepth 100000 in
theorem TunnelStranger_law {H : Type} {enc : TypeId × Value → H} {w : World} {b0 b1 : Nat} {v0 v1 : Value} {d0 d1 : DataW H} {p0 p1 : List MemPlace} {a : Option Addr} {len cap : Nat} {zs : List Int} (hd : Crc w)
    (o0 : Value.okWide Tryd.prog w .any b0 t_s_flumelaw12_Do v0) (h0 : DataW.Trod enc Tryd.prog w 0 (fun _ => true) true t_s_flumelaw12_Do v0 d0 p0)
    (o1 : Value.okWide Tryd.prog w .any b1 t_api_Frame v1) (h1 : DataW.Trod enc Tryd.prog w 0 (fun _ => true) true t_api_Frame v1 d1 p1) (h : RowK .u8 w a len cap zs) :
    Calls Tryd.prog n_flumelaw12_TunnelStranger #[v0, v1, .slice a len cap] w fun e w' => e = .returned (.bool true) ∧ Below w.heap.size w w' := by
  refine lawE ?_
  obtain ⟨s, xs, rfl, hsl, hsr, hin⟩ := do_in o0 h0
  obtain ⟨p, l, rfl, hp⟩ := frame_in o1 h1
  obtain ⟨b, hb⟩ := rowB h
  have hbn : len = b.length := hb.len
  have hl := hp.data
  have hln := hl.len
  refine flumelaw12_TunnelStranger.cl (p0 := s) (p1 := p) (p2 := ⟨a, len, cap⟩) ?_
  unfold flumelaw12_TunnelStranger
  refine nwI fun a1 w2 ha1 hs2 hf2 hb1 _ => ?_
  refine (short_ok hsl (hsr.below hf2)).mono ?_
  rintro sh w4 ⟨hsh, hf4⟩
  have hf4' := hf2.trans hf4
  cases sh with
  | false => exact bT rfl (awake_law hd hf4')
  | true =>
  refine bF rfl ?_
  have h120 := hsh rfl
  rw [addOff]
  refine ldL0 (s := p.2.2.2.2.2.2.1) (hf4.heap hb1) rfl ?_
  refine bD ?_ ?_ <;> intro hbig
  · exact awake_law hd hf4'
  refine bD ?_ ?_ <;> intro hbig2
  · exact awake_law hd hf4'
  have hbig2 : ¬((len : Int) > 32768) := hbig2
  refine (tNew_ok (G := fun _ => False) (hd.fr hf4') (fun _ h => h.elim) fun h => h).mono ?_
  rintro r1 w13 ⟨h1, hf13⟩
  rw [if_pos (by decide)] at h1
  obtain ⟨g, x0, rfl, hg, t0⟩ := h1
  have mine : Mine w4 w13 g (tn0 1000) := ⟨_, x0, t0, hf13, fun k hk => by omega⟩
  refine lpI (fun (s' : Int × Unit) v => ∃ (i : Nat) (t : Tn), i ≤ xs.length ∧ s'.1 = i ∧ Mine w4 v g t ∧ t.inv ∧ t.out.length ≤ 65 * i) (fun s' _ => (s.n - s'.1).toNat) ⟨0, tn0 1000, Nat.zero_le _, rfl, mine, inv_tn0 (by decide), by show 0 ≤ _; omega⟩ ?_
  rintro D ⟨i', ⟨⟩⟩ v ⟨i, t, hi, rfl, mine, inv, hout⟩
  dsimp -zeta only
  refine bD ?_ ?_ <;> intro hlt
  · have hi1 : i < xs.length := by omega
    have hfv := hf4'.trans mine.base
    refine ixE (f := doC) (sz := 11) (fun _ => rfl) (hsr.below hfv) hsl hi1 (by decide) fun ad hcell => ?_
    refine ldAt k_flumelaw12_Do xs[i].1 rfl hcell ?_
    have hx := hin xs[i] (List.getElem_mem hi1)
    refine nwI fun a20 w21 ha20 hs21 hf21 hb20 _ => ?_
    refine stW (Kd.av k_flumelaw12_Do xs[i].1) rfl hb20 rfl fun w22 hb22 hg22 hs22 => ?_
    have hf22 : Fr v w22 := hf21.on (grown_below hg22 (show v.heap.size ≤ a20 by omega) hf21.size)
    refine ldI0 hb22 (show (doC xs[i]).toArray[0]? = some (.int .i64 xs[i].1.1) from rfl) ?_
    obtain ⟨o, ho, hoe⟩ := mod8 xs[i].1.1
    rw [hoe]
    have mine22 := mine.fr hf22
    have next : ∀ {u : World} {t' : Tn}, Mine w4 u g t' → t'.inv → t'.out.length ≤ t.out.length + 65 → (∃ (i2 : Nat) (t : Tn), i2 ≤ xs.length ∧ IntKind.i64.wrap ((i : Int) + 1) = i2 ∧ Mine w4 u g t ∧ t.inv ∧ t.out.length ≤ 65 * i2) ∧ (s.n - IntKind.i64.wrap ((i : Int) + 1)).toNat < (s.n - (i : Int)).toNat := by
      intro u t' m1 i1 o1
      rw [i64w (by omega) (by omega)]
      exact ⟨⟨i + 1, t', by omega, by omega, m1, i1, by omega⟩, by omega⟩
    intro j1
    have hj1 : ∀ y : Bool, j1 y w22 := by
      intro y
      unfold j1
      cases y with
      | true =>
        refine bT rfl ?_
        intro n
        have hfn := Fr.drewN w22 n
        generalize w22.drewN n = w41 at *
        have mine41 := mine22.fr hfn
        refine ldW (k := k_flumelaw12_Do) (x := xs[i].1) (hfn.heap hb22) rfl ?_
        refine mine41.act fun F x tu st => ?_
        refine (tMe_ok tu inv.me.1).mono ?_
        rintro _ _ ⟨rfl, rfl⟩
        refine ⟨Fr.refl _, ?_⟩
        refine (tYou_ok tu inv.me.1).mono ?_
        rintro _ _ ⟨rfl, rfl⟩
        refine ⟨Fr.refl _, ?_⟩
        refine (frame_ok (e := xs[i]) (hx.f.data.fr ((hfv.trans hf22).trans hfn))).mono ?_
        rintro x47 w48 ⟨h47, hf48⟩
        refine (take_ok (tu.fr hf48) inv h47.bs (by have := putF_len (doF xs[i] t.me t.you); omega) (by omega)).mono ?_
        rintro ⟨r, e, ⟨⟩⟩ w50 ⟨_, h50⟩
        exact next (st _ _ (TunTo.step (Mv.of_fr hf48) (fun k hk => .inl hk) h50.to)) (inv.take _) (take_out inv _)
      | false =>
        refine bF rfl (bE ?_ ?_) <;> intro h5
        · refine mine22.act fun F x tu st => ?_
          refine (tick_ok tu inv.me.1 (by have := inv.room; omega) (by omega)).mono ?_
          rintro _ w52 h52
          exact next (st _ _ h52) inv.tick (tick_out inv)
        · rw [addOff]
          refine ldL0 (s := xs[i].1.2.2.1) hb22 rfl ?_
          refine mine22.act fun F x tu st => ?_
          refine (send_ok tu inv.me.1 (hx.b.fr (hfv.trans hf22)) inv.room (by omega)).mono ?_
          rintro _ w55 ⟨_, h55⟩
          exact next (st _ _ h55) (inv.send _) (send_out inv _)
    clear_value j1
    refine bE ?_ ?_ <;> intro _
    · exact hj1 _
    · refine bE ?_ ?_ <;> intro _
      · exact hj1 _
      · exact hj1 _
  · refine mine.out inv.me.1 fun x56 w57 _ mine57 => ?_
    have hf457 := mine57.base
    have hb157 := (hf4.trans hf457).heap hb1
    refine ldW (k := k_api_Frame) (x := p) hb157 rfl ?_
    have hf57 := hf4'.trans hf457
    refine (rtPut_ok (p := p) (b := l) (hl.fr hf57)).mono ?_
    rintro ⟨x59, e59, ⟨⟩⟩ w60 ⟨h59, _, hf60⟩
    dsimp -zeta only at h59 ⊢
    refine nwI fun a61 w62 ha61 hs62 hf62 hb61 hr61 => ?_
    have hf62' := hf60.trans hf62
    obtain ⟨F57, x57, t57, fb57, b57⟩ := mine57
    have hz57 := hf62'.size
    let G' : Nat → Prop := fun k => w57.heap.size ≤ k ∧ k < w62.heap.size
    have t62 : Tun w62 G' F57 g t.clear x57 := t57.other (E := fun _ => False) (Mv.of_fr hf62') (fun _ h => h.elim) (fun k hk => .inr hk.1) fun k hk => hk.2
    have h59' := h59.fr hf62
    refine lpI (fun (s' : Int × Unit) v => ∃ (i : Nat) (t : Tn) (F : Nat → Prop) (x : Shp), i ≤ 2 ∧ s'.1 = i ∧ Tun v G' F g t x ∧ Fr w4 v ∧ w62.heap.size ≤ v.heap.size ∧ (∀ k, F k → w4.heap.size ≤ k) ∧ (∀ k, G' k → v.heap[k]? = w62.heap[k]?) ∧ t.inv ∧ t.out = []) (fun s' _ => (2 - s'.1).toNat)
      ⟨0, t.clear, F57, x57, by omega, rfl, t62, fb57.trans hf62', Nat.le_refl _, b57, fun _ _ => rfl, inv.clear, rfl⟩ ?_
    clear t62 t57 fb57 b57
    rintro D ⟨i', ⟨⟩⟩ v ⟨i, t, F, x, hi, rfl, tv, f4v, hzv, hFb, hG, inv, hout⟩
    dsimp -zeta only
    have hfv := hf4'.trans f4v
    have h59l : ∀ ad, x59.a = some ad → w57.heap.size ≤ ad.block ∧ ad.block < w60.heap.size := h59.own
    have hz60 := hf62.size
    refine bD ?_ ?_ <;> intro hlt
    · have hb61' : v.heap[a61]? = some (.cells #[.slice x59.a x59.n x59.c, .slice a len cap] t_s_uint8 (0, 0)) := (hG a61 ⟨by have := hf60.size; omega, by omega⟩).trans hb61
      obtain ⟨sl, d, hsl', hbd, hdl⟩ : ∃ (sl : Sl) (d : List UInt8), (#[.slice x59.a x59.n x59.c, .slice a len cap] : Array Value)[i]? = some (slV sl) ∧ Bs v sl d ∧ d.length ≤ 40000 := by
        obtain rfl | rfl : i = 0 ∨ i = 1 := by omega
        · refine ⟨x59, _, rfl, (h59'.kp (S := G') (fun k _ hk => hG k hk) fun ad ha => ?_).bs, by have := putF_len (fmOf p l); omega⟩
          have := h59l ad ha
          exact ⟨this.1, by omega⟩
        · exact ⟨⟨a, len, cap⟩, b, rfl, hb.fr hfv, by omega⟩
      refine ix1 (by omega) (ldL0 (s := sl) hb61' hsl' ?_)
      refine (tGet_ok (hd.fr hfv) hbd (by omega)).mono ?_
      rintro ⟨q, e, ⟨⟩⟩ w70 ⟨hm, hf70⟩
      obtain ⟨q1, _, q3⟩ := hm.eq
      refine nwI fun a71 w72 ha71 hs72 hf72 hb71 _ => ?_
      refine stW (Kd.av k_api_Frame q) rfl hb71 rfl fun w73 hb73 hg73 hs73 => ?_
      have hf7073 : Fr w70 w73 := hf72.on (grown_below hg73 (show w70.heap.size ≤ a71 by omega) hf72.size)
      have hf73 := hf70.trans hf7073
      have next : ∀ {u : World} {t' : Tn} {F' : Nat → Prop} {x' : Shp}, Tun u G' F' g t' x' → Mv F v u → (∀ k, F' k → F k ∨ v.heap.size ≤ k) → t'.inv → t'.out = [] →
          (∃ (i2 : Nat) (t : Tn) (F : Nat → Prop) (x : Shp), i2 ≤ 2 ∧ IntKind.i64.wrap ((i : Int) + 1) = i2 ∧ Tun u G' F g t x ∧ Fr w4 u ∧ w62.heap.size ≤ u.heap.size ∧ (∀ k, F k → w4.heap.size ≤ k) ∧ (∀ k, G' k → u.heap[k]? = w62.heap[k]?) ∧ t.inv ∧ t.out = []) ∧ (2 - IntKind.i64.wrap ((i : Int) + 1)).toNat < (2 - (i : Int)).toNat := by
        intro u t' F' x' h1 m1 f1 i1 o1
        rw [i64w (by omega) (by omega)]
        have hzu := m1.size
        have h4v := f4v.size
        refine ⟨⟨i + 1, t', F', x', by omega, by omega, h1, m1.on f4v hFb, by omega, fun k hk => ?_, fun k hk => ?_, i1, o1⟩, by omega⟩
        · rcases f1 k hk with h | h
          · exact hFb k h
          · omega
        · rw [← hG k hk]
          exact m1.block k (by have := hk.2; omega) (tv.gf k hk)
      intro j2
      have hj2 : ∀ u, Fr w73 u → (∀ f, getF d = some f → f.yo ≠ t.me) → j2 u := by
        intro u hfu hstr
        unfold j2
        obtain ⟨st1, st2, st3, st4, st5, st6, st7⟩ := take_stranger t d hstr
        have tu := tv.fr (hf73.trans hfu)
        refine (tMe_ok tu inv.me.1).mono ?_
        rintro _ _ ⟨rfl, rfl⟩
        refine (tYou_ok tu inv.me.1).mono ?_
        rintro _ _ ⟨rfl, rfl⟩
        refine (tUp_ok tu inv.me.1).mono ?_
        rintro _ _ ⟨rfl, rfl⟩
        refine (tEpoch_ok tu inv.me.1).mono ?_
        rintro _ _ ⟨rfl, rfl⟩
        refine (tWaiting_ok tu inv.me.1).mono ?_
        rintro _ w112 ⟨rfl, hf112⟩
        have hfuw := (hf73.trans hfu).trans hf112
        refine (take_ok (tu.fr hf112) inv (hbd.fr hfuw) (by omega) (by rw [hout]; simp)).mono ?_
        rintro ⟨r, e2, ⟨⟩⟩ w114 ⟨he2, h114⟩
        dsimp only at he2 h114 ⊢
        have hrn := h114.len
        rw [st1] at hrn he2
        obtain ⟨F2, x2, t2, m2, f2⟩ := h114.to
        have i2 := inv.take d
        generalize (t.take d).1 = t' at *
        have hrn : r.n = 0 := hrn
        refine bF (by rw [hrn]; rfl) (bF (by rw [he2, q3]; simp) ?_)
        refine (tMe_ok t2 i2.me.1).mono ?_
        rintro _ _ ⟨rfl, rfl⟩
        refine bF (by rw [st2]; simp) ?_
        refine (tYou_ok t2 i2.me.1).mono ?_
        rintro _ _ ⟨rfl, rfl⟩
        refine bF (by rw [st3]; simp) ?_
        refine (tUp_ok t2 i2.me.1).mono ?_
        rintro _ _ ⟨rfl, rfl⟩
        refine bF (by rw [st4]; simp) ?_
        refine (tEpoch_ok t2 i2.me.1).mono ?_
        rintro _ _ ⟨rfl, rfl⟩
        refine bF (by rw [st5]; simp) ?_
        refine (tWaiting_ok t2 i2.me.1).mono ?_
        rintro _ w124 ⟨rfl, hf124⟩
        refine bF (by rw [st6]; simp) ?_
        refine (tOut_ok (t2.fr hf124) i2.me.1).mono ?_
        rintro r2 w126 ⟨F3, x3, hs3, t3, m3, f3, ho3, ha3, _⟩
        have hr2 : r2.n = t'.out.length := by rw [ho3.len, ha3.length]
        rw [hout] at st7
        have st7 : t'.out.length ≤ 1 := st7
        refine bF (by simp; omega) ?_
        have f2' : ∀ k, F2 k → F k ∨ v.heap.size ≤ k := fun k hk => by
          rcases f2 k hk with h | h
          · exact .inl h
          · have := hfuw.size; right; omega
        refine next t3 ((((Mv.of_fr (F := F) hfuw).trans m2 fun k hk => .inl hk).trans (Mv.of_fr (F := F2) hf124) f2').trans m3 f2') (fun k hk => f2' k (f3 k hk)) i2.clear rfl
      clear_value j2
      refine bE ?_ ?_ <;> intro he
      · obtain ⟨f, hgf⟩ : ∃ f, getF d = some f := by
          have h1 := getE_zero.1 (q3.symm.trans he)
          cases hg : getF d with
          | none => rw [hg] at h1; cases h1
          | some f => exact ⟨f, rfl⟩
        rw [hgf] at q1
        have eyo : q.2.2.1 = f.yo := congrArg Fm.yo q1
        rw [addOff]
        refine ldI0 hb73 (show (frC q).toArray[2]? = some (.int .i64 q.2.2.1) from rfl) ?_
        have t73 := tv.fr hf73
        refine ⟨t.me, fun n => (tMe_ok (t73.fr (Fr.drewN w73 n)) inv.me.1).mono ?_, ?_⟩
        · rintro _ _ ⟨rfl, rfl⟩
          exact ⟨rfl, n, rfl⟩
        intro n
        refine bE ?_ ?_ <;> intro hy
        · exact next (tv.fr (hf73.trans (Fr.drewN w73 n))) (Mv.of_fr (hf73.trans (Fr.drewN w73 n))) (fun k hk => .inl hk) inv hout
        · refine hj2 _ (Fr.drewN w73 n) fun f' hf' => ?_
          rw [hgf] at hf'
          cases hf'
          rw [← eyo]; exact hy
      · intro n
        refine hj2 _ (Fr.drewN w73 n) fun f' hf' => ?_
        exact absurd (q3.trans (getE_zero.2 (by rw [hf']; rfl))) he
    · exact awake_law hd hfv
end Go.Proofs.YtmhibpcbdbhfoaaDoor
namespace Go.Proofs.YtmhibpcbdbhfoaaDoor
open Go.RowKit Go.Fl

structure RShp where
  way : Sl
  queue : Sl
  early : Sl
  said : Sl
abbrev refC (t : Tn) (y : RShp) : y_flumeref12_Tunnel := (t.me, t.you, t.epoch, t.ticks, t.up, t.sil, t.next, t.expect, y.way, y.queue, y.early, y.said, ())
abbrev refL (t : Tn) (y : RShp) : List Value := (Kd.av k_flumeref12_Tunnel (refC t y)).cells
abbrev EarH := List (Int × Sl)
def earV (hs : EarH) : List Value := hs.flatMap fun a => [.int .i64 a.1, slV a.2]
theorem earV_length (hs : EarH) : (earV hs).length = hs.length * 2 := by
  induction hs with
  | nil => rfl
  | cons a l ih => unfold earV at *; rw [List.flatMap_cons, List.length_append, ih]; simp; omega
theorem earV_one (hs : EarH) : ∀ v ∈ earV hs, v.oneCell' = true := by
  intro v hv
  obtain ⟨a, _, hv⟩ := List.mem_flatMap.1 hv
  simp only [List.mem_cons, List.not_mem_nil, or_false] at hv
  rcases hv with rfl | rfl <;> rfl
theorem earV_append (a b : EarH) : earV (a ++ b) = earV a ++ earV b := by unfold earV; rw [List.flatMap_append]
/-- A row of early messages. -/
structure EarR (w : World) (Z : Nat → Prop) (s : Sl) (hs : EarH) (ls : List (Int × List UInt8)) : Prop where
  rd : Rd w s.a (earV hs)
  len : s.n = hs.length
  cold : hs ≠ [] → ∀ ad, s.a = some ad → ¬Z ad.block
  all : All2 (fun a b => a.1 = b.1 ∧ Cb w Z a.2 b.2) hs ls
theorem earV_ne {hs : EarH} (h : earV hs ≠ []) : hs ≠ [] := fun e => h (by rw [e]; rfl)
theorem earV_ne' {hs : EarH} (h : hs ≠ []) : earV hs ≠ [] := fun e => h (by
  have := congrArg List.length e
  rw [earV_length, List.length_nil] at this
  exact List.eq_nil_of_length_eq_zero (by omega))
theorem EarR.mv {F Z Z' : Nat → Prop} {w w' : World} {s : Sl} {hs : EarH} {ls : List (Int × List UInt8)} (h : EarR w Z s hs ls) (hm : Mv F w w') (hF : ∀ k, F k → Z k ∨ w.heap.size ≤ k) (hZ : ∀ k, Z' k → Z k ∨ w.heap.size ≤ k) : EarR w' Z' s hs ls := by
  have hlt : hs ≠ [] → ∀ ad, s.a = some ad → ad.block < w.heap.size := fun hl => h.rd.lt (earV_ne' hl)
  refine ⟨h.rd.mv hm fun hx ad ha hf => ?_, h.len, fun hl ad ha hz => ?_, h.all.mono fun a b _ _ hr => ⟨hr.1, hr.2.mv hm hF hZ⟩⟩
  · rcases hF _ hf with h1 | h1
    · exact h.cold (earV_ne hx) ad ha h1
    · have := hlt (earV_ne hx) ad ha; omega
  · rcases hZ _ hz with h1 | h1
    · exact h.cold hl ad ha h1
    · have := hlt hl ad ha; omega
/-- The first message of a number. -/
def lookE : List (Int × List UInt8) → Int → Option (List UInt8)
  | [], _ => none
  | x :: l, n => if x.1 = n then some x.2 else lookE l n
/-- The reference's tunnel; Z: what may turn. -/
structure Rf (w : World) (Z : Nat → Prop) (g : Nat) (t : Tn) (y : RShp) (m : Nat) : Prop where
  cells : w.heap[g]? = some (.cells (refL t y).toArray t_flumeref12_Tunnel (0, 0))
  zg : Z g
  zl : ∀ k, Z k → k < w.heap.size
  way : ∃ hs, WayR w Z y.way hs t.way
  queue : ∃ hs, RwB w Z y.queue hs t.queue
  said : ∃ hs, RwB w Z y.said hs t.out
  early : ∃ hs ls, EarR w Z y.early hs ls ∧ ls.length ≤ m ∧ ∀ n, t.expect < n → t.early n = lookE ls n
section
variable {w w' : World} {Z Z' : Nat → Prop} {g m : Nat} {t : Tn} {y : RShp}
/-- Behind something that did not touch it. -/
theorem Rf.other (h : Rf w Z g t y m) {E : Nat → Prop} (hm : Mv E w w') (hE : ∀ k, E k → (Z k ∧ k ≠ g) ∨ w.heap.size ≤ k) (hZ : ∀ k, Z' k → Z k ∨ w.heap.size ≤ k) (hg : Z' g) (hl : ∀ k, Z' k → k < w'.heap.size) : Rf w' Z' g t y m := by
  have hEZ : ∀ k, E k → Z k ∨ w.heap.size ≤ k := fun k hk => (hE k hk).imp (fun h => h.1) id
  obtain ⟨h1, w1⟩ := h.way
  obtain ⟨h2, w2⟩ := h.queue
  obtain ⟨h3, w3⟩ := h.said
  obtain ⟨h4, ls, w4, w5, w6⟩ := h.early
  refine ⟨hm.heap h.cells fun he => ?_, hg, hl, ⟨h1, w1.mv hm hEZ hZ⟩, ⟨h2, w2.mv hm hEZ hZ⟩, ⟨h3, w3.mv hm hEZ hZ⟩, ⟨h4, ls, w4.mv hm hEZ hZ, w5, w6⟩⟩
  rcases hE g he with h1 | h1
  · exact h1.2 rfl
  · have := h.zl g h.zg; omega
theorem Rf.fr (h : Rf w Z g t y m) (hf : Fr w w') : Rf w' Z g t y m :=
  h.other (E := fun _ => False) (Mv.of_fr hf) (fun _ h => h.elim) (fun _ h => .inl h) h.zg fun k hk => Nat.lt_of_lt_of_le (h.zl k hk) hf.size
theorem Rf.mono (h : Rf w Z g t y m) {m' : Nat} (hm : m ≤ m') : Rf w Z g t y m' := by
  obtain ⟨h4, ls, w4, w5, w6⟩ := h.early
  exact ⟨h.cells, h.zg, h.zl, h.way, h.queue, h.said, ⟨h4, ls, w4, Nat.le_trans w5 hm, w6⟩⟩
/-- Its own cells were written. -/
theorem Rf.own (h : Rf w Z g t y m) (hm : Mv (fun k => k = g) w w') {t' : Tn} {y' : RShp} {m' : Nat} (hc : w'.heap[g]? = some (.cells (refL t' y').toArray t_flumeref12_Tunnel (0, 0)))
    (hway : ∃ hs, WayR w' Z y'.way hs t'.way) (hqueue : ∃ hs, RwB w' Z y'.queue hs t'.queue) (hsaid : ∃ hs, RwB w' Z y'.said hs t'.out) (hearly : ∃ hs ls, EarR w' Z y'.early hs ls ∧ ls.length ≤ m' ∧ ∀ n, t'.expect < n → t'.early n = lookE ls n) : Rf w' Z g t' y' m' :=
  ⟨hc, h.zg, fun k hk => Nat.lt_of_lt_of_le (h.zl k hk) hm.size, hway, hqueue, hsaid, hearly⟩
theorem Rf.wayK (h : Rf w Z g t y m) (hm : Mv (fun k => k = g) w w') : ∃ hs, WayR w' Z y.way hs t.way := by
  obtain ⟨hs, h1⟩ := h.way
  exact ⟨hs, h1.mv hm (fun k hk => .inl (by rw [hk]; exact h.zg)) fun k hk => .inl hk⟩
theorem Rf.queueK (h : Rf w Z g t y m) (hm : Mv (fun k => k = g) w w') : ∃ hs, RwB w' Z y.queue hs t.queue := by
  obtain ⟨hs, h1⟩ := h.queue
  exact ⟨hs, h1.mv hm (fun k hk => .inl (by rw [hk]; exact h.zg)) fun k hk => .inl hk⟩
theorem Rf.saidK (h : Rf w Z g t y m) (hm : Mv (fun k => k = g) w w') : ∃ hs, RwB w' Z y.said hs t.out := by
  obtain ⟨hs, h1⟩ := h.said
  exact ⟨hs, h1.mv hm (fun k hk => .inl (by rw [hk]; exact h.zg)) fun k hk => .inl hk⟩
theorem Rf.earlyK (h : Rf w Z g t y m) (hm : Mv (fun k => k = g) w w') : ∃ hs ls, EarR w' Z y.early hs ls ∧ ls.length ≤ m ∧ ∀ n, t.expect < n → t.early n = lookE ls n := by
  obtain ⟨hs, ls, h1, h2, h3⟩ := h.early
  exact ⟨hs, ls, h1.mv hm (fun k hk => .inl (by rw [hk]; exact h.zg)) fun k hk => .inl hk, h2, h3⟩
/-- One of its plain cells was written. -/
theorem Rf.cell (h : Rf w Z g t y m) {t' : Tn} (hg : w.grownBy w' (some g)) (hc : w'.heap[g]? = some (.cells (refL t' y).toArray t_flumeref12_Tunnel (0, 0))) (h1 : t'.way = t.way) (h2 : t'.queue = t.queue) (h3 : t'.out = t.out) (h4 : ∀ n, t'.expect < n → t'.early n = t.early n) (h5 : t.expect ≤ t'.expect) : Rf w' Z g t' y m := by
  have hm : Mv (fun k => k = g) w w' := Mv.of_grown hg rfl
  refine h.own hm hc (by rw [h1]; exact h.wayK hm) (by rw [h2]; exact h.queueK hm) (by rw [h3]; exact h.saidK hm) ?_
  obtain ⟨hs, ls, a1, a2, a3⟩ := h.earlyK hm
  exact ⟨hs, ls, a1, a2, fun n hn => by rw [h4 n hn]; exact a3 n (by omega)⟩
/-- It went on. -/
def RfTo (w w' : World) (Z : Nat → Prop) (g : Nat) (t' : Tn) (m' : Nat) : Prop := ∃ y', Rf w' Z g t' y' m' ∧ Mv (fun k => k = g) w w'
theorem RfTo.refl (h : Rf w Z g t y m) : RfTo w w Z g t m := ⟨y, h, Mv.refl _ _⟩
theorem RfTo.step {w1 : World} {t' : Tn} {m' : Nat} (hm : Mv (fun k => k = g) w w1) (h : RfTo w1 w' Z g t' m') : RfTo w w' Z g t' m' := by
  obtain ⟨y', h1, h2⟩ := h
  exact ⟨y', h1, hm.trans h2 fun k hk => .inl hk⟩
theorem RfTo.fr {w2 : World} {t' : Tn} {m' : Nat} (h : RfTo w w' Z g t' m') (hf : Fr w' w2) : RfTo w w2 Z g t' m' := by
  obtain ⟨y', h1, h2⟩ := h
  exact ⟨y', h1.fr hf, h2.trans (Mv.of_fr (F := fun _ => False) hf) fun _ h => h.elim⟩
end
/-- One more behind a row's copy. -/
theorem snoc2 {P : Program} {tt ty e : TypeId} {size bytes : Nat} (hT : SlT P tt e size bytes) {w0 w : World} (hf : Fr w0 w) {r9 : Sl} {xs news : List Value} (ho : w.ownsRow w0.heap.size e size (.slice r9.a r9.n r9.c) r9.n xs) {a : Nat} (hn : Rd w (some ⟨a, 0, none⟩) news) (hnl : news.length = size) (h1 : ∀ u ∈ news, u.oneCell' = true) (hb : (r9.n + 1) * bytes ≤ 140737488355328) (hl : r9.n ≤ 1073741824) {K : Sl → World → Prop}
    (hK : ∀ (r : Sl) w', r.n = r9.n + 1 → w'.ownsRow w0.heap.size e size (.slice r.a r.n r.c) r.n (xs ++ news) → Fr w0 w' → w.grownBy w' (Value.slice r9.a r9.n r9.c).ownBlock → K r w') : app P tt ty r9 ⟨some ⟨a, 0, none⟩, 1, 1⟩ w K := by
  refine app_own hT ho hn (by rw [hnl]; show size = 1 * size; omega) h1 (by exact hb) (by show r9.n + 1 ≤ _; omega) hf.size fun r w' hr ho' hg _ => hK r w' hr ho' ?_ hg
  cases hx : (Value.slice r9.a r9.n r9.c).ownBlock with
  | none => rw [hx] at hg; exact hf.trans ⟨hg.os, hg.tape, hg.output, hg.size, fun k hk => hg.block k hk (by simp)⟩
  | some o =>
    rw [hx] at hg
    exact hf.on (grown_below hg (World.ownsRow.lt ho o hx).1 hf.size)
theorem snoc3 {P : Program} {tt ty e : TypeId} {size bytes : Nat} (hT : SlT P tt e size bytes) {w0 : World} {x : Sl} {xs news : List Value} (hx : Rd w0 x.a xs) (hxl : xs.length = x.n * size) (hx1 : ∀ u ∈ xs, u.oneCell' = true) (hnl : news.length = size) (h1 : ∀ u ∈ news, u.oneCell' = true) (hb : (x.n + 1) * bytes ≤ 140737488355328) (hl : x.n ≤ 1073741824) {J : Sl → World → Prop}
    (hJ : ∀ (r : Sl) w', r.n = x.n + 1 → w'.ownsRow w0.heap.size e size (.slice r.a r.n r.c) r.n (xs ++ news) → Fr w0 w' → J r w') :
    (nw w0 [] e fun a105 w106 => Fr w0 w106 ∧ (app P tt ty ⟨some a105, 0, 0⟩ x w106 fun r107 w108 => Fr w106 w108 ∧ nw w108 news e fun a109 w110 => Fr w108 w110 ∧ app P tt ty r107 ⟨some a109, 1, 1⟩ w110 J) ∧ (nw w106 news e fun a115 w116 => Fr w106 w116 ∧ app P tt ty ⟨some a105, 0, 0⟩ x w116 fun r117 w118 => Fr w116 w118 ∧ app P tt ty r117 ⟨some a115, 1, 1⟩ w118 J)) ∧
    (nw w0 news e fun a123 w124 => Fr w0 w124 ∧ nw w124 [] e fun a125 w126 => Fr w124 w126 ∧ app P tt ty ⟨some a125, 0, 0⟩ x w126 fun r127 w128 => Fr w126 w128 ∧ app P tt ty r127 ⟨some a123, 1, 1⟩ w128 J) := by
  have hb0 : x.n * bytes ≤ 140737488355328 := Nat.le_trans (Nat.mul_le_mul_right _ (by omega)) hb
  refine ⟨?_, ?_⟩
  · refine nwI fun a w1 ha hs1 hf1 hb1 _ => ⟨hf1, ?_, ?_⟩
    · refine app0V hT (base := w0.heap.size) hb1 (by omega) (hx.below hf1) hxl hx1 hb0 (by omega) hf1.size fun r w2 hr ho hf2 => ⟨hf2, ?_⟩
      refine nwI fun a2 w3 ha2 hs3 hf3 hb3 hr3 => ⟨hf3, ?_⟩
      exact snoc2 hT ((hf1.trans hf2).trans hf3) (own_kept ho hf3) hr3 hnl h1 (by rw [hr]; exact hb) (by omega) fun r' w' hr' ho' hf' _ => hJ r' w' (by omega) ho' hf'
    · refine nwI fun a2 w2 ha2 hs2 hf2 hb2 hr2 => ⟨hf2, ?_⟩
      refine app0V hT (base := w0.heap.size) (hf2.heap hb1) (by omega) ((hx.below hf1).below hf2) hxl hx1 hb0 (by omega) (hf1.trans hf2).size fun r w3 hr ho hf3 => ⟨hf3, ?_⟩
      exact snoc2 hT ((hf1.trans hf2).trans hf3) ho (hr2.below hf3) hnl h1 (by rw [hr]; exact hb) (by omega) fun r' w' hr' ho' hf' _ => hJ r' w' (by omega) ho' hf'
  · refine nwI fun a2 w1 ha2 hs1 hf1 hb1 hr1 => ⟨hf1, ?_⟩
    refine nwI fun a w2 ha hs2 hf2 hb2 _ => ⟨hf2, ?_⟩
    have hz1 := hf1.size
    refine app0V hT (base := w0.heap.size) hb2 (by omega) ((hx.below hf1).below hf2) hxl hx1 hb0 (by omega) (hf1.trans hf2).size fun r w3 hr ho hf3 => ⟨hf3, ?_⟩
    exact snoc2 hT ((hf1.trans hf2).trans hf3) ho ((hr1.below hf2).below hf3) hnl h1 (by rw [hr]; exact hb) (by omega) fun r' w' hr' ho' hf' _ => hJ r' w' (by omega) ho' hf'
end Go.Proofs.YtmhibpcbdbhfoaaDoor
namespace Go.Proofs.YtmhibpcbdbhfoaaDoor
open Go.RowKit Go.Fl

section
variable {w w' : World} {Z : Nat → Prop} {g m : Nat} {t : Tn} {y : RShp}
theorem rNew_ok {me : Int} (hZ : ∀ k, Z k → k < w.heap.size) : cl Tryd.prog n_flumeref12_New #[.int .i64 me] (.tup (.pair .P (.pair (.I .i64) .nil))) w fun (r : Option Addr × Int × Unit) w' =>
    (if 1 ≤ me ∧ me ≤ 1099511627776 then ∃ g y, r = (some ⟨g, 0, none⟩, 0, ()) ∧ w.heap.size ≤ g ∧ Rf w' (fun k => Z k ∨ k = g) g (tn0 me) y 0 else r = (none, 1, ())) ∧ Fr w w' := by
  refine flumeref12_New.cl ?_
  unfold flumeref12_New
  refine near_ok.mono ?_
  rintro _ _ ⟨rfl, rfl⟩
  by_cases hm : 1 ≤ me ∧ me ≤ 1099511627776
  · rw [decide_eq_true hm]
    refine bF rfl ?_
    refine nwI fun a w2 ha hs hf hb _ => ?_
    dsimp only
    rw [if_pos hm]
    refine ⟨⟨a, ⟨⟨none, 0, 0⟩, ⟨none, 0, 0⟩, ⟨none, 0, 0⟩, ⟨none, 0, 0⟩⟩, rfl, by omega, ⟨hb, .inr rfl, fun k hk => ?_, ⟨[], WayR.nil _ _ _⟩, ⟨[], RwB.nil _ _ _⟩, ⟨[], RwB.nil _ _ _⟩, ⟨[], [], ⟨Rd.nil _ _, rfl, fun h => absurd rfl h, trivial⟩, Nat.le_refl _, fun _ _ => rfl⟩⟩⟩, hf⟩
    rcases hk with hk | hk
    · have := hZ k hk; omega
    · omega
  · rw [decide_eq_false hm]
    refine bT rfl ?_
    dsimp only
    rw [if_neg hm]
    exact ⟨rfl, Fr.refl _⟩
theorem rsay_ok {p : y_api_Frame} {b : List UInt8} (h : Rf w Z g t y m) (hb : Bs w p.2.2.2.2.2.2.1 b) (hl : t.out.length ≤ 1073741000) :
    cl Tryd.prog n_flumeref12_Tunnel_say #[.pointer (some ⟨g, 0, none⟩), frV p] (.tup .nil) w fun (_ : Unit) w' => RfTo w w' Z g (t.say (fmOf p b)) m := by
  refine flumeref12_Tunnel_say.cl (p0 := some ⟨g, 0, none⟩) (p1 := p) ?_
  unfold flumeref12_Tunnel_say
  obtain ⟨hs3, ho⟩ := h.said
  have hgl := h.zl g h.zg
  have hon := ho.len
  have hon2 := ho.all.length
  refine nwI fun a1 w2 ha1 hs2 hf2 hb1 _ => ?_
  refine nzS ?_
  refine ldI0 (hf2.heap h.cells) (show (refL t y).toArray[0]? = some (.int .i64 t.me) from rfl) ?_
  rw [addOff]
  refine st0 hb1 (by show 1 < 7; decide) fun w5 hb5 hg5 hs5 => ?_
  have hb5 : w5.heap[a1]? = some (.cells (frC (p.1, t.me, p.2.2)).toArray t_api_Frame (0, 0)) := hb5
  have hf5 : Fr w w5 := hf2.on (grown_below hg5 (by omega) hf2.size)
  refine ldW (k := k_api_Frame) (x := (p.1, t.me, p.2.2)) hb5 rfl ?_
  refine (rtPut_ok (p := (p.1, t.me, p.2.2)) (hb.fr hf5)).mono ?_
  rintro ⟨x7, e7, ⟨⟩⟩ w8 ⟨h7, _, hf8⟩
  dsimp only at h7 ⊢
  have hf8' := hf5.trans hf8
  refine nwI fun a9 w10 ha9 hs10 hf10 hb10 _ => ?_
  have hf10' := hf8'.trans hf10
  refine nzS ?_
  rw [addOff]
  refine ldL0 (s := y.said) (hf10'.heap h.cells) rfl ?_
  have hz5 := hf5.size
  have hz8 := hf8.size
  have hz10 := hf10.size
  refine app0V slS (base := w8.heap.size) hb10 (by omega) (ho.rd.below hf10') (by rw [List.length_map, hon]; omega) (slsV_one _) (by omega) (by omega) hf10.size fun r13 w14 hr13 ho13 hf14 => ?_
  refine nwI fun a15 w16 ha15 hs16 hf16 hb16 hr16 => ?_
  have hf16' := (hf10.trans hf14).trans hf16
  refine snoc2 slS hf16' (own_kept ho13 hf16) hr16 rfl (fun v hv => by rw [List.mem_singleton] at hv; rw [hv]; rfl) (by rw [hr13]; omega) (by omega) fun r17 w18 hr17 ho17 hf18 _ => ?_
  refine nzS ?_
  rw [addOff]
  have h8 := h.fr hf8'
  have h18 := h8.fr hf18
  refine st0 h18.cells (by show 11 < 12; decide) fun w20 hb20 hg20 hs20 => ?_
  have m20 : Mv (fun k => k = g) w18 w20 := Mv.of_grown hg20 rfl
  have m8 : Mv (fun k => k = g) w8 w20 := (Mv.of_fr hf18).trans m20 fun k hk => .inl hk
  have hcx : Cb w20 Z x7 (putF (fmOf (p.1, t.me, p.2.2) b)).1 := by
    have hc8 : Cb w8 Z x7 (putF (fmOf (p.1, t.me, p.2.2) b)).1 := Cb.own h7 fun k hk => Nat.lt_of_lt_of_le (h.zl k hk) hz5
    exact hc8.mv m8 (fun k hk => .inl (by rw [hk]; exact h.zg)) fun k hk => .inl hk
  have hown : OwS w18 w8.heap.size t_s_uint8 r17 (hs3 ++ [x7]) := by
    unfold OwS
    have e : slsV (hs3 ++ [x7]) = slsV hs3 ++ [slV x7] := by simp [slsV]
    rw [e]; exact ho17
  have hown20 : OwS w20 w8.heap.size t_s_uint8 r17 (hs3 ++ [x7]) := hown.mv m20 fun ad ha e => by have := (hown.own ad ha).1; omega
  have hall : All2 (Cb w20 Z) (hs3 ++ [x7]) (t.say (fmOf p b)).out := by
    have ho8 : All2 (Cb w8 Z) hs3 t.out := (ho.mv (Mv.of_fr (F := fun _ => False) hf8') (fun _ h => h.elim) fun k hk => .inl hk : RwB w8 Z y.said hs3 t.out).all
    exact All2.append (ho8.mono fun a c _ _ hc => hc.mv m8 (fun k hk => .inl (by rw [hk]; exact h.zg)) fun k hk => .inl hk) (show All2 _ [x7] [_] from ⟨hcx, trivial⟩)
  refine ⟨{ y with said := r17 }, h8.own (t' := t.say (fmOf p b)) (y' := { y with said := r17 }) m8 hb20 (h8.wayK m8) (h8.queueK m8) ⟨_, OwS.rw hown20 (fun k hk => h8.zl k hk) hall⟩ (h8.earlyK m8), (Mv.of_fr hf8').trans m8 fun k hk => .inl hk⟩
theorem rhello_ok {you : Int} (h : Rf w Z g t y m) (hl : t.out.length ≤ 1073741000) :
    cl Tryd.prog n_flumeref12_Tunnel_hello #[.pointer (some ⟨g, 0, none⟩), .int .i64 you] (.tup .nil) w fun (_ : Unit) w' => RfTo w w' Z g (t.say (hel you)) m := by
  refine flumeref12_Tunnel_hello.cl (p0 := some ⟨g, 0, none⟩) (p1 := you) ?_
  unfold flumeref12_Tunnel_hello
  refine nwI fun a1 w2 ha1 hs2 hf2 hb1 _ => ?_
  refine stW (Kd.av k_api_Frame (1, 0, 0, 0, 0, 0, ⟨none, 0, 0⟩, ())) rfl hb1 rfl fun w3 hb3 hg3 hs3 => ?_
  have hf3 : Fr w w3 := hf2.on (grown_below hg3 (by omega) hf2.size)
  rw [addOff]
  refine st0 hb3 (by show 2 < 7; decide) fun w4 hb4 hg4 hs4 => ?_
  have hb4 : w4.heap[a1]? = some (.cells (frC (1, 0, you, 0, 0, 0, ⟨none, 0, 0⟩, ())).toArray t_api_Frame (0, 0)) := hb4
  have hf4 : Fr w w4 := hf3.on (grown_below hg4 (by omega) hf3.size)
  refine ldW (k := k_api_Frame) (x := (1, 0, you, 0, 0, 0, ⟨none, 0, 0⟩, ())) hb4 rfl ?_
  refine (rsay_ok (p := (1, 0, you, 0, 0, 0, ⟨none, 0, 0⟩, ())) (b := []) (h.fr hf4) (Bs.nil _ _) hl).mono ?_
  rintro ⟨⟩ w7 h7
  exact RfTo.step (Mv.of_fr hf4) h7
theorem rHint_ok {n : Int} (h : Rf w Z g t y m) (hl : t.out.length ≤ 1073741000) :
    cl Tryd.prog n_flumeref12_Tunnel_Hint #[.pointer (some ⟨g, 0, none⟩), .int .i64 n] (.tup .nil) w fun (_ : Unit) w' => RfTo w w' Z g (t.hint n) m := by
  refine flumeref12_Tunnel_Hint.cl (p0 := some ⟨g, 0, none⟩) (p1 := n) ?_
  unfold flumeref12_Tunnel_Hint
  refine near_ok.mono ?_
  rintro _ _ ⟨rfl, rfl⟩
  unfold Tn.hint
  by_cases hn : 1 ≤ n ∧ n ≤ 1099511627776
  · rw [decide_eq_true hn, if_pos hn]
    refine bT rfl ((rhello_ok h hl).mono ?_)
    rintro ⟨⟩ w4 h4
    exact h4
  · rw [decide_eq_false hn, if_neg hn]
    exact bF rfl (RfTo.refl h)
theorem rWaiting_ok (h : Rf w Z g t y m) : cl Tryd.prog n_flumeref12_Tunnel_Waiting #[.pointer (some ⟨g, 0, none⟩)] (.I .i64) w fun (r : Int) w' => r = t.waiting ∧ Fr w w' := by
  refine flumeref12_Tunnel_Waiting.cl (p0 := some ⟨g, 0, none⟩) ?_
  unfold flumeref12_Tunnel_Waiting
  obtain ⟨hs1, h1⟩ := h.way
  obtain ⟨hs2, h2⟩ := h.queue
  have n1 := h1.count
  have n2 := h2.count
  refine nzS ?_
  rw [addOff]
  refine ldL0 (s := y.way) h.cells rfl (nzS ?_)
  rw [addOff]
  refine ldL0 (s := y.queue) h.cells rfl ?_
  intro dn
  refine ⟨?_, Fr.drewN w dn⟩
  unfold Tn.waiting
  rw [n1, n2, Int.add_comm]
theorem rRoom_ok (h : Rf w Z g t y m) (_hr : t.queue.length + t.way.length ≤ 64) : cl Tryd.prog n_flumeref12_Tunnel_Room #[.pointer (some ⟨g, 0, none⟩)] (.I .i64) w fun (r : Int) w' => r = t.room ∧ Fr w w' := by
  refine flumeref12_Tunnel_Room.cl (p0 := some ⟨g, 0, none⟩) ?_
  unfold flumeref12_Tunnel_Room
  refine nzS ?_
  rw [addOff]
  refine ldB0 h.cells (show (refL t y).toArray[4]? = some (.bool t.up) from rfl) ?_
  unfold Tn.room
  cases hu : t.up
  · exact bT rfl ⟨rfl, Fr.refl _⟩
  · refine bF rfl ((rWaiting_ok h).mono ?_)
    rintro _ w4 ⟨rfl, hf⟩
    refine ⟨?_, hf⟩
    unfold Tn.waiting
    rw [if_pos rfl, wr, wr, wr, IntKind.wrap_i64, IntKind.wrap_i64, IntKind.wrap_i64, IntKind.wrap_i64]
    omega
/-- No session. -/
def Tn.cleared (t : Tn) : Tn := { t with up := false, sil := 0, next := 0, expect := 0, way := [], queue := [], early := fun _ => none }
theorem rclear_ok (h : Rf w Z g t y m) : cl Tryd.prog n_flumeref12_Tunnel_clear #[.pointer (some ⟨g, 0, none⟩)] (.tup .nil) w fun (_ : Unit) w' => RfTo w w' Z g (Tn.cleared t) 0 := by
  refine flumeref12_Tunnel_clear.cl (p0 := some ⟨g, 0, none⟩) ?_
  unfold flumeref12_Tunnel_clear
  refine nzS ?_
  rw [addOff]
  refine st0 h.cells (by show 4 < 12; decide) fun w1 hb1 hg1 hs1 => nzS ?_
  have hb1 : w1.heap[g]? = some (.cells (refL { t with up := false } y).toArray t_flumeref12_Tunnel (0, 0)) := hb1
  rw [addOff]
  refine st0 hb1 (by show 5 < 12; decide) fun w2 hb2 hg2 hs2 => nzS ?_
  have hb2 : w2.heap[g]? = some (.cells (refL { t with up := false, sil := 0 } y).toArray t_flumeref12_Tunnel (0, 0)) := hb2
  rw [addOff]
  refine st0 hb2 (by show 6 < 12; decide) fun w3 hb3 hg3 hs3 => nzS ?_
  have hb3 : w3.heap[g]? = some (.cells (refL { t with up := false, sil := 0, next := 0 } y).toArray t_flumeref12_Tunnel (0, 0)) := hb3
  rw [addOff]
  refine st0 hb3 (by show 7 < 12; decide) fun w4 hb4 hg4 hs4 => nzS ?_
  have hb4 : w4.heap[g]? = some (.cells (refL { t with up := false, sil := 0, next := 0, expect := 0 } y).toArray t_flumeref12_Tunnel (0, 0)) := hb4
  rw [addOff]
  refine st0 hb4 (by show 8 < 12; decide) fun w5 hb5 hg5 hs5 => nzS ?_
  have hb5 : w5.heap[g]? = some (.cells (refL { t with up := false, sil := 0, next := 0, expect := 0 } { y with way := ⟨none, 0, 0⟩ }).toArray t_flumeref12_Tunnel (0, 0)) := hb5
  rw [addOff]
  refine st0 hb5 (by show 9 < 12; decide) fun w6 hb6 hg6 hs6 => nzS ?_
  have hb6 : w6.heap[g]? = some (.cells (refL { t with up := false, sil := 0, next := 0, expect := 0 } { y with way := ⟨none, 0, 0⟩, queue := ⟨none, 0, 0⟩ }).toArray t_flumeref12_Tunnel (0, 0)) := hb6
  rw [addOff]
  refine st0 hb6 (by show 10 < 12; decide) fun w7 hb7 hg7 hs7 => ?_
  have hb7 : w7.heap[g]? = some (.cells (refL (Tn.cleared t) ⟨⟨none, 0, 0⟩, ⟨none, 0, 0⟩, ⟨none, 0, 0⟩, y.said⟩).toArray t_flumeref12_Tunnel (0, 0)) := hb7
  have mg : ∀ {u v : World}, u.grownBy v (some g) → Mv (fun k => k = g) u v := fun h => Mv.of_grown h rfl
  have tr : ∀ {u v x : World}, Mv (fun k => k = g) u v → Mv (fun k => k = g) v x → Mv (fun k => k = g) u x := fun h k => h.trans k fun _ hk => .inl hk
  have m7 : Mv (fun k => k = g) w w7 := tr (tr (tr (tr (tr (tr (mg hg1) (mg hg2)) (mg hg3)) (mg hg4)) (mg hg5)) (mg hg6)) (mg hg7)
  refine ⟨⟨⟨none, 0, 0⟩, ⟨none, 0, 0⟩, ⟨none, 0, 0⟩, y.said⟩, ?_, m7⟩
  exact h.own (t' := Tn.cleared t) (y' := ⟨⟨none, 0, 0⟩, ⟨none, 0, 0⟩, ⟨none, 0, 0⟩, y.said⟩) m7 hb7 ⟨[], WayR.nil _ _ _⟩ ⟨[], RwB.nil _ _ _⟩ (h.saidK m7) ⟨[], [], ⟨Rd.nil _ _, rfl, fun h => absurd rfl h, trivial⟩, Nat.le_refl _, fun _ _ => rfl⟩
theorem rOut_ok (h : Rf w Z g t y m) : cl Tryd.prog n_flumeref12_Tunnel_Out #[.pointer (some ⟨g, 0, none⟩)] .L w fun (r : Sl) w' => RfTo w w' Z g t.clear m ∧ ∃ hs, RwB w' Z r hs t.out := by
  refine flumeref12_Tunnel_Out.cl (p0 := some ⟨g, 0, none⟩) ?_
  unfold flumeref12_Tunnel_Out
  refine nzS ?_
  rw [addOff]
  refine ldL0 (s := y.said) h.cells rfl (nzS ?_)
  rw [addOff]
  refine st0 h.cells (by show 11 < 12; decide) fun w4 hb4 hg4 hs4 => ?_
  have m4 : Mv (fun k => k = g) w w4 := Mv.of_grown hg4 rfl
  exact ⟨⟨{ y with said := ⟨none, 0, 0⟩ }, h.own (t' := t.clear) (y' := { y with said := ⟨none, 0, 0⟩ }) m4 hb4 (h.wayK m4) (h.queueK m4) ⟨[], RwB.nil _ _ _⟩ (h.earlyK m4), m4⟩, h.saidK m4⟩
theorem earV_get {hs : EarH} {j : Nat} (h : j < hs.length) : (earV hs)[j * 2]? = some (.int .i64 hs[j].1) ∧ (earV hs)[j * 2 + 1]? = some (slV hs[j].2) := by
  induction hs generalizing j with
  | nil => simp at h
  | cons a l ih =>
    have e : earV (a :: l) = .int .i64 a.1 :: slV a.2 :: earV l := rfl
    cases j with
    | zero => rw [e]; exact ⟨rfl, rfl⟩
    | succ j =>
      have := ih (j := j) (by simpa using h)
      rw [e, show (j + 1) * 2 = j * 2 + 1 + 1 from by omega]
      simpa using this
theorem ixE2 {w : World} {s : Sl} {hs : EarH} {j : Nat} {K : y_flumeref12_Early → Prop} (hr : Rd w s.a (earV hs)) (hl : s.n = hs.length) (hj : j < hs.length) (h : K (hs[j].1, hs[j].2, ())) : ixa s.a s.n (j : Int) 2 fun a => ld k_flumeref12_Early w a K := by
  obtain ⟨g1, g2⟩ := earV_get hj
  obtain ⟨ad, ha, hc⟩ := hr _ _ g1
  obtain ⟨ad2, ha2, hc2⟩ := hr _ _ g2
  rw [ha] at ha2; cases ha2
  refine ⟨by omega, by omega, ?_⟩
  rw [ha]
  show ld k_flumeref12_Early w (atOff ad (j : Int) 2) K
  rw [atOff_eq, Int.toNat_natCast]
  refine ldAt k_flumeref12_Early (hs[j].1, hs[j].2, ()) rfl (fun i v hv => ?_) h
  rw [add_add]
  match i, hv with
  | 0, hv => cases hv; exact hc
  | 1, hv => cases hv; exact hc2
theorem lookE_drop : ∀ (ls : List (Int × List UInt8)) (n : Int) (j : Nat) (h : j < ls.length), lookE (ls.drop j) n = if ls[j].1 = n then some ls[j].2 else lookE (ls.drop (j + 1)) n := by
  intro ls n j h
  rw [List.drop_eq_getElem_cons h]; rfl
theorem rearly_ok {n : Int} (h : Rf w Z g t y m) (hm : m ≤ 1073741824) (hn : t.expect < n) : cl Tryd.prog n_flumeref12_Tunnel_early #[.pointer (some ⟨g, 0, none⟩), .int .i64 n] (.tup (.pair .L (.pair .B .nil))) w fun (r : Sl × Bool × Unit) w' =>
    (match t.early n with | none => r = (⟨none, 0, 0⟩, false, ()) | some b => r.2 = (true, ()) ∧ Cb w' Z r.1 b) ∧ Fr w w' := by
  refine flumeref12_Tunnel_early.cl (p0 := some ⟨g, 0, none⟩) (p1 := n) ?_
  unfold flumeref12_Tunnel_early
  obtain ⟨hs, ls, h1, h2, h3⟩ := h.early
  have hal := h1.all.length
  have hl := h1.len
  rw [h3 n hn]
  refine nzS ?_
  rw [addOff]
  refine ldL0 (s := y.early) h.cells rfl ?_
  refine lpI (fun (s' : Int × Unit) v => Fr w v ∧ ∃ j : Nat, j ≤ hs.length ∧ s'.1 = j ∧ lookE (ls.drop j) n = lookE ls n) (fun s' _ => (y.early.n - s'.1).toNat) ⟨Fr.refl _, 0, Nat.zero_le _, rfl, rfl⟩ ?_
  rintro D ⟨j', ⟨⟩⟩ v ⟨hfv, j, hj, rfl, hlk⟩
  dsimp only
  refine bD ?_ ?_ <;> intro hlt
  · have hj1 : j < hs.length := by omega
    have hj2 : j < ls.length := by omega
    refine ixE2 (h1.rd.below hfv) hl hj1 ?_
    refine nwI fun a9 w10 ha9 hs10 hf10 hb10 _ => ?_
    refine stW (Kd.av k_flumeref12_Early (hs[j].1, hs[j].2, ())) rfl hb10 rfl fun w11 hb11 hg11 hs11 => ?_
    have hf11 : Fr v w11 := hf10.on (grown_below hg11 (by omega) hf10.size)
    refine ldI0 hb11 (show ((Kd.av k_flumeref12_Early (hs[j].1, hs[j].2, ())).cells).toArray[0]? = some (.int .i64 hs[j].1) from rfl) ?_
    obtain ⟨e1, e2⟩ := h1.all.get hj1 hj2
    rw [lookE_drop ls n j hj2, ← e1] at hlk
    refine bE ?_ ?_ <;> intro he
    · rw [if_pos he] at hlk
      rw [addOff]
      refine ldL0 (s := hs[j].2) hb11 rfl ?_
      rw [← hlk]
      exact ⟨⟨rfl, e2.mv (Mv.of_fr (F := fun _ => False) (hfv.trans hf11)) (fun _ h => h.elim) fun k hk => .inl hk⟩, hfv.trans hf11⟩
    · rw [if_neg he] at hlk
      rw [i64w (n := (j : Int) + 1) (by omega) (by omega)]
      exact ⟨⟨hfv.trans hf11, j + 1, by omega, rfl, hlk⟩, by omega⟩
  · obtain rfl : j = hs.length := by omega
    rw [hal, List.drop_length] at hlk
    rw [← hlk]
    exact ⟨rfl, hfv⟩
end
end Go.Proofs.YtmhibpcbdbhfoaaDoor
namespace Go.Fl

abbrev Key3 : Type := Int × Int × Int
abbrev Rows8 : Type := List (List UInt8)
def updK (f : Key3 → Rows8) (k : Key3) (l : Rows8) : Key3 → Rows8 := fun j => if j = k then l else f j
def setB {α : Type} (f : Bool → α) (s : Bool) (v : α) : Bool → α := fun x => if x = s then v else f x
def sideI (s : Bool) : Int := if s then 1 else 0
/-- Two tunnels, the bag to each, what was sent and told within each session. -/
structure Pr where
  t : Bool → Tn
  bag : Bool → Rows8
  sent : Key3 → Rows8
  told : Key3 → Rows8
def pr0 : Pr := ⟨fun s => if s then tn0 5000 else tn0 1000, fun _ => [], fun _ => [], fun _ => []⟩
def pour (bag l : Rows8) : Rows8 := bag ++ l.take (200 - bag.length)
def Pr.outs (p : Pr) : Pr := { p with t := fun s => (p.t s).clear, bag := fun s => pour (p.bag s) (p.t (!s)).out }
def Pr.sends (p : Pr) (s : Bool) (b : List UInt8) : Pr :=
  if ((p.t s).send b).2 = 0 then { p with t := setB p.t s ((p.t s).send b).1, sent := updK p.sent (((p.t s).send b).1.me, ((p.t s).send b).1.you, sideI (!s)) (p.sent (((p.t s).send b).1.me, ((p.t s).send b).1.you, sideI (!s)) ++ [b]) }
  else { p with t := setB p.t s ((p.t s).send b).1 }
/-- A datagram comes. -/
def Pr.comes (p : Pr) (r : Bool) (d : List UInt8) (bag : Bool → Rows8) : Pr × Bool :=
  let x := (p.t r).take d
  let k : Key3 := (x.1.you, x.1.me, sideI r)
  let l := p.told k ++ x.2.1
  ({ t := setB p.t r x.1, bag := bag, sent := p.sent, told := updK p.told k l }, decide (x.2.2 = 0) && (decide (l.length ≤ (p.sent k).length) && decide (l = (p.sent k).take l.length)))
structure PAct where
  op : Nat
  side : Bool
  u : Nat
  b : List UInt8
  stay : Bool
def Pr.act (p : Pr) (a : PAct) : Pr × Bool :=
  if a.op = 3 then (p.sends a.side a.b, true)
  else if a.op = 4 ∨ a.op = 5 then ({ p with t := setB p.t a.side (p.t a.side).tick }, true)
  else if a.op = 7 then ({ p with t := setB p.t a.side (tn0 (wr ((p.t a.side).me + 100))) }, true)
  else if a.op = 8 then ({ p with t := setB p.t a.side ((p.t a.side).hint (p.t (!a.side)).me) }, true)
  else if (p.bag a.side).length = 0 then (p, true)
  else if a.op = 6 then ({ p with bag := setB p.bag a.side ((p.bag a.side).eraseIdx (a.u % (p.bag a.side).length)) }, true)
  else p.comes a.side ((p.bag a.side).getD (a.u % (p.bag a.side).length) []) (if a.stay then p.bag else setB p.bag a.side ((p.bag a.side).eraseIdx (a.u % (p.bag a.side).length)))
def Pr.does (p : Pr) (a : PAct) : Pr × Bool := ((p.act a).1.outs, (p.act a).2)

/-! ### What holds -/
/-- A datagram to r: a frame; a message is the one that was sent under its number. -/
def Good (S : Key3 → Rows8) (r : Bool) (d : List UInt8) : Prop := ∃ f, getF d = some f ∧ (f.k = 2 → 1 ≤ f.sq ∧ (S (f.fr, f.yo, sideI r))[(f.sq - 1).toNat]? = some f.bd)
structure Snd (t : Tn) (S : Rows8) : Prop where
  next : 0 ≤ t.next ∧ t.next + t.queue.length = S.length
  queue : t.queue = S.drop t.next.toNat
  way : ∀ x ∈ t.way, 1 ≤ x.1 ∧ x.1 ≤ t.next ∧ S[(x.1 - 1).toNat]? = some x.2.1
structure Rcv (t : Tn) (S T : Rows8) : Prop where
  told : T = S.take t.expect.toNat
  le : t.expect ≤ S.length
  early : ∀ j b, t.early j = some b → S[(j - 1).toNat]? = some b
/-- What holds of the tunnel at side s. -/
structure TI (s : Bool) (t : Tn) (S T : Key3 → Rows8) : Prop where
  inv : t.inv
  idle : t.up = false → t.queue = [] ∧ t.way = []
  snd : t.up = true → Snd t (S (t.me, t.you, sideI (!s)))
  rcv : t.up = true → Rcv t (S (t.you, t.me, sideI s)) (T (t.you, t.me, sideI s))
  fs : ∀ a b, S (a, b, sideI (!s)) ≠ [] → a ≤ t.me ∧ (a = t.me → b ≤ t.you ∧ (b = t.you → t.up = true))
  fr : ∀ a b, T (a, b, sideI s) ≠ [] → b ≤ t.me ∧ (b = t.me → a ≤ t.you ∧ (a = t.you → t.up = true))
  out : ∀ d ∈ t.out, Good S (!s) d
theorem prefix_get {l m : Rows8} (h : l <+: m) {i : Nat} {b : List UInt8} (hi : l[i]? = some b) : m[i]? = some b := by
  obtain ⟨x, rfl⟩ := h
  rw [List.getElem?_append_left (List.getElem?_eq_some_iff.1 hi).1]; exact hi
theorem Good.mono {S S' : Key3 → Rows8} {r : Bool} {d : List UInt8} (h : Good S r d) (hS : ∀ k, S k <+: S' k) : Good S' r d := by
  obtain ⟨f, h1, h2⟩ := h
  exact ⟨f, h1, fun hk => ⟨(h2 hk).1, prefix_get (hS _) (h2 hk).2⟩⟩
theorem take_prefix {l m : Rows8} (h : l <+: m) {n : Nat} (hn : n ≤ l.length) : m.take n = l.take n := by
  obtain ⟨x, rfl⟩ := h
  rw [List.take_append_of_le_length hn]
section
variable {s : Bool} {t : Tn} {S S' T T' : Key3 → Rows8}
/-- The other side sent, or was told, something. -/
theorem TI.mono (h : TI s t S T) (hS : ∀ k, S k <+: S' k) (hSs : ∀ a b, S' (a, b, sideI (!s)) = S (a, b, sideI (!s))) (hT : ∀ a b, T' (a, b, sideI s) = T (a, b, sideI s)) : TI s t S' T' := by
  refine ⟨h.inv, h.idle, fun hu => by rw [hSs]; exact h.snd hu, fun hu => ?_, fun a b hn => by rw [hSs] at hn; exact h.fs a b hn, fun a b hn => by rw [hT] at hn; exact h.fr a b hn, fun d hd => (h.out d hd).mono hS⟩
  have hr := h.rcv hu
  have hl := (hS (t.you, t.me, sideI s)).length_le
  have hle := hr.le
  refine ⟨?_, by omega, fun j b hj => prefix_get (hS _) (hr.early j b hj)⟩
  rw [hT, hr.told, take_prefix (hS _) (by have := h.inv.ex.1; omega)]
/-- A frame that may be said. -/
theorem good_put {f : Fm} {r : Bool} (hok : f.ok) (h2 : f.k = 2 → (S (f.fr, f.yo, sideI r))[(f.sq - 1).toNat]? = some f.bd) : Good S r (putF f).1 := by
  refine ⟨f, by rw [putF, if_pos hok]; exact getF_put hok, fun hk => ⟨?_, h2 hk⟩⟩
  have := hok.2.2
  rcases this with h | h | h
  · omega
  · exact h.2.1.1
  · omega
theorem TI.say (h : TI s t S T) {f : Fm} (hok : ({ f with fr := t.me } : Fm).ok) (h2 : f.k = 2 → (S (t.me, f.yo, sideI (!s)))[(f.sq - 1).toNat]? = some f.bd) : TI s (t.say f) S T := by
  refine ⟨h.inv.say f, h.idle, fun hu => ⟨(h.snd hu).next, (h.snd hu).queue, (h.snd hu).way⟩, fun hu => ⟨(h.rcv hu).told, (h.rcv hu).le, (h.rcv hu).early⟩, h.fs, h.fr, fun d hd => ?_⟩
  have hd : d ∈ t.out ++ [(putF { f with fr := t.me }).1] := hd
  rcases List.mem_append.1 hd with hd | hd
  · exact h.out d hd
  · rw [List.mem_singleton] at hd
    rw [hd]
    exact good_put hok h2
theorem hel_ok {me you : Int} (h : 1 ≤ me ∧ me ≤ 1099511627776) (hy : 0 ≤ you ∧ you ≤ 1099511627776) : ({ hel you with fr := me } : Fm).ok := ⟨h, hy, .inl ⟨rfl, rfl, rfl, rfl, rfl⟩⟩
theorem TI.sayHel (h : TI s t S T) {you : Int} (hy : 0 ≤ you ∧ you ≤ 1099511627776) : TI s (t.say (hel you)) S T := h.say (hel_ok h.inv.me hy) fun hk => by cases hk
theorem TI.clear (h : TI s t S T) : TI s t.clear S T :=
  ⟨h.inv.clear, h.idle, fun hu => ⟨(h.snd hu).next, (h.snd hu).queue, (h.snd hu).way⟩, fun hu => ⟨(h.rcv hu).told, (h.rcv hu).le, (h.rcv hu).early⟩, h.fs, h.fr, fun d hd => by cases hd⟩
theorem TI.calm (h : TI s t S T) : TI s { t with sil := 0 } S T :=
  ⟨h.inv.calm, h.idle, fun hu => ⟨(h.snd hu).next, (h.snd hu).queue, (h.snd hu).way⟩, fun hu => ⟨(h.rcv hu).told, (h.rcv hu).le, (h.rcv hu).early⟩, h.fs, h.fr, h.out⟩
theorem TI.hint (h : TI s t S T) (n : Int) : TI s (t.hint n) S T := by
  unfold Tn.hint
  split
  · exact h.sayHel (by omega)
  · exact h
/-- A session begins. -/
theorem TI.fresh (h : TI s t S T) {you : Int} (hy : 0 ≤ you ∧ you ≤ 1099511627776) (hb : you > t.you ∨ (you = t.you ∧ t.up = false)) : TI s (t.fresh you) S T := by
  have e1 : S (t.me, you, sideI (!s)) = [] := by
    apply Classical.byContradiction
    intro hn
    have := (h.fs _ _ hn).2 rfl
    rcases hb with hb | ⟨hb, hu⟩
    · omega
    · have := this.2 hb; rw [hu] at this; cases this
  have e2 : T (you, t.me, sideI s) = [] := by
    apply Classical.byContradiction
    intro hn
    have := (h.fr _ _ hn).2 rfl
    rcases hb with hb | ⟨hb, hu⟩
    · omega
    · have := this.2 hb; rw [hu] at this; cases this
  refine ⟨h.inv.fresh hy, fun hu => (by cases hu), fun _ => ?_, fun _ => ?_, fun a b hn => ⟨(h.fs a b hn).1, fun ha => ⟨?_, fun _ => rfl⟩⟩, fun a b hn => ⟨(h.fr a b hn).1, fun ha => ⟨?_, fun _ => rfl⟩⟩, h.out⟩
  · show Snd (t.fresh you) (S (t.me, you, sideI (!s)))
    rw [e1]
    exact ⟨⟨Int.le_refl _, rfl⟩, rfl, fun x hx => by cases hx⟩
  · show Rcv (t.fresh you) (S (you, t.me, sideI s)) (T (you, t.me, sideI s))
    rw [e2]
    exact ⟨rfl, by show (0 : Int) ≤ _; omega, fun j b hj => by cases hj⟩
  · have := ((h.fs a b hn).2 ha).1
    show b ≤ you
    omega
  · have := ((h.fr a b hn).2 ha).1
    show a ≤ you
    omega
theorem TI.beg (h : TI s t S T) {you : Int} (hy : 0 ≤ you ∧ you ≤ 1099511627776) (hb : you > t.you ∨ (you = t.you ∧ t.up = false)) : TI s (t.beg you) S T := (h.fresh hy hb).sayHel hy
/-- A session ends, or the side begins anew: its number is greater now. -/
theorem TI.over (h : TI s t S T) {t' : Tn} (hi : t'.inv) (hu : t'.up = false) (hq : t'.queue = []) (hw : t'.way = []) (hm : t.me < t'.me) (ho : ∀ d ∈ t'.out, Good S (!s) d) : TI s t' S T :=
  ⟨hi, fun _ => ⟨hq, hw⟩, (fun h => by rw [hu] at h; cases h), (fun h => by rw [hu] at h; cases h), fun a b hn => ⟨(by have := (h.fs a b hn).1; omega), fun ha => (by have := (h.fs a b hn).1; omega)⟩, fun a b hn => ⟨(by have := (h.fr a b hn).1; omega), fun ha => (by have := (h.fr a b hn).1; omega)⟩, ho⟩
theorem fin_me {t : Tn} (hi : t.inv) (hm : t.me < 1099511627776) : t.fin.me = t.me + 1 := by
  have h1 := hi.me
  have e : wr (t.me + 1) = t.me + 1 := by rw [wr, IntKind.wrap_i64]; omega
  show min (wr (t.me + 1)) 1099511627776 = t.me + 1
  rw [e]; omega
theorem TI.fin (h : TI s t S T) (hm : t.me < 1099511627776) : TI s t.fin S T :=
  h.over h.inv.fin rfl rfl rfl (by rw [fin_me h.inv hm]; omega) h.out
/-- One more goes on the way. -/
theorem TI.put1 (h : TI s t S T) (hu : t.up = true) (hl : (S (t.me, t.you, sideI (!s))).length < 1099511627776) {b : List UInt8} {q : Rows8} (hq : t.queue = b :: q) : TI s (t.put1 b q) S T ∧ (t.put1 b q).up = true ∧ (t.put1 b q).me = t.me ∧ (t.put1 b q).you = t.you := by
  refine ⟨?_, hu, rfl, rfl⟩
  have hs := h.snd hu
  have hn := hs.next
  rw [hq] at hn
  simp only [List.length_cons] at hn
  have e : wr (t.next + 1) = t.next + 1 := by rw [wr, IntKind.wrap_i64]; omega
  have hget : (S (t.me, t.you, sideI (!s)))[t.next.toNat]? = some b := by
    have h1 := hs.queue
    rw [hq] at h1
    have h2 := congrArg (fun l => l[0]?) h1
    simp only [List.getElem?_cons_zero, List.getElem?_drop, Nat.add_zero] at h2
    exact h2.symm
  have hbl : b.length ≤ 512 := h.inv.queue b (by rw [hq]; exact List.mem_cons_self ..)
  have hseq : (t.next + 1 - 1).toNat = t.next.toNat := by omega
  have hroom := h.inv.room
  rw [hq] at hroom
  refine ⟨⟨h.inv.me, h.inv.you, h.inv.ex, h.inv.early, fun x hx => ?_, fun c hc => h.inv.queue c (by rw [hq]; exact List.mem_cons_of_mem _ hc), ?_, h.inv.sil⟩, fun hu' => ?_, fun _ => ⟨?_, ?_, fun x hx => ?_⟩, fun hu => ⟨(h.rcv hu).told, (h.rcv hu).le, (h.rcv hu).early⟩, h.fs, h.fr, fun d hd => ?_⟩
  · have hx : x ∈ t.way ++ [(wr (t.next + 1), b, 0)] := hx
    rcases List.mem_append.1 hx with hx | hx
    · exact h.inv.way x hx
    · rw [List.mem_singleton] at hx; rw [hx]; exact hbl
  · show q.length + (t.way ++ [(wr (t.next + 1), b, 0)]).length ≤ 64
    simp at hroom ⊢; omega
  · have : t.up = false := hu'
    rw [hu] at this; cases this
  · show 0 ≤ wr (t.next + 1) ∧ wr (t.next + 1) + q.length = _
    rw [e]
    show 0 ≤ t.next + 1 ∧ t.next + 1 + (q.length : Int) = ((S (t.me, t.you, sideI (!s))).length : Int)
    omega
  · show q = (S (t.me, t.you, sideI (!s))).drop (wr (t.next + 1)).toNat
    rw [e, show (t.next + 1).toNat = t.next.toNat + 1 from by omega, ← List.drop_drop, ← hs.queue, hq]
    rfl
  · have hx : x ∈ t.way ++ [(wr (t.next + 1), b, 0)] := hx
    show 1 ≤ x.1 ∧ x.1 ≤ wr (t.next + 1) ∧ (S (t.me, t.you, sideI (!s)))[(x.1 - 1).toNat]? = some x.2.1
    rw [e] at hx ⊢
    rcases List.mem_append.1 hx with hx | hx
    · obtain ⟨w1, w2, w3⟩ := hs.way x hx
      exact ⟨w1, by omega, w3⟩
    · rw [List.mem_singleton] at hx
      rw [hx]
      exact ⟨by show 1 ≤ t.next + 1; omega, Int.le_refl _, by show _ = some b; rw [hseq]; exact hget⟩
  · have hd : d ∈ t.out ++ [(putF (⟨2, t.me, t.you, wr (t.next + 1), 0, 0, b⟩ : Fm)).1] := hd
    rcases List.mem_append.1 hd with hd | hd
    · exact h.out d hd
    · rw [List.mem_singleton] at hd
      rw [hd, e]
      refine good_put ⟨h.inv.me, h.inv.you, .inr (.inl ⟨rfl, ⟨by show 1 ≤ t.next + 1; omega, by show t.next + 1 ≤ _; omega⟩, rfl, rfl, hbl⟩)⟩ fun _ => ?_
      show (S (t.me, t.you, sideI (!s)))[(t.next + 1 - 1).toNat]? = some b
      rw [hseq]; exact hget
theorem TI.slideF : ∀ (k : Nat) {t : Tn}, TI s t S T → t.up = true → (S (t.me, t.you, sideI (!s))).length < 1099511627776 → TI s (Go.Fl.slideF k t) S T
  | 0, _, h, _, _ => h
  | k + 1, t, h, hu, hl => by
    unfold Go.Fl.slideF
    split
    · exact h
    · rename_i b q hq
      split
      · obtain ⟨h1, h2, h3, h4⟩ := h.put1 hu hl hq
        exact TI.slideF k h1 h2 (by rw [h3, h4]; exact hl)
      · exact h
theorem TI.slide (h : TI s t S T) (hl : (S (t.me, t.you, sideI (!s))).length < 1099511627776) : TI s t.slide S T := by
  cases hu : t.up with
  | true => exact TI.slideF _ h hu hl
  | false =>
    have hq := (h.idle hu).1
    unfold Tn.slide
    rw [hq]; exact h
theorem TI.ack (h : TI s t S T) (f : Fm) (hl : (S (t.me, t.you, sideI (!s))).length < 1099511627776) : TI s (t.ack f) S T := by
  have h1 : TI s { t with way := t.way.filter fun x => !gone f x } S T := by
    have hr := h.inv.room
    have hfl := List.length_filter_le (fun x => !gone f x) t.way
    refine ⟨⟨h.inv.me, h.inv.you, h.inv.ex, h.inv.early, fun x hx => h.inv.way x (List.mem_filter.1 hx).1, h.inv.queue, by show t.queue.length + (t.way.filter fun x => !gone f x).length ≤ 64; omega, h.inv.sil⟩, fun hu => ⟨(h.idle hu).1, ?_⟩, fun hu => ⟨(h.snd hu).next, (h.snd hu).queue, fun x hx => (h.snd hu).way x (List.mem_filter.1 hx).1⟩, fun hu => ⟨(h.rcv hu).told, (h.rcv hu).le, (h.rcv hu).early⟩, h.fs, h.fr, h.out⟩
    show t.way.filter _ = []
    rw [(h.idle hu).2]; rfl
  exact h1.slide hl
theorem TI.hello (h : TI s t S T) {f : Fm} (hf : f.ok) : TI s (t.hello f) S T := by
  have := hf.1
  unfold Tn.hello
  split
  · split
    · exact h.sayHel (by omega)
    · exact h
  · split
    · rename_i hb; exact h.beg (by omega) hb
    · split
      · exact h.calm
      · exact h
theorem side_ne (s : Bool) : sideI s ≠ sideI (!s) := by cases s <;> decide
theorem updK_self (f : Key3 → Rows8) (k : Key3) : updK f k (f k) = f := funext fun j => by unfold updK; split <;> simp_all
theorem updK_nil (f : Key3 → Rows8) (k : Key3) : updK f k (f k ++ []) = f := by rw [List.append_nil]; exact updK_self f k
theorem updK_pre {f : Key3 → Rows8} {k : Key3} {l : Rows8} (h : f k <+: l) (j : Key3) : f j <+: updK f k l j := by
  unfold updK
  split
  · rename_i e; rw [e]; exact h
  · exact List.prefix_rfl
theorem updK_ne {f : Key3 → Rows8} {k j : Key3} {l : Rows8} (h : j ≠ k) : updK f k l j = f j := if_neg h
theorem updK_eq {f : Key3 → Rows8} {k : Key3} {l : Rows8} : updK f k l k = l := if_pos rfl
/-- A message is queued. -/
theorem TI.push (h : TI s t S T) (hu : t.up = true) {b : List UInt8} (hb : b.length ≤ 512) (hr : t.queue.length + t.way.length < 64) :
    TI s { t with queue := t.queue ++ [b] } (updK S (t.me, t.you, sideI (!s)) (S (t.me, t.you, sideI (!s)) ++ [b])) T := by
  have hs := h.snd hu
  have hn := hs.next
  have hpre : ∀ j, S j <+: updK S (t.me, t.you, sideI (!s)) (S (t.me, t.you, sideI (!s)) ++ [b]) j := updK_pre (List.prefix_append ..)
  refine ⟨⟨h.inv.me, h.inv.you, h.inv.ex, h.inv.early, h.inv.way, fun c hc => ?_, by show (t.queue ++ [b]).length + t.way.length ≤ 64; simp; omega, h.inv.sil⟩, fun hu' => ?_, fun _ => ?_, fun _ => ?_, fun a c hne => ?_, h.fr, fun d hd => (h.out d hd).mono hpre⟩
  · have hc : c ∈ t.queue ++ [b] := hc
    rcases List.mem_append.1 hc with hc | hc
    · exact h.inv.queue c hc
    · rw [List.mem_singleton] at hc; rw [hc]; exact hb
  · have : t.up = false := hu'
    rw [hu] at this; cases this
  · show Snd { t with queue := t.queue ++ [b] } (updK S (t.me, t.you, sideI (!s)) _ (t.me, t.you, sideI (!s)))
    rw [updK_eq]
    refine ⟨⟨hn.1, ?_⟩, ?_, fun x hx => ?_⟩
    · show t.next + ((t.queue ++ [b]).length : Int) = ((S (t.me, t.you, sideI (!s)) ++ [b]).length : Int)
      simp; omega
    · show t.queue ++ [b] = (S (t.me, t.you, sideI (!s)) ++ [b]).drop t.next.toNat
      rw [List.drop_append_of_le_length (by omega), ← hs.queue]
    · obtain ⟨w1, w2, w3⟩ := hs.way x hx
      exact ⟨w1, w2, prefix_get (List.prefix_append ..) w3⟩
  · have hk : ((t.you, t.me, sideI s) : Key3) ≠ (t.me, t.you, sideI (!s)) := fun e => side_ne s (congrArg (fun k : Key3 => k.2.2) e)
    show Rcv { t with queue := t.queue ++ [b] } (updK S (t.me, t.you, sideI (!s)) _ (t.you, t.me, sideI s)) (T (t.you, t.me, sideI s))
    rw [updK_ne hk]
    exact ⟨(h.rcv hu).told, (h.rcv hu).le, (h.rcv hu).early⟩
  · show a ≤ t.me ∧ (a = t.me → c ≤ t.you ∧ (c = t.you → t.up = true))
    by_cases e : ((a, c, sideI (!s)) : Key3) = (t.me, t.you, sideI (!s))
    · have e1 : a = t.me := congrArg (fun k : Key3 => k.1) e
      have e2 : c = t.you := congrArg (fun k : Key3 => k.2.1) e
      exact ⟨by omega, fun _ => ⟨by omega, fun _ => hu⟩⟩
    · rw [updK_ne e] at hne
      exact h.fs a c hne
theorem slideF_who : ∀ (k : Nat) (t : Tn), (Go.Fl.slideF k t).me = t.me ∧ (Go.Fl.slideF k t).you = t.you ∧ (Go.Fl.slideF k t).up = t.up
  | 0, _ => ⟨rfl, rfl, rfl⟩
  | k + 1, t => by
    unfold Go.Fl.slideF
    split
    · exact ⟨rfl, rfl, rfl⟩
    · split
      · exact slideF_who k _
      · exact ⟨rfl, rfl, rfl⟩
theorem send_who (t : Tn) (b : List UInt8) : (t.send b).1.me = t.me ∧ (t.send b).1.you = t.you ∧ (t.send b).1.up = t.up := by
  unfold Tn.send
  split
  · exact ⟨rfl, rfl, rfl⟩
  · split
    · exact ⟨rfl, rfl, rfl⟩
    · split
      · exact ⟨rfl, rfl, rfl⟩
      · exact slideF_who _ _
theorem TI.send (h : TI s t S T) (b : List UInt8) (hl : (S (t.me, t.you, sideI (!s))).length < 1099511627775) :
    (((t.send b).2 = 0 → TI s (t.send b).1 (updK S (t.me, t.you, sideI (!s)) (S (t.me, t.you, sideI (!s)) ++ [b])) T) ∧ ((t.send b).2 ≠ 0 → TI s (t.send b).1 S T)) := by
  have hroom := Tn.room_eq h.inv
  unfold Tn.send
  split
  · exact ⟨fun e => (by cases e), fun _ => h⟩
  · rename_i h1
    have hu : t.up = true := by simpa using h1
    split
    · exact ⟨fun e => (by cases e), fun _ => h⟩
    · split
      · exact ⟨fun e => (by cases e), fun _ => h⟩
      · rename_i h2 h3
        rw [hroom, if_pos hu] at h3
        refine ⟨fun _ => ?_, fun e => absurd rfl e⟩
        refine (h.push hu (by omega) (by omega)).slide ?_
        show (updK S (t.me, t.you, sideI (!s)) _ (t.me, t.you, sideI (!s))).length < _
        rw [updK_eq]; simp; omega
/-- What is in order is told. -/
theorem TI.tell : ∀ (n : Nat) {t : Tn} {T : Key3 → Rows8} (l : Rows8), TI s t S T → t.up = true → ∃ new, (tellF n t l).2 = l ++ new ∧ TI s (tellF n t l).1 S (updK T (t.you, t.me, sideI s) (T (t.you, t.me, sideI s) ++ new)) ∧ (tellF n t l).1.up = true ∧ (tellF n t l).1.me = t.me ∧ (tellF n t l).1.you = t.you
  | 0, t, T, l, h, hu => ⟨[], (List.append_nil l).symm, by rw [updK_nil]; exact h, hu, rfl, rfl⟩
  | n + 1, t, T, l, h, hu => by
    unfold tellF
    split
    · exact ⟨[], (List.append_nil l).symm, by rw [updK_nil]; exact h, hu, rfl, rfl⟩
    · rename_i b hb
      have hr := h.rcv hu
      have hi := h.inv.early _ _ hb
      have hx := h.inv.ex
      have hS := hr.early _ _ hb
      rw [show (t.expect + 1 - 1).toNat = t.expect.toNat from by omega] at hS
      have hlt := (List.getElem?_eq_some_iff.1 hS).1
      have h1 : TI s { t with early := setE t.early (t.expect + 1) none, expect := t.expect + 1 } S (updK T (t.you, t.me, sideI s) (T (t.you, t.me, sideI s) ++ [b])) := by
        have hset : ∀ j c, setE t.early (t.expect + 1) none j = some c → j ≠ t.expect + 1 ∧ t.early j = some c := fun j c hj => by
          unfold setE at hj
          split at hj
          · cases hj
          · exact ⟨by assumption, hj⟩
        refine ⟨⟨h.inv.me, h.inv.you, ⟨by show 0 ≤ t.expect + 1; omega, hi.2.2.1⟩, fun j c hj => ?_, h.inv.way, h.inv.queue, h.inv.room, h.inv.sil⟩, h.idle, fun hu => ⟨(h.snd hu).next, (h.snd hu).queue, (h.snd hu).way⟩, fun _ => ?_, h.fs, fun a c hne => ?_, h.out⟩
        · obtain ⟨g1, g2⟩ := hset j c hj
          have := h.inv.early j c g2
          show t.expect + 1 < j ∧ j ≤ t.expect + 1 + 16 ∧ _
          omega
        · show Rcv _ (S (t.you, t.me, sideI s)) (updK T (t.you, t.me, sideI s) _ (t.you, t.me, sideI s))
          rw [updK_eq]
          refine ⟨?_, by show t.expect + 1 ≤ _; omega, fun j c hj => hr.early j c (hset j c hj).2⟩
          show T (t.you, t.me, sideI s) ++ [b] = (S (t.you, t.me, sideI s)).take (t.expect + 1).toNat
          rw [hr.told, show (t.expect + 1).toNat = t.expect.toNat + 1 from by omega, List.take_add_one, hS]
          rfl
        · show c ≤ t.me ∧ (c = t.me → a ≤ t.you ∧ (a = t.you → t.up = true))
          by_cases e : ((a, c, sideI s) : Key3) = (t.you, t.me, sideI s)
          · have e1 : a = t.you := congrArg (fun k : Key3 => k.1) e
            have e2 : c = t.me := congrArg (fun k : Key3 => k.2.1) e
            exact ⟨by omega, fun _ => ⟨by omega, fun _ => hu⟩⟩
          · rw [updK_ne e] at hne
            exact h.fr a c hne
      obtain ⟨new, g1, g2, g3, g4, g5⟩ := TI.tell n (l ++ [b]) h1 hu
      refine ⟨b :: new, by rw [g1]; simp, ?_, g3, g4, g5⟩
      have e : updK (updK T (t.you, t.me, sideI s) (T (t.you, t.me, sideI s) ++ [b])) (t.you, t.me, sideI s) (updK T (t.you, t.me, sideI s) (T (t.you, t.me, sideI s) ++ [b]) (t.you, t.me, sideI s) ++ new) = updK T (t.you, t.me, sideI s) (T (t.you, t.me, sideI s) ++ (b :: new)) := by
        funext j
        unfold updK
        split
        · simp
        · rfl
      rw [← e]
      exact g2
theorem TI.keep (h : TI s t S T) (hu : t.up = true) {f : Fm} (hf : f.ok) (hS : (S (t.you, t.me, sideI s))[(f.sq - 1).toNat]? = some f.bd) : TI s (t.keep f) S T ∧ (t.keep f).up = true ∧ (t.keep f).me = t.me ∧ (t.keep f).you = t.you := by
  have hi := h.inv.keep hf
  unfold Tn.keep at hi ⊢
  split
  · rename_i hc
    rw [if_pos hc] at hi
    refine ⟨⟨hi, h.idle, fun hu => ⟨(h.snd hu).next, (h.snd hu).queue, (h.snd hu).way⟩, fun _ => ⟨(h.rcv hu).told, (h.rcv hu).le, fun j b hj => ?_⟩, h.fs, h.fr, h.out⟩, hu, rfl, rfl⟩
    dsimp only [setE] at hj
    split at hj
    · rename_i e
      cases hj
      show (S (t.you, t.me, sideI s))[(j - 1).toNat]? = some f.bd
      rw [e]; exact hS
    · exact (h.rcv hu).early j b hj
  · exact ⟨h, hu, rfl, rfl⟩
theorem TI.data (h : TI s t S T) (hu : t.up = true) {f : Fm} (hf : f.ok) (hS : (S (t.you, t.me, sideI s))[(f.sq - 1).toNat]? = some f.bd) :
    TI s (t.data f).1 S (updK T (t.you, t.me, sideI s) (T (t.you, t.me, sideI s) ++ (t.data f).2)) ∧ (t.data f).1.up = true ∧ (t.data f).1.me = t.me ∧ (t.data f).1.you = t.you := by
  obtain ⟨k1, k2, k3, k4⟩ := h.keep hu hf hS
  obtain ⟨new, g1, g2, g3, g4, g5⟩ := TI.tell 17 [] k1 k2
  rw [k3, k4] at g2
  have e : (t.data f).2 = new := g1
  rw [e]
  have g5' : (t.data f).1.you = t.you := g5.trans k4
  refine ⟨?_, g3, g4.trans k3, g5'⟩
  have hx := g2.inv.ex
  have hb := bitsN_lt (tellF 17 (t.keep f) []).1.early (tellF 17 (t.keep f) []).1.expect 16
  refine g2.say (f := ⟨3, 0, (tellF 17 (t.keep f) []).1.you, 0, (tellF 17 (t.keep f) []).1.expect, (bitsN (tellF 17 (t.keep f) []).1.early (tellF 17 (t.keep f) []).1.expect 16 : Nat), []⟩) ⟨g2.inv.me, g2.inv.you, .inr (.inr ⟨rfl, rfl, hx, ⟨by show (0 : Int) ≤ ((_ : Nat) : Int); omega, ?_⟩, rfl⟩)⟩ fun hk => by cases hk
  show ((bitsN _ _ 16 : Nat) : Int) ≤ 65535
  omega
/-- A datagram comes. -/
theorem TI.take (h : TI s t S T) {d : List UInt8} (hg : Good S s d) (hl : (S (t.me, t.you, sideI (!s))).length < 1099511627776) (hp : ∀ k, T k <+: S k) :
    (t.take d).2.2 = 0 ∧ (t.take d).1.me = t.me ∧ TI s (t.take d).1 S (updK T ((t.take d).1.you, (t.take d).1.me, sideI s) (T ((t.take d).1.you, (t.take d).1.me, sideI s) ++ (t.take d).2.1)) ∧ T ((t.take d).1.you, (t.take d).1.me, sideI s) ++ (t.take d).2.1 <+: S ((t.take d).1.you, (t.take d).1.me, sideI s) := by
  obtain ⟨f, hf, h2⟩ := hg
  have hok := (getF_back hf).1
  have key : ∀ x : Tn × Rows8 × Int, x.2 = ([], 0) → x.1.me = t.me → TI s x.1 S T → x.2.2 = 0 ∧ x.1.me = t.me ∧ TI s x.1 S (updK T (x.1.you, x.1.me, sideI s) (T (x.1.you, x.1.me, sideI s) ++ x.2.1)) ∧ T (x.1.you, x.1.me, sideI s) ++ x.2.1 <+: S (x.1.you, x.1.me, sideI s) := by
    rintro ⟨t', l, e⟩ he hm ht
    cases he
    exact ⟨rfl, hm, by rw [updK_nil]; exact ht, by rw [List.append_nil]; exact hp _⟩
  unfold Tn.take
  rw [hf]
  dsimp only
  split
  · refine key _ rfl ?_ (h.hello hok)
    show (t.hello f).me = t.me
    unfold Tn.hello
    split
    · split <;> rfl
    · split
      · rfl
      · split <;> rfl
  · split
    · refine key _ rfl ?_ ?_
      · show (if _ then _ else _ : Tn).me = t.me
        split <;> rfl
      · show TI s (if _ then _ else _) S T
        split
        · exact h.sayHel (by have := hok.1; omega)
        · exact h
    · rename_i hk1 hcond
      have hu : t.up = true := by
        cases hu : t.up with
        | true => rfl
        | false => exact absurd (.inl hu) hcond
      have hfr : f.fr = t.you := Classical.byContradiction fun e => hcond (.inr (.inl e))
      have hyo : f.yo = t.me := Classical.byContradiction fun e => hcond (.inr (.inr e))
      split
      · refine key _ rfl ?_ (h.calm.ack f hl)
        exact (slideF_who _ _).1
      · rename_i hk3
        have hk2 : f.k = 2 := by have := (okF_in hok).1; omega
        have hS := (h2 hk2).2
        rw [hfr, hyo] at hS
        obtain ⟨d1, d2, d3, d4⟩ := h.calm.data hu hok hS
        refine ⟨rfl, d3, ?_, ?_⟩
        · show TI s (({ t with sil := 0 } : Tn).data f).1 S (updK T ((({ t with sil := 0 } : Tn).data f).1.you, (({ t with sil := 0 } : Tn).data f).1.me, sideI s) _)
          rw [d3, d4]; exact d1
        · have hr := d1.rcv d2
          show T ((({ t with sil := 0 } : Tn).data f).1.you, (({ t with sil := 0 } : Tn).data f).1.me, sideI s) ++ _ <+: S ((({ t with sil := 0 } : Tn).data f).1.you, (({ t with sil := 0 } : Tn).data f).1.me, sideI s)
          rw [d3, d4] at hr ⊢
          have := hr.told
          rw [updK_eq] at this
          show T (t.you, t.me, sideI s) ++ (({ t with sil := 0 } : Tn).data f).2 <+: _
          rw [this]
          exact List.take_prefix ..
theorem TI.age : ∀ (l : List (Int × List UInt8 × Int)) {t : Tn}, TI s t S T → (∀ x ∈ l, 1 ≤ x.1 ∧ x.1 ≤ 1099511627776 ∧ x.2.1.length ≤ 512 ∧ (S (t.me, t.you, sideI (!s)))[(x.1 - 1).toNat]? = some x.2.1) → TI s (ageF t l) S T
  | [], _, h, _ => h
  | y :: l, t, h, hl => by
    obtain ⟨h1, h2, h3, h4⟩ := hl y (List.mem_cons_self ..)
    unfold ageF
    split
    · refine TI.age l (h.say ⟨h.inv.me, h.inv.you, .inr (.inl ⟨rfl, ⟨h1, h2⟩, rfl, rfl, h3⟩)⟩ fun _ => h4) fun x hx => hl x (List.mem_cons_of_mem _ hx)
    · exact TI.age l h fun x hx => hl x (List.mem_cons_of_mem _ hx)
theorem TI.tick (h : TI s t S T) (hm : t.me < 1099511627776) (hl : (S (t.me, t.you, sideI (!s))).length < 1099511627776) : TI s t.tick S T ∧ t.tick.me ≤ t.me + 1 := by
  have hi := h.inv.tick
  have h1 : TI s { t with ticks := wr (t.ticks + 1) } S T := ⟨⟨h.inv.me, h.inv.you, h.inv.ex, h.inv.early, h.inv.way, h.inv.queue, h.inv.room, h.inv.sil⟩, h.idle, fun hu => ⟨(h.snd hu).next, (h.snd hu).queue, (h.snd hu).way⟩, fun hu => ⟨(h.rcv hu).told, (h.rcv hu).le, (h.rcv hu).early⟩, h.fs, h.fr, h.out⟩
  unfold Tn.tick at hi ⊢
  dsimp only at hi ⊢
  split
  · split
    · exact ⟨h1.sayHel h.inv.you, by show t.me ≤ _; omega⟩
    · exact ⟨h1, by show t.me ≤ _; omega⟩
  · rename_i hu0
    have hu : t.up = true := by simpa using hu0
    rw [if_neg hu0] at hi
    split
    · rename_i h64
      rw [if_pos h64] at hi
      have hme : min (wr (t.me + 1)) 1099511627776 = t.me + 1 := fin_me h.inv hm
      refine ⟨h.over hi rfl rfl rfl (by show t.me < min (wr (t.me + 1)) 1099511627776; omega) h.out, ?_⟩
      show min (wr (t.me + 1)) 1099511627776 ≤ t.me + 1
      omega
    · rename_i h64
      rw [if_neg h64] at hi
      have hs := h.inv.sil
      have e : wr (t.sil + 1) = t.sil + 1 := by rw [wr, IntKind.wrap_i64]; omega
      have h2 : TI s { t with ticks := wr (t.ticks + 1), sil := wr (t.sil + 1) } S T := ⟨⟨h.inv.me, h.inv.you, h.inv.ex, h.inv.early, h.inv.way, h.inv.queue, h.inv.room, by show 0 ≤ wr (t.sil + 1); omega, by show wr (t.sil + 1) < 64; omega⟩, h.idle, fun hu => ⟨(h.snd hu).next, (h.snd hu).queue, (h.snd hu).way⟩, fun hu => ⟨(h.rcv hu).told, (h.rcv hu).le, (h.rcv hu).early⟩, h.fs, h.fr, h.out⟩
      have hsn := h.snd hu
      unfold Tn.tickUp at hi ⊢
      dsimp only at hi ⊢
      have h3 : TI s (if Int.tmod (wr (t.ticks + 1)) 8 = 0 then ({ t with ticks := wr (t.ticks + 1), sil := wr (t.sil + 1) } : Tn).say (hel t.you) else { t with ticks := wr (t.ticks + 1), sil := wr (t.sil + 1) }) S T := by
        split
        · exact h2.sayHel h.inv.you
        · exact h2
      have hf : (if Int.tmod (wr (t.ticks + 1)) 8 = 0 then ({ t with ticks := wr (t.ticks + 1), sil := wr (t.sil + 1) } : Tn).say (hel t.you) else { t with ticks := wr (t.ticks + 1), sil := wr (t.sil + 1) }).me = t.me ∧
        (if Int.tmod (wr (t.ticks + 1)) 8 = 0 then ({ t with ticks := wr (t.ticks + 1), sil := wr (t.sil + 1) } : Tn).say (hel t.you) else { t with ticks := wr (t.ticks + 1), sil := wr (t.sil + 1) }).you = t.you ∧ (if Int.tmod (wr (t.ticks + 1)) 8 = 0 then ({ t with ticks := wr (t.ticks + 1), sil := wr (t.sil + 1) } : Tn).say (hel t.you) else { t with ticks := wr (t.ticks + 1), sil := wr (t.sil + 1) }).up = t.up ∧ (if Int.tmod (wr (t.ticks + 1)) 8 = 0 then ({ t with ticks := wr (t.ticks + 1), sil := wr (t.sil + 1) } : Tn).say (hel t.you) else { t with ticks := wr (t.ticks + 1), sil := wr (t.sil + 1) }).next = t.next := by split <;> exact ⟨rfl, rfl, rfl, rfl⟩
      generalize (if Int.tmod (wr (t.ticks + 1)) 8 = 0 then ({ t with ticks := wr (t.ticks + 1), sil := wr (t.sil + 1) } : Tn).say (hel t.you) else { t with ticks := wr (t.ticks + 1), sil := wr (t.sil + 1) }) = t3 at *
      have hway : ∀ x ∈ t.way, 1 ≤ x.1 ∧ x.1 ≤ 1099511627776 ∧ x.2.1.length ≤ 512 ∧ (S (t3.me, t3.you, sideI (!s)))[(x.1 - 1).toNat]? = some x.2.1 := fun x hx => by
        obtain ⟨w1, w2, w3⟩ := hsn.way x hx
        have := hsn.next
        rw [hf.1, hf.2.1]
        exact ⟨w1, by omega, h.inv.way x hx, w3⟩
      have h4 := TI.age t.way h3 hway
      obtain ⟨o, ho, _⟩ := ageF_out t.way t3
      rw [ho] at h4 hi ⊢
      refine ⟨⟨hi, fun hu' => ⟨(h4.idle hu').1, ?_⟩, fun hu' => ⟨(h4.snd hu').next, (h4.snd hu').queue, fun x hx => ?_⟩, fun hu' => ⟨(h4.rcv hu').told, (h4.rcv hu').le, (h4.rcv hu').early⟩, h4.fs, h4.fr, h4.out⟩, by show t3.me ≤ _; omega⟩
      · have hu' : t3.up = false := hu'
        rw [hf.2.2.1, hu] at hu'; cases hu'
      · obtain ⟨y, hy, rfl⟩ := List.mem_map.1 hx
        obtain ⟨w1, w2, w3⟩ := hsn.way y hy
        show 1 ≤ y.1 ∧ y.1 ≤ t3.next ∧ (S (t3.me, t3.you, sideI (!s)))[(y.1 - 1).toNat]? = some y.2.1
        rw [hf.1, hf.2.1, hf.2.2.2]
        exact ⟨w1, w2, w3⟩
end
/-- What holds of a pair; m bounds the numbers, n how much was sent. -/
structure PI (p : Pr) (m : Int) (n : Nat) : Prop where
  ti : ∀ s, TI s (p.t s) p.sent p.told
  pre : ∀ k, p.told k <+: p.sent k
  wild : ∀ r, ∀ d ∈ p.bag r, Good p.sent r d
  me : ∀ s, (p.t s).me ≤ m
  len : ∀ k, (p.sent k).length ≤ n
theorem pi0 : PI pr0 5000 0 := by
  have key : ∀ (s : Bool) (me : Int), 1 ≤ me ∧ me ≤ 1099511627776 → TI s (tn0 me) (fun _ => []) (fun _ => []) := fun s me h =>
    ⟨inv_tn0 h, fun _ => ⟨rfl, rfl⟩, fun hu => (by cases hu), fun hu => (by cases hu), fun _ _ hn => absurd rfl hn, fun _ _ hn => absurd rfl hn, fun d hd => (by cases hd)⟩
  refine ⟨fun s => ?_, fun k => List.prefix_rfl, fun r d hd => (by cases hd), fun s => ?_, fun k => Nat.le_refl _⟩
  · cases s
    · exact key false 1000 (by decide)
    · exact key true 5000 (by decide)
  · cases s
    · show (1000 : Int) ≤ 5000; decide
    · exact Int.le_refl _
theorem setB_same {α : Type} (f : Bool → α) (s : Bool) (v : α) : setB f s v s = v := if_pos rfl
theorem setB_other {α : Type} (f : Bool → α) (s : Bool) (v : α) : setB f s v (!s) = f (!s) := if_neg (by cases s <;> decide)
theorem bool_cases (s x : Bool) : x = s ∨ x = !s := by cases s <;> cases x <;> simp
theorem mem_pour {d : List UInt8} {bag l : Rows8} (h : d ∈ pour bag l) : d ∈ bag ∨ d ∈ l := by
  rcases List.mem_append.1 h with h | h
  · exact .inl h
  · exact .inr (List.mem_of_mem_take h)
theorem PI.outs {p : Pr} {m : Int} {n : Nat} (h : PI p m n) : PI p.outs m n := by
  refine ⟨fun s => (h.ti s).clear, h.pre, fun r d hd => ?_, h.me, h.len⟩
  rcases mem_pour hd with hd | hd
  · exact h.wild r d hd
  · have := (h.ti (!r)).out d hd
    rwa [Bool.not_not] at this
/-- One side's tunnel went on; nothing was sent. -/
theorem PI.side {p : Pr} {m : Int} {n : Nat} (h : PI p m n) {s : Bool} {t : Tn} {bag : Bool → Rows8} {T : Key3 → Rows8} {m' : Int} (ht : TI s t p.sent T) (hT : ∀ k, k.2.2 ≠ sideI s → T k = p.told k) (hp : ∀ k, T k <+: p.sent k) (hb : ∀ r, ∀ d ∈ bag r, d ∈ p.bag r) (hm : m ≤ m') (hme : t.me ≤ m') :
    PI { t := setB p.t s t, bag := bag, sent := p.sent, told := T } m' n := by
  refine ⟨fun x => ?_, hp, fun r d hd => h.wild r d (hb r d hd), fun x => ?_, h.len⟩
  · rcases bool_cases s x with rfl | rfl
    · show TI x (setB p.t x t x) p.sent T
      rw [setB_same]; exact ht
    · show TI (!s) (setB p.t s t (!s)) p.sent T
      rw [setB_other]
      exact (h.ti (!s)).mono (fun k => List.prefix_rfl) (fun _ _ => rfl) fun a b => hT _ fun e => by
        have e : sideI (!s) = sideI s := e
        exact side_ne s e.symm
  · rcases bool_cases s x with rfl | rfl
    · show (setB p.t x t x).me ≤ m'
      rw [setB_same]; exact hme
    · show (setB p.t s t (!s)).me ≤ m'
      rw [setB_other]
      have := h.me (!s)
      omega
theorem mem_set_erase {p : Bool → Rows8} {s : Bool} {i : Nat} : ∀ r, ∀ d ∈ setB p s ((p s).eraseIdx i) r, d ∈ p r := fun r d hd => by
  unfold setB at hd
  split at hd
  · rename_i e
    rw [e]
    exact List.mem_of_mem_eraseIdx hd
  · exact hd
/-- Whatever is done, what is told was sent so. -/
theorem PI.act {p : Pr} {m : Int} {n : Nat} (h : PI p m n) (hm : m + 100 < 1099511627776) (hm0 : 0 ≤ m) (hn : n + 1 < 1099511627775) (a : PAct) : (p.act a).2 = true ∧ PI (p.act a).1 (m + 100) (n + 1) := by
  have hlen : ∀ k, (p.sent k).length < 1099511627775 := fun k => by have := h.len k; omega
  have up : ∀ {q : Pr}, PI q m n → PI q (m + 100) (n + 1) := fun hq => ⟨hq.ti, hq.pre, hq.wild, fun s => by have := hq.me s; omega, fun k => by have := hq.len k; omega⟩
  have upn : ∀ {q : Pr}, PI q (m + 100) n → PI q (m + 100) (n + 1) := fun hq => ⟨hq.ti, hq.pre, hq.wild, hq.me, fun k => by have := hq.len k; omega⟩
  have hme := h.me a.side
  have hti := h.ti a.side
  unfold Pr.act
  split
  · refine ⟨rfl, ?_⟩
    show PI (p.sends a.side a.b) (m + 100) (n + 1)
    obtain ⟨w1, w2, w3⟩ := send_who (p.t a.side) a.b
    obtain ⟨s1, s2⟩ := hti.send a.b (hlen _)
    unfold Pr.sends
    split
    · rename_i h0
      rw [w1, w2]
      have ht := s1 h0
      have hpre : ∀ j, p.sent j <+: updK p.sent ((p.t a.side).me, (p.t a.side).you, sideI (!a.side)) (p.sent ((p.t a.side).me, (p.t a.side).you, sideI (!a.side)) ++ [a.b]) j := updK_pre (List.prefix_append ..)
      refine ⟨fun x => ?_, fun k => (h.pre k).trans (hpre k), fun r d hd => (h.wild r d hd).mono hpre, fun x => ?_, fun k => ?_⟩
      · rcases bool_cases a.side x with hx | hx
        · rw [hx]
          show TI a.side (setB p.t a.side _ a.side) _ p.told
          rw [setB_same]; exact ht
        · rw [hx]
          show TI (!a.side) (setB p.t a.side _ (!a.side)) _ p.told
          rw [setB_other]
          refine (h.ti (!a.side)).mono hpre (fun b c => updK_ne fun e => ?_) fun _ _ => rfl
          have e : sideI (!!a.side) = sideI (!a.side) := congrArg (fun k : Key3 => k.2.2) e
          rw [Bool.not_not] at e
          exact side_ne _ e
      · rcases bool_cases a.side x with hx | hx
        · rw [hx]
          show (setB p.t a.side _ a.side).me ≤ _
          rw [setB_same, w1]; omega
        · rw [hx]
          show (setB p.t a.side _ (!a.side)).me ≤ _
          rw [setB_other]
          have := h.me (!a.side)
          omega
      · show (updK p.sent _ _ k).length ≤ n + 1
        unfold updK
        split
        · have := h.len ((p.t a.side).me, (p.t a.side).you, sideI (!a.side))
          simp; omega
        · have := h.len k; omega
    · rename_i h0
      exact upn (h.side (s2 h0) (fun _ _ => rfl) h.pre (fun _ _ hd => hd) (by omega) (by rw [w1]; omega))
  · split
    · obtain ⟨t1, t2⟩ := hti.tick (by omega) (by have := hlen ((p.t a.side).me, (p.t a.side).you, sideI (!a.side)); omega)
      exact ⟨rfl, upn (h.side t1 (fun _ _ => rfl) h.pre (fun _ _ hd => hd) (by omega) (by omega))⟩
    · split
      · have h1 := hti.inv.me
        have e : wr ((p.t a.side).me + 100) = (p.t a.side).me + 100 := by rw [wr, IntKind.wrap_i64]; omega
        refine ⟨rfl, upn (h.side (t := tn0 (wr ((p.t a.side).me + 100))) ?_ (fun _ _ => rfl) h.pre (fun _ _ hd => hd) (by omega) (by show wr ((p.t a.side).me + 100) ≤ m + 100; omega))⟩
        rw [e]
        exact hti.over (inv_tn0 (by omega)) rfl rfl rfl (by show (p.t a.side).me < (p.t a.side).me + 100; omega) fun d hd => by cases hd
      · split
        · refine ⟨rfl, upn (h.side (hti.hint _) (fun _ _ => rfl) h.pre (fun _ _ hd => hd) (by omega) ?_)⟩
          unfold Tn.hint
          split
          · show (p.t a.side).me ≤ _; omega
          · omega
        · split
          · exact ⟨rfl, up h⟩
          · rename_i hne
            split
            · refine ⟨rfl, up ⟨h.ti, h.pre, fun r d hd => h.wild r d (mem_set_erase r d hd), h.me, h.len⟩⟩
            · have hmod := Nat.mod_lt a.u (show 0 < (p.bag a.side).length by omega)
              have hd : (p.bag a.side).getD (a.u % (p.bag a.side).length) [] ∈ p.bag a.side := by
                rw [List.getD_eq_getElem?_getD, List.getElem?_eq_getElem hmod]
                exact List.getElem_mem hmod
              obtain ⟨r1, r2, r3, r4⟩ := hti.take (h.wild _ _ hd) (by have := hlen ((p.t a.side).me, (p.t a.side).you, sideI (!a.side)); omega) h.pre
              unfold Pr.comes
              dsimp only
              refine ⟨?_, upn (h.side r3 (fun k hk => updK_ne fun e => hk (by rw [e])) (fun k => ?_) (fun r d hd => ?_) (by omega) (by rw [r2]; omega))⟩
              · rw [Bool.and_eq_true, Bool.and_eq_true, decide_eq_true_iff, decide_eq_true_iff, decide_eq_true_iff]
                exact ⟨r1, r4.length_le, List.prefix_iff_eq_take.1 r4⟩
              · unfold updK
                split
                · rename_i e; rw [e]; exact r4
                · exact h.pre k
              · split at hd
                · exact hd
                · exact mem_set_erase r d hd
theorem PI.does {p : Pr} {m : Int} {n : Nat} (h : PI p m n) (hm : m + 100 < 1099511627776) (hm0 : 0 ≤ m) (hn : n + 1 < 1099511627775) (a : PAct) : (p.does a).2 = true ∧ PI (p.does a).1 (m + 100) (n + 1) :=
  ⟨(h.act hm hm0 hn a).1, (h.act hm hm0 hn a).2.outs⟩
end Go.Fl
namespace Go.Fl

theorem Good.len {S : Key3 → Rows8} {r : Bool} {d : List UInt8} (h : Good S r d) : d.length ≤ 2000 := by
  obtain ⟨f, h1, _⟩ := h
  obtain ⟨h2, h3⟩ := getF_back h1
  have := putF_len f
  rw [putF, if_pos h2] at this
  rw [← h3]; exact this
/-- What holds between two acts. -/
structure PS (p : Pr) (m : Int) (n : Nat) : Prop where
  pi : PI p m n
  out : ∀ s, (p.t s).out = []
  bag : ∀ s, (p.bag s).length ≤ 200
theorem ps0 : PS pr0 5000 0 := ⟨pi0, fun s => by cases s <;> rfl, fun _ => Nat.zero_le _⟩
theorem setB_len {α : Type} {f : Bool → List α} {n : Nat} (h : ∀ s, (f s).length ≤ n) {s : Bool} {l : List α} (hl : l.length ≤ n) : ∀ u, (setB f s l u).length ≤ n := fun u => by
  unfold setB; split
  · exact hl
  · exact h u
theorem setB_out {f : Bool → Tn} {n : Nat} (h : ∀ s, (f s).out.length ≤ n) {s : Bool} {t : Tn} (hl : t.out.length ≤ n) : ∀ u, (setB f s t u).out.length ≤ n := fun u => by
  unfold setB; split
  · exact hl
  · exact h u
theorem erase_len {α : Type} (l : List α) (i : Nat) : (l.eraseIdx i).length ≤ l.length := List.length_eraseIdx_le ..
theorem PS.act {p : Pr} {m : Int} {n : Nat} (h : PS p m n) (a : PAct) : (∀ s, ((p.act a).1.t s).out.length ≤ 65) ∧ ∀ s, ((p.act a).1.bag s).length ≤ 200 := by
  have ho : ∀ s, (p.t s).out.length ≤ 65 := fun s => by rw [h.out s]; exact Nat.zero_le _
  have hz : ∀ s, (p.t s).out.length = 0 := fun s => by rw [h.out s]; rfl
  have hi := fun s => (h.pi.ti s).inv
  have hb := h.bag
  have he : ∀ s i, ((p.bag s).eraseIdx i).length ≤ 200 := fun s i => Nat.le_trans (erase_len _ _) (hb s)
  unfold Pr.act
  split
  · have h1 := send_out (hi a.side) a.b
    have h2 := hz a.side
    unfold Pr.sends
    split
    · exact ⟨setB_out ho (by omega), hb⟩
    · exact ⟨setB_out ho (by omega), hb⟩
  split
  · have h1 := tick_out (hi a.side)
    have h2 := hz a.side
    exact ⟨setB_out ho (by omega), hb⟩
  split
  · exact ⟨setB_out ho (Nat.zero_le _), hb⟩
  split
  · have h1 := hint_out (p.t a.side) (p.t (!a.side)).me
    have h2 := hz a.side
    exact ⟨setB_out ho (by omega), hb⟩
  split
  · exact ⟨ho, hb⟩
  split
  · exact ⟨ho, setB_len hb (he _ _)⟩
  · have h1 := take_out (hi a.side) ((p.bag a.side).getD (a.u % (p.bag a.side).length) [])
    have h2 := hz a.side
    refine ⟨setB_out ho (by omega), ?_⟩
    show ∀ s, ((if a.stay then p.bag else _ : Bool → Rows8) s).length ≤ 200
    split
    · exact hb
    · exact setB_len hb (he _ _)
theorem pour_len {b l : Rows8} (h : b.length ≤ 200) : (pour b l).length ≤ 200 := by
  unfold pour
  rw [List.length_append, List.length_take]
  omega
theorem PS.does {p : Pr} {m : Int} {n : Nat} (h : PS p m n) (hm : m + 100 < 1099511627776) (hm0 : 0 ≤ m) (hn : n + 1 < 1099511627775) (a : PAct) : (p.does a).2 = true ∧ PS (p.does a).1 (m + 100) (n + 1) :=
  ⟨(h.pi.does hm hm0 hn a).1, (h.pi.does hm hm0 hn a).2, fun _ => rfl, fun s => pour_len ((h.act a).2 s)⟩
end Go.Fl
