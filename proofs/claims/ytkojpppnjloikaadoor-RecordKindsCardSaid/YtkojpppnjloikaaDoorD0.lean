/- Contracts: the digest's words and rounds. -/
import Derived.Test.YtkojpppnjloikaaDoorC0
import Derived.Test.YtkojpppnjloikaaDoorUn
import Derived.Test.YtkojpppnjloikaaDoorFlSha
namespace Go.Proofs.YtkojpppnjloikaaDoor
open Go.RowKit Go.Fl

theorem Rot_ok {x : Int} {k : Int} (n : Nat) (h1 : bits .and .u64 (IntKind.u64.wrap k) 31 = ((32 - n : Nat) : Int)) (hn : 1 ≤ n) (hn2 : n ≤ 31) {w : World} : cl Tryd.prog n_math_bits_RotateLeft32 #[.int .u32 x, .int .i64 k] (.I .u32) w fun (r : Int) w' => r = rotS x n ∧ w = w' := by
  refine math_bits_RotateLeft32.cl ?_
  unfold math_bits_RotateLeft32
  rw [h1]
  refine bP (by omega) ?_
  have h2 : IntKind.u64.wrap (32 - ((32 - n : Nat) : Int)) = (n : Int) := by rw [u64w (by omega) (by omega)]; omega
  rw [h2]
  refine bP (by omega) ⟨?_, rfl⟩
  rw [show min ((32 - n : Nat) : Int).toNat 32 = 32 - n from by omega, show min ((n : Nat) : Int).toNat 32 = n from by omega]
  rfl
theorem spread_ok {s : Sl} {b : List UInt8} {w : World} (hs : Bs w s b) (hl : b.length = 64) : cl Tryd.prog n_digest_spread #[.slice s.a s.n s.c] (.row 64) w fun (r : {l : List Value // l.length = 64}) w' => r.1 = ints (spreadS b 64) ∧ Fr w w' := by
  refine digest_spread.cl ?_
  unfold digest_spread
  have hn := hs.len
  refine nwI fun a1 w2 ha1 hs2 hf2 hb2 _ => ?_
  refine nwI fun a3 w4 ha3 hs4 hf4 hb4 _ => ?_
  have hz : (zrow 64 (.int .u32 0)).1 = ints (spreadS b 0 ++ List.replicate 64 0) := by simp [zrow, ints, spreadS]
  rw [hz] at hb4
  have hfa := hf2.trans hf4
  have step : ∀ {w' w'' : World}, Fr w w' → w'.grownBy w'' (some a3) → Fr w w'' := fun hf hg => hf.on (grown_below hg (by omega) hf.size)
  have byt : ∀ (w' : World) (i : Nat) (K : Int → Prop), Fr w w' → i < 64 → K (byteS b i) → ixa s.a s.n (i : Int) 1 fun a => ld (.I .u8) w' a K := by
    intro w' i K hf hi hK
    refine ixBc (c := b.getD i 0) hs.rd hs.len (by omega) ?_ hf hK
    rw [Int.toNat_natCast, List.getD_eq_getElem?_getD, List.getElem?_eq_getElem (by omega)]
    rfl
  refine lpI (fun s' w' => Fr w w' ∧ ∃ i : Nat, i ≤ 16 ∧ s'.1 = i ∧ w'.heap[a3]? = some (.cells (ints (spreadS b i ++ List.replicate (64 - i) 0)).toArray t_64_uint32 (0, 0)) ∧ w'.heap[a1]? = some (.cells (zrow 64 (.int .u32 0)).1.toArray t_64_uint32 (0, 0))) (fun s' _ => (16 - s'.1).toNat)
    ⟨hfa, 0, by decide, rfl, hb4, hf4.heap hb2⟩ ?_
  rintro _ ⟨i', ⟨⟩⟩ w6 ⟨hf6, i, hi, rfl, hb6, hc6⟩
  dsimp only
  have hsl := spreadS_length b i
  have put : ∀ (n : Nat) (v : Int) (w' : World) (K : World → Prop), n < 64 → Fr w w' → v = (if n < 16 then w16S b n else nextS (spreadS b n) n) → w'.heap[a3]? = some (.cells (ints (spreadS b n ++ List.replicate (64 - n) 0)).toArray t_64_uint32 (0, 0)) → w'.heap[a1]? = some (.cells (zrow 64 (.int .u32 0)).1.toArray t_64_uint32 (0, 0)) →
      (∀ w'', Fr w w'' → w''.heap[a3]? = some (.cells (ints (spreadS b (n + 1) ++ List.replicate (64 - (n + 1)) 0)).toArray t_64_uint32 (0, 0)) → w''.heap[a1]? = some (.cells (zrow 64 (.int .u32 0)).1.toArray t_64_uint32 (0, 0)) → K w'') → ixa (some ⟨a3, 0, none⟩) 64 (n : Int) 1 fun a => st1 w' a (.int .u32 v) K := by
    intro n v w' K hn hf hv h3 h1 hK
    have hln := spreadS_length b n
    refine ixSt h3 (by omega) (by omega) (by rw [ints_length, List.length_append, hln, List.length_replicate]; omega) fun w'' hb hg hsz => hK w'' (step hf hg) ?_ ?_
    · rw [hb]
      congr 4
      rw [spreadS, ← hv, Int.toNat_natCast]
      simp only [ints, List.map_append, List.map_cons, List.map_nil, List.map_replicate]
      rw [List.set_append_right _ _ (by rw [List.length_map]; omega), List.length_map, hln, Nat.sub_self, show 64 - n = (64 - (n + 1)) + 1 from by omega, List.replicate_succ]
      simp
    · rw [hg.block a1 (Array.getElem?_eq_some_iff.1 h1).1 (by simp; omega)]; exact h1
  refine bD ?_ ?_ <;> intro hlt
  · intro n2
    have hf9 := hf6.trans (Fr.drewN w6 n2)
    have hb9 : (w6.drewN n2).heap[a3]? = _ := hb6
    have hc9 : (w6.drewN n2).heap[a1]? = _ := hc6
    generalize w6.drewN n2 = w9 at *
    have e0 : IntKind.i64.wrap (4 * (i : Int)) = ((4 * i : Nat) : Int) := by rw [i64w (by omega) (by omega)]; omega
    have e1 : IntKind.i64.wrap (((4 * i : Nat) : Int) + 1) = ((4 * i + 1 : Nat) : Int) := by rw [i64w (by omega) (by omega)]; omega
    have e2 : IntKind.i64.wrap (((4 * i : Nat) : Int) + 2) = ((4 * i + 2 : Nat) : Int) := by rw [i64w (by omega) (by omega)]; omega
    have e3 : IntKind.i64.wrap (((4 * i : Nat) : Int) + 3) = ((4 * i + 3 : Nat) : Int) := by rw [i64w (by omega) (by omega)]; omega
    rw [e0, e1, e2, e3]
    refine byt w9 _ _ hf9 (by omega) (byt w9 _ _ hf9 (by omega) (byt w9 _ _ hf9 (by omega) (byt w9 _ _ hf9 (by omega) ?_)))
    refine put i _ w9 _ (by omega) hf9 (by rw [if_pos (by omega)]; rfl) hb9 hc9 fun w19 hf19 hb19 hc19 => ?_
    rw [i64w (by omega) (by omega)]
    exact ⟨⟨hf19, i + 1, by omega, rfl, hb19, hc19⟩, by omega⟩
  obtain rfl : i = 16 := by omega
  refine lpI (fun s' w' => Fr w w' ∧ ∃ i : Nat, 16 ≤ i ∧ i ≤ 64 ∧ s'.1 = i ∧ w'.heap[a3]? = some (.cells (ints (spreadS b i ++ List.replicate (64 - i) 0)).toArray t_64_uint32 (0, 0)) ∧ w'.heap[a1]? = some (.cells (zrow 64 (.int .u32 0)).1.toArray t_64_uint32 (0, 0))) (fun s' _ => (64 - s'.1).toNat)
    ⟨hf6, 16, by decide, by decide, rfl, hb6, hc6⟩ ?_
  rintro _ ⟨i', ⟨⟩⟩ w21 ⟨hf21, i, hi16, hi64, rfl, hb21, hc21⟩
  dsimp only
  have hln := spreadS_length b i
  have wrd : ∀ (w' : World) (k : Nat) (K : Int → Prop), w'.heap[a3]? = some (.cells (ints (spreadS b i ++ List.replicate (64 - i) 0)).toArray t_64_uint32 (0, 0)) → 1 ≤ k → k ≤ 16 → K ((spreadS b i).getD (i - k) 0) → ixa (some ⟨a3, 0, none⟩) 64 (IntKind.i64.wrap ((i : Int) - (k : Int))) 1 fun a => ld (.I .u32) w' a K := by
    intro w' k K hb hk hk2 hK
    rw [i64w (by omega) (by omega), show (i : Int) - (k : Int) = ((i - k : Nat) : Int) from by omega]
    refine ixW hb (by rw [List.length_append, hln, List.length_replicate]; omega) (by omega) ?_
    rw [List.getD_eq_getElem?_getD, List.getElem?_append_left (by omega), ← List.getD_eq_getElem?_getD]
    exact hK
  refine bD ?_ ?_ <;> intro hlt2
  · refine wrd w21 15 _ hb21 (by decide) (by decide) (wrd w21 2 _ hb21 (by decide) (by decide) ?_)
    intro n2
    have hf28 := hf21.trans (Fr.drewN w21 n2)
    have hb28 : (w21.drewN n2).heap[a3]? = _ := hb21
    have hc28 : (w21.drewN n2).heap[a1]? = _ := hc21
    generalize w21.drewN n2 = w28 at *
    refine (Rot_ok 7 (by decide) (by decide) (by decide)).mono ?_
    rintro _ _ ⟨rfl, rfl⟩
    refine (Rot_ok 18 (by decide) (by decide) (by decide)).mono ?_
    rintro _ _ ⟨rfl, rfl⟩
    refine (Rot_ok 17 (by decide) (by decide) (by decide)).mono ?_
    rintro _ _ ⟨rfl, rfl⟩
    refine (Rot_ok 19 (by decide) (by decide) (by decide)).mono ?_
    rintro _ _ ⟨rfl, rfl⟩
    intro n3
    have hf37 := hf28.trans (Fr.drewN w28 n3)
    have hb37 : (w28.drewN n3).heap[a3]? = _ := hb28
    have hc37 : (w28.drewN n3).heap[a1]? = _ := hc28
    generalize w28.drewN n3 = w37 at *
    refine wrd w37 16 _ hb37 (by decide) (by decide) (wrd w37 7 _ hb37 (by decide) (by decide) ?_)
    refine put i _ w37 _ (by omega) hf37 (by rw [if_neg (by omega)]; rfl) hb37 hc37 fun w43 hf43 hb43 hc43 => ?_
    rw [i64w (by omega) (by omega)]
    exact ⟨⟨hf43, i + 1, by omega, by omega, rfl, hb43, hc43⟩, by omega⟩
  · obtain rfl : i = 64 := by omega
    rw [Nat.sub_self, List.replicate_zero, List.append_nil] at hb21
    have h64 : (zrow 64 (.int .u32 0)).1.length = 64 := (zrow 64 (.int .u32 0)).2
    generalize (zrow 64 (.int .u32 0)).1 = z at *
    have hw64 : (ints (spreadS b 64)).length = 64 := by rw [ints_length, hln]
    have hone : ∀ v ∈ ints (spreadS b 64), v.oneCell' = true := fun v hv => by
      obtain ⟨x, _, rfl⟩ := List.mem_map.1 hv
      rfl
    generalize ints (spreadS b 64) = ws at *
    refine ldR0 hb21 hw64 ?_
    refine stL_row (cs := z) hc21 (by show 0 + ws.length ≤ z.length; omega) (fun v hv => by
      exact hone v hv) fun w45 hb45 hg45 hs45 => ?_
    have e : z.take 0 ++ ws ++ z.drop (0 + ws.length) = ws := by rw [List.drop_eq_nil_of_le (by omega)]; simp
    rw [e] at hb45
    exact ldR0 hb45 hw64 ⟨rfl, hf21.on (grown_below hg45 (by omega) hf21.size)⟩
theorem zero_state (w : World) : (zeroValue t_digest_state).run Tryd.prog w = .ok (.agg #[.int .u32 0, .int .u32 0, .int .u32 0, .int .u32 0, .int .u32 0, .int .u32 0, .int .u32 0, .int .u32 0]) w := run_zeroV (by kernel_rfl) w
theorem size_u32 (w : World) : (sizeOf t_uint32).run Tryd.prog w = .ok 1 w := by
  have h : (Tryd.prog.info? t_uint32).map (·.size) = some 1 := by kernel_rfl
  obtain ⟨i, hi, hs⟩ := Option.map_eq_some_iff.1 h
  simp [sizeOf, typeInfo, hi, hs]
theorem build_state (v0 v1 v2 v3 v4 v5 v6 v7 : Int) (w : World) : (Instr.build t_digest_state #[(0, .int .u32 v0), (1, .int .u32 v1), (2, .int .u32 v2), (3, .int .u32 v3), (4, .int .u32 v4), (5, .int .u32 v5), (6, .int .u32 v6), (7, .int .u32 v7)]).run Tryd.prog w = .ok (.agg (ints [v0, v1, v2, v3, v4, v5, v6, v7]).toArray) w := by
  simp [Instr.build, zero_state, run_underlying u_digest_state, size_u32, Instr.fill, Value.cells, ints]
theorem ints_one (l : List Int) : ∀ v ∈ ints l, v.oneCell' = true := fun v hv => by
  obtain ⟨x, _, rfl⟩ := List.mem_map.1 hv
  rfl
/-- A row of words is put into a new block. -/
theorem newRow {n : Nat} {l : List Int} {t : TypeId} {w : World} {K : Addr → World → Prop} (z : {l : List Value // l.length = n}) (hl : l.length = n)
    (h : ∀ a w', w.heap.size ≤ a → Fr w w' → a < w'.heap.size → w'.heap[a]? = some (.cells (ints l).toArray t (0, 0)) → K ⟨a, 0, none⟩ w') : nw w z.1 t fun a w2 => stL a w2 0 (ints l) fun w3 => K a w3 := by
  refine nwI fun a w2 ha hs hf hb _ => ?_
  refine stL_row (cs := z.1) hb (by rw [ints_length, hl, z.2]; omega) (ints_one l) fun w3 hb3 hg3 hs3 => h a w3 (by omega) (hf.on (grown_below hg3 (by omega) hf.size)) (by omega) ?_
  have e : z.1.take 0 ++ ints l ++ z.1.drop (0 + (ints l).length) = ints l := by rw [List.drop_eq_nil_of_le (by rw [ints_length, hl, z.2]; omega)]; simp
  rw [e] at hb3
  exact hb3
set_option maxHeartbeats 1000000 in
theorem stir_ok {s : Sl} {b : List UInt8} {w : World} {g : Nat} {h : List Int} {rest : List Value} {t : TypeId} {R : List Int} (hs : Bs w s b) (hl : b.length = 64) (hh : h.length = 8) (hg : w.heap[g]? = some (.cells (ints h ++ rest).toArray t (0, 0))) (hR : Glob w g_digest_rounds R) (hRl : R.length = 64) :
    cl Tryd.prog n_digest_state_stir #[.pointer (some ⟨g, 0, none⟩), .slice s.a s.n s.c] (.tup .nil) w fun (_ : Unit) w' => w'.heap[g]? = some (.cells (ints (stirS R h b) ++ rest).toArray t (0, 0)) ∧ w.grownBy w' (some g) := by
  refine digest_state_stir.cl ?_
  unfold digest_state_stir
  have hgl := (Array.getElem?_eq_some_iff.1 hg).1
  refine (spread_ok hs hl).mono ?_
  rintro ⟨x1, hx1⟩ w2 ⟨hx, hf2⟩
  dsimp only at hx
  have hwl := spreadS_length b 64
  obtain ⟨ws, hws⟩ : ∃ ws, spreadS b 64 = ws := ⟨_, rfl⟩
  rw [hws] at hx hwl
  subst hx
  refine newRow (l := ws) (zrow 64 (.int .u32 0)) hwl fun a3 w5 ha3 hf5 hl5 hb5 => ?_
  have hf5' := hf2.trans hf5
  show ld (.row 8) w5 ⟨g, 0, none⟩ _
  refine ldRow (vs := ints h) (hf5'.heap hg) (by rw [List.drop_zero, List.take_left' (by rw [ints_length, hh])]) (by rw [ints_length, hh]) ?_
  refine newRow (l := h) (zrow 8 (.int .u32 0)) hh fun a8 w10 ha8 hf10 hl10 hb10 => ?_
  have hf10' := hf5'.trans hf10
  have hs2 := hf2.size
  have hs5 := hf5.size
  refine lpI (fun s' w' => Fr w w' ∧ ∃ i : Nat, i ≤ 64 ∧ s'.1 = i ∧ w'.heap[a3]? = some (.cells (ints (ws)).toArray t_64_uint32 (0, 0)) ∧ w'.heap[a8]? = some (.cells (ints (roundsS R (ws) h i)).toArray t_digest_state (0, 0))) (fun s' _ => (64 - s'.1).toNat)
    ⟨hf10', 0, by decide, rfl, hf10.heap hb5, hb10⟩ ?_
  rintro _ ⟨i', ⟨⟩⟩ w12 ⟨hf12, i, hi, rfl, h3, h8⟩
  dsimp only
  have hrl := roundsS_length (K := R) (ws := ws) hh i
  generalize hX : roundsS R (ws) h i = X at *
  have xw : ∀ {w' : World} (k : Nat) {K : Int → Prop}, w'.heap[a8]? = some (.cells (ints X).toArray t_digest_state (0, 0)) → k < 8 → K (X.getD k 0) → ixa (some ⟨a8, 0, none⟩) 8 (k : Int) 1 fun a => ld (.I .u32) w' a K := fun k _ hb hk hK => ixW hb (by omega) hk hK
  refine bD ?_ ?_ <;> intro hlt
  · refine xw 0 h8 (by decide) (xw 4 h8 (by decide) ?_)
    intro n1
    have hf19 := hf12.trans (Fr.drewN w12 n1)
    have h3' : (w12.drewN n1).heap[a3]? = _ := h3
    have h8' : (w12.drewN n1).heap[a8]? = _ := h8
    generalize w12.drewN n1 = w19 at *
    refine (Rot_ok 6 (by decide) (by decide) (by decide)).mono ?_
    rintro _ _ ⟨rfl, rfl⟩
    refine (Rot_ok 11 (by decide) (by decide) (by decide)).mono ?_
    rintro _ _ ⟨rfl, rfl⟩
    refine (Rot_ok 25 (by decide) (by decide) (by decide)).mono ?_
    rintro _ _ ⟨rfl, rfl⟩
    refine xw 7 h8' (by decide) (xw 5 h8' (by decide) (xw 6 h8' (by decide) ?_))
    refine ixGlob (hR.fr hf19) (by omega) hRl ?_
    refine ixW h3' (by omega) (by omega) ?_
    intro n2
    have hf36 := hf19.trans (Fr.drewN w19 n2)
    have h3'' : (w19.drewN n2).heap[a3]? = _ := h3'
    have h8'' : (w19.drewN n2).heap[a8]? = _ := h8'
    generalize w19.drewN n2 = w36 at *
    refine (Rot_ok 2 (by decide) (by decide) (by decide)).mono ?_
    rintro _ _ ⟨rfl, rfl⟩
    refine (Rot_ok 13 (by decide) (by decide) (by decide)).mono ?_
    rintro _ _ ⟨rfl, rfl⟩
    refine (Rot_ok 22 (by decide) (by decide) (by decide)).mono ?_
    rintro _ _ ⟨rfl, rfl⟩
    refine xw 1 h8'' (by decide) (xw 2 h8'' (by decide) (xw 1 h8'' (by decide) (xw 2 h8'' (by decide) (xw 1 h8'' (by decide) (xw 2 h8'' (by decide) (xw 3 h8'' (by decide) (xw 5 h8'' (by decide) (xw 6 h8'' (by decide) ?_))))))))
    refine ⟨⟨ints (roundS X (R.getD i 0) ((ws).getD i 0)), rfl⟩, fun w' _ => build_state _ _ _ _ _ _ _ _ w', ?_⟩
    refine stL_row (cs := ints X) h8'' (by rw [ints_length, ints_length]; show 0 + 8 ≤ X.length; omega) (ints_one _) fun w62 hb62 hg62 hs62 => ?_
    have e : (ints X).take 0 ++ ints (roundS X (R.getD i 0) ((ws).getD i 0)) ++ (ints X).drop (0 + (ints (roundS X (R.getD i 0) ((ws).getD i 0))).length) = ints (roundsS R (ws) h (i + 1)) := by
      rw [List.drop_eq_nil_of_le (by rw [ints_length, ints_length]; show X.length ≤ 0 + 8; omega), roundsS, hX]
      simp
    rw [e] at hb62
    rw [i64w (by omega) (by omega)]
    have ha38 : a3 ≠ a8 := by omega
    refine ⟨⟨hf36.on (grown_below hg62 (by omega) hf36.size), i + 1, by omega, rfl, ?_, hb62⟩, by omega⟩
    rw [hg62.block a3 (Array.getElem?_eq_some_iff.1 h3'').1 (by simp; omega)]; exact h3''
  obtain rfl : i = 64 := by omega
  have hSl := stirS_length R h b
  have hSg : ∀ j, j < 8 → (stirS R h b).getD j 0 = w32 (h.getD j 0 + X.getD j 0) := by
    intro j hj
    rw [← hX, stirS, hws, List.getD_eq_getElem?_getD, List.getElem?_map, List.getElem?_range hj]
    rfl
  generalize stirS R h b = S at *
  refine lpI (fun s' w' => ∃ i : Nat, i ≤ 8 ∧ s'.1 = i ∧ w'.heap[a8]? = some (.cells (ints X).toArray t_digest_state (0, 0)) ∧ w'.heap[g]? = some (.cells (ints (S.take i ++ h.drop i) ++ rest).toArray t (0, 0)) ∧ w.grownBy w' (some g)) (fun s' _ => (8 - s'.1).toNat)
    ⟨0, by decide, rfl, h8, by simpa using hf12.heap hg, fr_grown hf12⟩ ?_
  rintro _ ⟨j', ⟨⟩⟩ w64 ⟨j, hj, rfl, k8, kg, kf⟩
  dsimp only
  refine bD ?_ ?_ <;> intro hlt2
  · intro n3
    have k8 : (w64.drewN n3).heap[a8]? = _ := k8
    have kg : (w64.drewN n3).heap[g]? = _ := kg
    have kf : w.grownBy (w64.drewN n3) (some g) := kf.trans ⟨rfl, rfl, rfl, Nat.le_refl _, fun _ _ _ => rfl⟩
    generalize w64.drewN n3 = w67 at *
    have hcur : (ints (S.take j ++ h.drop j) ++ rest)[j]? = some (.int .u32 (h.getD j 0)) := by
      rw [List.getElem?_append_left (by rw [ints_length, List.length_append, List.length_take, List.length_drop]; omega), ints, List.getElem?_map, List.getElem?_append_right (by rw [List.length_take]; omega), List.length_take, Nat.min_eq_left (by omega), Nat.sub_self, List.getElem?_drop, Nat.add_zero, List.getElem?_eq_getElem (by omega)]
      simp [List.getD_eq_getElem?_getD, List.getElem?_eq_getElem (show j < h.length by omega)]
    refine ixH kg (by omega) (by omega) (by rw [Int.toNat_natCast]; exact hcur) ?_
    refine xw j k8 (by omega) ?_
    refine ixSt kg (by omega) (by omega) (by rw [Int.toNat_natCast, List.length_append, ints_length, List.length_append, List.length_take, List.length_drop]; omega) fun w75 hb75 hg75 hs75 => ?_
    rw [i64w (by omega) (by omega)]
    refine ⟨⟨j + 1, by omega, rfl, ?_, ?_, kf.trans hg75⟩, by omega⟩
    · rw [hg75.block a8 (Array.getElem?_eq_some_iff.1 k8).1 (by simp; omega)]; exact k8
    · have hset : S.take (j + 1) ++ h.drop (j + 1) = (S.take j ++ h.drop j).set j (S.getD j 0) := by
        rw [List.set_append_right _ _ (by rw [List.length_take]; omega), List.length_take, Nat.min_eq_left (by omega), Nat.sub_self, List.drop_eq_getElem_cons (show j < h.length by omega), List.set_cons_zero, List.take_succ_eq_append_getElem (by omega), List.append_assoc]
        simp [List.getD_eq_getElem?_getD, List.getElem?_eq_getElem (show j < S.length by omega)]
      rw [hb75, Int.toNat_natCast, List.set_append_left _ _ (by rw [ints_length, List.length_append, List.length_take, List.length_drop]; omega), show IntKind.u32.wrap (h.getD j 0 + X.getD j 0) = S.getD j 0 from (hSg j (by omega)).symm, hset]
      simp only [ints, List.map_set]
  · obtain rfl : j = 8 := by omega
    refine ⟨?_, kf⟩
    rw [kg, List.take_of_length_le (by omega), List.drop_eq_nil_of_le (by omega), List.append_nil]
end Go.Proofs.YtkojpppnjloikaaDoor
