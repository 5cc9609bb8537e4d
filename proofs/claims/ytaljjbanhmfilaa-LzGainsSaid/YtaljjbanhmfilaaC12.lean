/- Contracts: bytes.Repeat of few bytes; LzGains. -/
import Derived.Test.YtaljjbanhmfilaaL7
import Derived.Test.YtaljjbanhmfilaaFlLz3
import Derived.Lib.MakeNoZero
import Derived.Laws.CopyRow
import Derived.Laws.Externs
namespace Go.Proofs.Ytaljjbanhmfilaa
open Go.RowKit Go.Fl Go.Lib

theorem Mul_small {x y : Nat} (hx : x ≤ 65535) (hy : y ≤ 65535) {w : World} : cl Try.prog n_math_bits_Mul #[.int .u64 (x : Int), .int .u64 (y : Int)] (.tup (.pair (.I .u64) (.pair (.I .u64) .nil))) w fun (r : Int × Int × Unit) w' => r = (0, ((x * y : Nat) : Int), ()) ∧ w = w' := by
  have hxy : x * y ≤ 65535 * 65535 := Nat.mul_le_mul hx hy
  refine math_bits_Mul.cl ?_
  unfold math_bits_Mul
  refine math_bits_Mul64.cl ?_
  unfold math_bits_Mul64
  have m : ∀ z : Nat, z ≤ 4294967295 → bits .and .u64 (z : Int) 4294967295 = (z : Int) := by
    intro z hz
    have := u64_and_nat z (2 ^ 32 - 1) (by omega) (by decide)
    rw [Nat.and_two_pow_sub_one_eq_mod, Nat.mod_eq_of_lt (by omega)] at this
    exact this
  have p32 : (2 : Int) ^ (min 32 64) = 4294967296 := by decide
  refine ⟨?_, rfl⟩
  rw [p32, m x (by omega), m y (by omega), show (x : Int) / 4294967296 = 0 from by omega, show (y : Int) / 4294967296 = 0 from by omega]
  simp only [Int.zero_mul, Int.mul_zero]
  rw [show (x : Int) * (y : Int) = ((x * y : Nat) : Int) from by simp]
  generalize x * y = z at *
  have z0 : IntKind.u64.wrap 0 = 0 := by decide
  rw [z0, u64w (n := ((z : Nat) : Int)) (by omega) (by omega), show ((z : Nat) : Int) / 4294967296 = 0 from by omega]
  simp only [Int.zero_add, z0]
  have a0 : bits .and .u64 0 4294967295 = 0 := by decide
  rw [a0]
  simp only [Int.zero_add]
  simp only [show (0 : Int) / 4294967296 = 0 from by decide, z0, Int.add_zero]
/-- copy of bytes into a known block. -/
theorem cpB {P : Program} {t ty e : TypeId} (hT : SlT P t e 1 1) {w : World} {g o dn dc : Nat} {x : Sl} {cs : List Value} {te : TypeId} {m : List UInt8} (hg : w.heap[g]? = some (.cells cs.toArray te (0, 0))) (hx : Rd w x.a (u8s m)) (hm : m.length = min x.n dn) (hm0 : 0 < m.length) (hfit : o + m.length ≤ cs.length)
    {K : Int → World → Prop} (h : ∀ w', w'.heap[g]? = some (.cells (cs.take o ++ u8s m ++ cs.drop (o + m.length)).toArray te (0, 0)) → w.grownBy w' (some g) → w'.heap.size = w.heap.size → K (m.length : Int) w') :
    rn P (Builtin.copy_ #[t, t] ty #[.slice (some ⟨g, o, none⟩) dn dc, .slice x.a x.n x.c]) (.I .i64) w K := by
  obtain ⟨i, z, hi, hz, hsize, hby, hzs⟩ := hT.info
  obtain ⟨ad, ha, _⟩ := hx.u8 (i := 0) hm0
  have hl : (u8s m).length = m.length := u8s_length m
  have hrun := run_copy_row (P := P) w t t ty e g o dn dc ad x.n x.c cs.toArray te (u8s m) hT.under (by rw [hi]; simp [hsize]) hg (by rw [hl, hm]) (fun j v hj => by
    obtain ⟨ad', ha', hc⟩ := hx j v hj
    rw [ha] at ha'
    cases ha'
    exact hc) (by rw [hl]; simpa using hfit) (u8s_one m)
  rw [hl] at hrun
  refine ⟨(m.length : Int), w.setRow g ((cs.toArray.toList.take o ++ u8s m ++ cs.toArray.toList.drop (o + m.length)).toArray), by rw [ha]; exact hrun, h _ ?_ ⟨rfl, rfl, rfl, by simp [World.setRow], fun k _ hk => ?_⟩ (by simp [World.setRow])⟩
  · have := setRow_heap w g cs.toArray ((cs.toArray.toList.take o ++ u8s m ++ cs.toArray.toList.drop (o + m.length)).toArray) te (0, 0) hg
    simpa using this
  · have : g ≠ k := fun e => hk (by rw [e])
    simp [World.setRow, Array.getElem?_modify, this]
theorem Repeat_ok {s : Sl} {l : List UInt8} {n : Nat} {w : World} (hs : Bs w s l) (h1 : 1 ≤ l.length) (h60 : l.length ≤ 60) (hn : n < 20) :
    cl Try.prog n_bytes_Repeat #[.slice s.a s.n s.c, .int .i64 (n : Int)] .L w fun (r : Sl) w' => Bs w' r (repS l n) ∧ Fr w w' := by
  refine bytes_Repeat.cl ?_
  unfold bytes_Repeat
  have hsn := hs.len
  refine bE ?_ ?_ <;> intro h0
  · obtain rfl : n = 0 := by omega
    refine nwI fun b w2 hb hsz hf hblk _ => ⟨⟨Rd.nil _ _, rfl, Nat.le_refl _⟩, hf⟩
  have hN : l.length * n ≤ 60 * 20 := Nat.mul_le_mul h60 (by omega)
  have hN1 : l.length * 1 ≤ l.length * n := Nat.mul_le_mul_left _ (by omega)
  refine bN (by omega) ?_
  rw [u64w (by omega) (by omega), u64w (by omega) (by omega), hsn]
  refine (Mul_small (x := l.length) (y := n) (by omega) (by omega)).mono ?_
  rintro _ _ ⟨rfl, rfl⟩
  have hR := repS_length l n
  generalize hNN : l.length * n = N at *
  dsimp -zeta only
  refine bN (by decide) (bN (by omega) (bF (by rw [beq_eq_false_iff_ne]; omega) ?_))
  rw [i64w (n := ((N : Nat) : Int)) (by omega) (by omega)]
  intro j1
  refine bN (by omega) ?_
  show ex Try.prog n_internal_bytealg_MakeNoZero _ .L w _
  obtain ⟨cs, hrun, hcs, hcm⟩ := run_makeNoZero (P := Try.prog) w #[t_int] t_s_uint8 t_uint8 u_s_uint8 N (by omega)
  refine ⟨⟨some ⟨w.heap.size, 0, none⟩, N, cs.size⟩, w.drew.drew.alloc (.cells cs t_uint8), ?_, ?_⟩
  · rw [run_callFunc_extern b_internal_bytealg_MakeNoZero (by kernel_rfl) (by kernel_rfl) (by kernel_rfl) (e := Extern.BytealgMakeNoZero.makeNoZero #[t_int] #[t_s_uint8]) (by kernel_rfl), hrun]
    rfl
  have hf4 : Fr w (w.drew.drew.alloc (.cells cs t_uint8)) := (show Fr w w.drew.drew from ⟨rfl, rfl, rfl, Nat.le_refl _, fun _ _ => rfl⟩).trans (Fr.alloc _ _)
  have hg4 : (w.drew.drew.alloc (.cells cs t_uint8)).heap[w.heap.size]? = some (.cells cs.toList.toArray t_uint8 (0, 0)) := heap_alloc_new w.drew.drew _
  have hcl : cs.toList.length = cs.size := by simp
  generalize w.drew.drew.alloc (.cells cs t_uint8) = w4 at *
  generalize cs.toList = c0 at *
  refine ⟨⟨some ⟨w.heap.size, 0, none⟩, N, N⟩, fun w' _ => ?_, ?_⟩
  · have := run_sls3 slB w' ⟨some ⟨w.heap.size, 0, none⟩, N, cs.size⟩ (lo := none) (l := 0) (h := (N : Int)) (.inl ⟨rfl, rfl⟩) (by decide) (by omega) (by dsimp only; omega)
    rw [this]
    rw [if_neg (by omega)]
    rfl
  have hl4 := hs.fr hf4
  refine cpB slB (o := 0) (x := ⟨s.a, l.length, s.c⟩) hg4 hl4.rd (by show l.length = min l.length N; omega) (by omega) (by omega) fun w27 hg27 hgr27 hs27 => ?_
  rw [List.take_zero, List.nil_append, Nat.zero_add] at hg27
  have hlow : ∀ {u : World}, Fr w u → ∀ {u' : World}, u.grownBy u' (some w.heap.size) → Fr w u' := fun hf _ hg => hf.on (grown_below hg (Nat.le_refl _) hf.size)
  refine lpI (fun s' w' => Fr w w' ∧ ∃ (q : Nat) (c : List Value), l.length * q ≤ N ∧ s'.1 = ((l.length * q : Nat) : Int) ∧ 1 ≤ q ∧ c.length = c0.length ∧ w'.heap[w.heap.size]? = some (.cells c.toArray t_uint8 (0, 0)) ∧ c.take (l.length * q) = u8s ((repS l n).take (l.length * q))) (fun s' _ => (N - s'.1).toNat)
    ⟨hlow hf4 hgr27, 1, _, by omega, by simp, Nat.le_refl _, by simp [u8s_length]; omega, hg27, ?_⟩ ?_
  · rw [Nat.mul_one, List.take_left' (u8s_length l)]
    have : n = (n - 1) + 1 := by omega
    rw [this, repS, List.take_left' rfl]
  rintro _ ⟨i', ⟨⟩⟩ w29 ⟨hf29, q, c, hq, rfl, hq1, hcl2, hg29, ht⟩
  dsimp only
  have rdT : ∀ (u : World) (k : Nat), u.heap[w.heap.size]? = some (.cells c.toArray t_uint8 (0, 0)) → k ≤ l.length * q → Rd u (some ⟨w.heap.size, 0, none⟩) (u8s ((repS l n).take k)) := fun u k hu hk j v hv => by
    refine ⟨_, rfl, ?_⟩
    rw [addOff, Nat.zero_add, cell_of_row u w.heap.size j c.toArray t_uint8 (0, 0) hu]
    have e : (u8s ((repS l n).take k)) = c.take k := by
      have := congrArg (List.take k) ht
      rw [List.take_take, Nat.min_eq_left hk] at this
      rw [this]
      simp only [u8s, ← List.map_take, List.take_take, Nat.min_eq_left hk]
    rw [e, List.getElem?_take] at hv
    split at hv
    · simpa using hv
    · cases hv
  refine bD ?_ ?_ <;> intro hlt
  · intro n2
    have hg32 : (w29.drewN n2).heap[w.heap.size]? = some (.cells c.toArray t_uint8 (0, 0)) := hg29
    have hf32 := hf29.trans (Fr.drewN w29 n2)
    generalize w29.drewN n2 = w32 at *
    have hbp1 : 1 ≤ l.length * q := Nat.mul_pos h1 hq1
    generalize hbp : l.length * q = bp at *
    refine ⟨by omega, by omega, by dsimp only; omega, ?_⟩
    refine ⟨by omega, by omega, by dsimp only; omega, ?_⟩
    have e33 : cut ⟨some ⟨w.heap.size, 0, none⟩, N, N⟩ ((bp : Nat) : Int).toNat ((N : Nat) : Int).toNat 1 = ⟨some ⟨w.heap.size, bp, none⟩, N - bp, N - bp⟩ := by
      rw [Int.toNat_natCast, Int.toNat_natCast]
      unfold cut
      rw [if_neg (by dsimp only; omega)]
      show Sl.mk (some (atOff ⟨w.heap.size, 0, none⟩ _ 1)) _ _ = _
      rw [atH, Int.toNat_natCast]
    have e34 : cut ⟨some ⟨w.heap.size, 0, none⟩, N, N⟩ (0 : Int).toNat (min ((bp : Nat) : Int) ((N : Nat) : Int)).toNat 1 = ⟨some ⟨w.heap.size, 0, none⟩, bp, N⟩ := by
      rw [show (min ((bp : Nat) : Int) ((N : Nat) : Int)).toNat = bp from by omega]
      unfold cut
      rw [if_neg (by simp; omega)]
      show Sl.mk (some (atOff ⟨w.heap.size, 0, none⟩ _ 1)) _ _ = _
      rw [atH]
      rfl
    rw [e33, e34]
    have hml : ((repS l n).take (min bp (N - bp))).length = min bp (N - bp) := by rw [List.length_take]; omega
    refine cpB slB (m := (repS l n).take (min bp (N - bp))) hg32 (rdT w32 _ hg32 (by omega)) hml (by omega) (by omega) fun w36 hg36 hgr36 hs36 => ?_
    rw [hml, i64w (by omega) (by omega)]
    have eq : l.length * (if bp ≤ N - bp then 2 * q else n) = bp + min bp (N - bp) := by
      split
      · rw [show l.length * (2 * q) = 2 * (l.length * q) from by rw [Nat.mul_left_comm], hbp]; omega
      · rw [hNN]; omega
    refine ⟨⟨hlow hf32 hgr36, if bp ≤ N - bp then 2 * q else n, _, by rw [eq]; omega, by rw [eq]; omega, by split <;> omega, ?_, hg36, ?_⟩, by omega⟩
    · rw [hml]
      simp only [List.length_append, List.length_take, List.length_drop, u8s_length]
      omega
    · rw [eq, ht]
      have hR2 : (repS l n).take (bp + min bp (N - bp)) = (repS l n).take bp ++ (repS l n).take (min bp (N - bp)) := by
        rw [List.take_add]
        congr 1
        apply List.ext_getElem?
        intro j
        rw [List.getElem?_take, List.getElem?_take]
        split
        · rw [List.getElem?_drop, repS_get l (by omega), repS_get l (by omega), ← hbp, Nat.mul_add_mod]
        · rfl
      rw [hR2, ← u8s_append]
      rw [List.take_left']
      rw [u8s_length, List.length_append, hml, List.length_take]
      omega
  · have hqN : l.length * q = N := by omega
    refine ⟨⟨?_, by dsimp only; omega, Nat.le_refl _⟩, hf29⟩
    have := rdT w29 N hg29 (by omega)
    rwa [List.take_of_length_le (by omega)] at this
theorem LzGains_law {w : World} {a0 : Option Addr} {len0 cap0 : Nat} {z0 : List Int} {a1 : Int} (w0 : RowK .u8 w a0 len0 cap0 z0) (w1 : (Lit.int .i64 a1).wf = true) :
    Calls Try.prog n_flumelaw07_LzGains #[.slice a0 len0 cap0, .int .i64 a1] w fun e w' => e = .returned (.bool true) ∧ Below w.heap.size w w' := lawE (by
  obtain ⟨l, hs⟩ := rowB w0
  have hi := wfI64 w1
  refine flumelaw07_LzGains.cl (p0 := ⟨a0, len0, cap0⟩) ?_
  unfold flumelaw07_LzGains
  have hl : len0 = l.length := hs.len
  refine bD (fun _ => aw7 (Fr.refl w)) (fun hle => bD (fun _ => aw7 (Fr.refl w)) (fun hle2 => ?_))
  dsimp only at hle hle2
  obtain ⟨n, hn, hnl⟩ : ∃ n : Nat, IntKind.i64.wrap (Int.tmod (IntKind.u64.wrap a1) 20) = n ∧ n < 20 := by
    have hu : 0 ≤ IntKind.u64.wrap a1 := by simp only [IntKind.wrap, IntKind.bits, IntKind.signed]; simp; omega
    generalize IntKind.u64.wrap a1 = u at *
    rw [Int.tmod_eq_emod_of_nonneg hu, i64w (by omega) (by omega)]
    exact ⟨(u % 20).toNat, by omega, by omega⟩
  rw [hn]
  refine (Repeat_ok hs (by omega) (by omega) hnl).mono ?_
  rintro x5 w6 ⟨h5, hf6⟩
  have h5l := h5.len
  have hR := repS_length l n
  have hN : l.length * n ≤ 60 * 20 := Nat.mul_le_mul (by omega) (by omega)
  refine (Shorten_ok h5 (by omega)).mono ?_
  rintro x7 w8 ⟨h7, hf8⟩
  have h7l := h7.len
  have hg := short_gains (L := l.length) (repS_per l n) (by omega) (by omega) (by
    cases n with
    | zero => left; rfl
    | succ n => right; rw [hR, Nat.mul_succ]; omega)
  dsimp only
  have e66 : Int.tdiv (x5.n : Int) 66 = ((x5.n / 66 : Nat) : Int) := by rw [Int.ofNat_tdiv]; rfl
  rw [← h5l] at hg
  have hd : x5.n / 66 ≤ x5.n := Nat.div_le_self _ _
  rw [e66]
  generalize x5.n / 66 = d at *
  rw [i64w (n := (d : Int)) (by omega) (by omega), i64w (n := (d : Int) + 2) (by omega) (by omega), i64w (n := 3 * ((d : Int) + 2)) (by omega) (by omega), i64w (n := (len0 : Int) + 1) (by omega) (by omega), i64w (by omega) (by omega)]
  exact bP (by omega) (aw7 (hf6.trans hf8)))
end Go.Proofs.Ytaljjbanhmfilaa
