/- Layer 8 over lists: words of a block, rounds, the digest of bytes. No program is named here. -/
import Derived.Test.YtkojpppnjloikaaDoorFlMem
namespace Go.Fl

abbrev w32 (n : Int) : Int := IntKind.u32.wrap n
/-- A word turned to the right. -/
def rotS (x : Int) (k : Nat) : Int := bits .or .u32 (w32 (x * 2 ^ (32 - k))) (x / 2 ^ k)
def byteS (b : List UInt8) (i : Nat) : Int := ((b.getD i 0).toNat : Int)
def w16S (b : List UInt8) (i : Nat) : Int :=
  bits .or .u32 (bits .or .u32 (bits .or .u32 (w32 (w32 (byteS b (4 * i)) * 2 ^ 24)) (w32 (w32 (byteS b (4 * i + 1)) * 2 ^ 16))) (w32 (w32 (byteS b (4 * i + 2)) * 2 ^ 8))) (w32 (byteS b (4 * i + 3)))
def nextS (l : List Int) (n : Nat) : Int :=
  w32 (w32 (w32 (l.getD (n - 16) 0 + bits .xor .u32 (bits .xor .u32 (rotS (l.getD (n - 15) 0) 7) (rotS (l.getD (n - 15) 0) 18)) (l.getD (n - 15) 0 / 2 ^ 3)) + l.getD (n - 7) 0)
    + bits .xor .u32 (bits .xor .u32 (rotS (l.getD (n - 2) 0) 17) (rotS (l.getD (n - 2) 0) 19)) (l.getD (n - 2) 0 / 2 ^ 10))
/-- The words of a block, so many of them. -/
def spreadS (b : List UInt8) : Nat → List Int
  | 0 => []
  | n + 1 => spreadS b n ++ [if n < 16 then w16S b n else nextS (spreadS b n) n]
theorem spreadS_length (b : List UInt8) : ∀ n, (spreadS b n).length = n
  | 0 => rfl
  | n + 1 => by rw [spreadS, List.length_append, spreadS_length b n]; rfl
def tS (x : List Int) (k w : Int) : Int :=
  w32 (w32 (w32 (w32 (x.getD 7 0 + bits .xor .u32 (bits .xor .u32 (rotS (x.getD 4 0) 6) (rotS (x.getD 4 0) 11)) (rotS (x.getD 4 0) 25))
    + bits .xor .u32 (bits .and .u32 (x.getD 4 0) (x.getD 5 0)) (bits .and .u32 (bits .xor .u32 4294967295 (x.getD 4 0)) (x.getD 6 0))) + k) + w)
def uS (x : List Int) : Int :=
  w32 (bits .xor .u32 (bits .xor .u32 (rotS (x.getD 0 0) 2) (rotS (x.getD 0 0) 13)) (rotS (x.getD 0 0) 22)
    + bits .xor .u32 (bits .xor .u32 (bits .and .u32 (x.getD 0 0) (x.getD 1 0)) (bits .and .u32 (x.getD 0 0) (x.getD 2 0))) (bits .and .u32 (x.getD 1 0) (x.getD 2 0)))
def roundS (x : List Int) (k w : Int) : List Int :=
  [w32 (tS x k w + uS x), x.getD 0 0, x.getD 1 0, x.getD 2 0, w32 (x.getD 3 0 + tS x k w), x.getD 4 0, x.getD 5 0, x.getD 6 0]
def roundsS (K ws : List Int) (h : List Int) : Nat → List Int
  | 0 => h
  | n + 1 => roundS (roundsS K ws h n) (K.getD n 0) (ws.getD n 0)
theorem roundsS_length {K ws h : List Int} (hh : h.length = 8) : ∀ n, (roundsS K ws h n).length = 8
  | 0 => hh
  | n + 1 => rfl
/-- A block is taken in. -/
def stirS (K h : List Int) (b : List UInt8) : List Int := (List.range 8).map fun i => w32 (h.getD i 0 + (roundsS K (spreadS b 64) h 64).getD i 0)
theorem stirS_length (K h : List Int) (b : List UInt8) : (stirS K h b).length = 8 := by simp [stirS]
/-- All whole blocks are taken in: the state, and what is left. -/
def allS (K : List Int) : Nat → List Int → List UInt8 → List Int × List UInt8
  | 0, h, l => (h, l)
  | f + 1, h, l => if l.length < 64 then (h, l) else allS K f (stirS K h (l.take 64)) (l.drop 64)
def zerosS : Nat → List UInt8 → List UInt8
  | 0, l => l
  | f + 1, l => if l.length % 64 = 56 then l else zerosS f (l ++ [0])
def lenS (n : Nat) : List UInt8 := (List.range 8).map fun i => UInt8.ofNat (n * 8 / 2 ^ (56 - 8 * i))
def outS (h : List Int) : List UInt8 := (List.range 32).map fun i => UInt8.ofNat ((h.getD (i / 4) 0).toNat / 2 ^ (24 - 8 * (i % 4)))
/-- The digest of bytes. -/
def digS (F K : List Int) (b : List UInt8) : List UInt8 :=
  let s := allS K (b.length + 1) F b
  let e := zerosS 64 (s.2 ++ [128]) ++ lenS b.length
  outS (allS K (e.length + 1) s.1 e).1
/-- A row of words that is there. -/
def Glob (w : World) (g : Nat) (l : List Int) : Prop := ∀ i (h : i < l.length), w.cell? ⟨g, i, none⟩ = some (.int .u32 l[i])
theorem Glob.fr {w w' : World} {g : Nat} {l : List Int} (h : Glob w g l) (hf : Fr w w') : Glob w' g l := fun i hi => by
  have hb := World.block_lt_of_cell? w _ (h i hi)
  have e : w'.heap[g]? = w.heap[g]? := hf.block g hb
  exact (World.cell?_of_block (w := w) (by exact e)).trans (h i hi)
theorem Glob.grown {w w' : World} {g q : Nat} {l : List Int} (h : Glob w q l) (hg : w.grownBy w' (some g)) (hne : g ≠ q) : Glob w' q l := fun i hi => by
  have hb := World.block_lt_of_cell? w _ (h i hi)
  have e : w'.heap[q]? = w.heap[q]? := hg.block q hb (by simp; omega)
  exact (World.cell?_of_block (w := w) (by exact e)).trans (h i hi)
theorem nzI {a : Addr} {K : Addr → Prop} (h : K a) : nz (some a) K := h
def ints (l : List Int) : List Value := l.map (Value.int .u32)
theorem ints_length (l : List Int) : (ints l).length = l.length := by simp [ints]
/-- A row in a known block. -/
theorem ldRow {w : World} {g i n : Nat} {cs vs : List Value} {t : TypeId} {f : Nat × Nat} {K : {l : List Value // l.length = n} → Prop} (h : w.heap[g]? = some (.cells cs.toArray t f)) (hv : (cs.drop i).take n = vs) (hn : vs.length = n) (k : K ⟨vs, hn⟩) : ld (.row n) w ⟨g, i, none⟩ K := by
  refine ⟨⟨vs, hn⟩, fun j hj => ?_, k⟩
  rw [addOff, cell_of_row w g (i + j) cs.toArray t f h]
  have e : (cs.drop i)[j]? = some vs[j] := by
    have : ((cs.drop i).take n)[j]? = some vs[j] := by rw [hv]; exact List.getElem?_eq_getElem hj
    rw [List.getElem?_take] at this
    split at this
    · exact this
    · cases this
  rw [List.getElem?_drop] at e
  simpa using e
theorem ldGlob {w : World} {g n : Nat} {l : List Int} {K : {l : List Value // l.length = n} → Prop} (h : Glob w g l) (hn : l.length = n) (k : K ⟨ints l, by rw [ints_length, hn]⟩) : ld (.row n) w ⟨g, 0, none⟩ K := by
  refine ⟨⟨ints l, by rw [ints_length, hn]⟩, fun j hj => ?_, k⟩
  rw [addOff, Nat.zero_add]
  have := h j (by rw [← ints_length]; exact hj)
  simpa [ints] using this
theorem ixGlob {w : World} {g n : Nat} {l : List Int} {i : Nat} {K : Int → Prop} (h : Glob w g l) (hi : i < l.length) (hn : l.length = n) (k : K (l.getD i 0)) : ixa (some ⟨g, 0, none⟩) n (i : Int) 1 fun a => ld (.I .u32) w a K := by
  refine ⟨by omega, by omega, ?_⟩
  show ld (.I .u32) w (atOff ⟨g, 0, none⟩ (i : Int) 1) K
  rw [atH, Int.toNat_natCast]
  refine ⟨_, h i hi, ?_⟩
  rw [List.getD_eq_getElem?_getD, List.getElem?_eq_getElem hi, Option.getD_some] at k
  exact k
/-- A word of a row of a known block. -/
theorem ixW {w : World} {g n : Nat} {l : List Int} {t : TypeId} {f : Nat × Nat} {i : Nat} {K : Int → Prop} (h : w.heap[g]? = some (.cells (ints l).toArray t f)) (hi : i < l.length) (hn : i < n) (k : K (l.getD i 0)) : ixa (some ⟨g, 0, none⟩) n (i : Int) 1 fun a => ld (.I .u32) w a K :=
  ixH h (by omega) (by omega) (by
    rw [Int.toNat_natCast, ints, List.getElem?_map, List.getElem?_eq_getElem hi]
    simp [List.getD_eq_getElem?_getD, List.getElem?_eq_getElem hi]) k
def F0 : List Int := [1779033703, 3144134277, 1013904242, 2773480762, 1359893119, 2600822924, 528734635, 1541459225]
def K0 : List Int := [1116352408, 1899447441, 3049323471, 3921009573, 961987163, 1508970993, 2453635748, 2870763221, 3624381080, 310598401, 607225278, 1426881987, 1925078388, 2162078206, 2614888103, 3248222580, 3835390401, 4022224774, 264347078, 604807628, 770255983, 1249150122, 1555081692, 1996064986, 2554220882, 2821834349, 2952996808, 3210313671, 3336571891, 3584528711, 113926993, 338241895, 666307205, 773529912, 1294757372, 1396182291, 1695183700, 1986661051, 2177026350, 2456956037, 2730485921, 2820302411, 3259730800, 3345764771, 3516065817, 3600352804, 4094571909, 275423344, 430227734, 506948616, 659060556, 883997877, 958139571, 1322822218, 1537002063, 1747873779, 1955562222, 2024104815, 2227730452, 2361852424, 2428436474, 2756734187, 3204031479, 3329325298]
abbrev dig (b : List UInt8) : List UInt8 := digS F0 K0 b
theorem w32_nn (n : Int) : 0 ≤ w32 n := by unfold w32; rw [u32w]; omega
theorem stirS_nn (K h : List Int) (b : List UInt8) : ∀ x ∈ stirS K h b, 0 ≤ x := fun x hx => by
  obtain ⟨i, _, rfl⟩ := List.mem_map.1 hx
  exact w32_nn _
theorem allS_nn {K : List Int} : ∀ {f : Nat} {h : List Int} {l : List UInt8}, (∀ x ∈ h, 0 ≤ x) → ∀ x ∈ (allS K f h l).1, 0 ≤ x
  | 0, h, l, hh => hh
  | f + 1, h, l, hh => by
    unfold allS
    split
    · exact hh
    · exact allS_nn (stirS_nn _ _ _)
theorem allS_length {K : List Int} : ∀ {f : Nat} {h : List Int} {l : List UInt8}, h.length = 8 → (allS K f h l).1.length = 8
  | 0, h, l, hh => hh
  | f + 1, h, l, hh => by
    unfold allS
    split
    · exact hh
    · exact allS_length (stirS_length _ _ _)
theorem allS_any {K : List Int} : ∀ {f g : Nat} {h : List Int} {l : List UInt8}, l.length < f → l.length < g → allS K f h l = allS K g h l
  | 0, g, h, l, hf, _ => by omega
  | f + 1, 0, h, l, _, hg => by omega
  | f + 1, g + 1, h, l, hf, hg => by
    rw [allS, allS]
    split
    · rfl
    · exact allS_any (by rw [List.length_drop]; omega) (by rw [List.length_drop]; omega)
theorem allS_rest {K : List Int} : ∀ {f : Nat} {h : List Int} {l : List UInt8}, l.length < f → (allS K f h l).2.length < 64 ∧ (allS K f h l).2.length ≤ l.length
  | 0, h, l, hf => by omega
  | f + 1, h, l, hf => by
    rw [allS]
    split
    · exact ⟨by assumption, Nat.le_refl _⟩
    · have := allS_rest (K := K) (f := f) (h := stirS K h (l.take 64)) (l := l.drop 64) (by rw [List.length_drop]; omega)
      rw [List.length_drop] at this
      omega
theorem zerosS_len : ∀ {f : Nat} {l : List UInt8}, (120 - l.length % 64) % 64 ≤ f → (zerosS f l).length = l.length + (120 - l.length % 64) % 64
  | 0, l, h => by unfold zerosS; omega
  | f + 1, l, h => by
    unfold zerosS
    split
    · omega
    · have e : (l ++ [(0 : UInt8)]).length = l.length + 1 := by simp
      have := zerosS_len (f := f) (l := l ++ [0]) (by rw [e]; omega)
      rw [this, e]
      omega
theorem lenS_length (n : Nat) : (lenS n).length = 8 := by simp [lenS]
theorem outS_length (h : List Int) : (outS h).length = 32 := by simp [outS]
theorem dig_length (b : List UInt8) : (dig b).length = 32 := outS_length _
end Go.Fl
