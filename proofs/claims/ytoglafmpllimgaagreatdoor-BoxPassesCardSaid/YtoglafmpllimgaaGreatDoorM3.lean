/- Contracts and plain laws that the claims of this seat lean on, put together. -/
import Derived.Test.YtoglafmpllimgaaGreatDoorM2
import Derived.Laws.LoneSync
namespace Go.Proofs.YtoglafmpllimgaaGreatDoor
open Go.RowKit Go.Fl

/-- Where a tunnel's parts lie. -/
structure Shp where
  way : Sl
  queue : Sl
  out : Sl
  r : Option Nat
def tunC (t : Tn) (x : Shp) : y_tunnel_Tunnel := ((t.up, t.sil, t.next, x.way, x.queue, t.expect, x.r, ()), t.me, t.you, t.epoch, t.ticks, x.out, ())
abbrev tunL (t : Tn) (x : Shp) : List Value := (Kd.av k_tunnel_Tunnel (tunC t x)).cells
abbrev WayH := List (Int × Sl × Int)
def wayV (hs : WayH) : List Value := hs.flatMap fun a => [.int .i64 a.1, slV a.2.1, .int .i64 a.2.2]
theorem wayV_length (hs : WayH) : (wayV hs).length = hs.length * 3 := by
  induction hs with
  | nil => rfl
  | cons a l ih => unfold wayV at *; rw [List.flatMap_cons, List.length_append, ih]; simp; omega
theorem wayV_one (hs : WayH) : ∀ v ∈ wayV hs, v.oneCell' = true := by
  intro v hv
  simp only [wayV, List.mem_flatMap, List.mem_cons, List.not_mem_nil, or_false] at hv
  obtain ⟨a, _, rfl | rfl | rfl⟩ := hv <;> rfl
/-- A row of frames on the way. -/
structure WayR (w : World) (Z : Nat → Prop) (s : Sl) (hs : WayH) (ls : List (Int × List UInt8 × Int)) : Prop where
  rd : Rd w s.a (wayV hs)
  len : s.n = hs.length
  cap : s.n ≤ s.c
  cold : hs ≠ [] → ∀ ad, s.a = some ad → ¬Z ad.block
  all : All2 (fun a b => a.1 = b.1 ∧ Cb w Z a.2.1 b.2.1 ∧ a.2.2 = b.2.2) hs ls
theorem wayV_ne {hs : WayH} (h : wayV hs ≠ []) : hs ≠ [] := fun e => h (by rw [e]; rfl)
theorem wayV_ne' {hs : WayH} (h : hs ≠ []) : wayV hs ≠ [] := fun e => h (by
  have := congrArg List.length e
  rw [wayV_length] at this
  simp only [List.length_nil] at this
  exact List.eq_nil_of_length_eq_zero (by omega))
theorem WayR.mv {F Z Z' : Nat → Prop} {w w' : World} {s : Sl} {hs : WayH} {ls : List (Int × List UInt8 × Int)} (h : WayR w Z s hs ls) (hm : Mv F w w') (hF : ∀ k, F k → Z k ∨ w.heap.size ≤ k) (hZ : ∀ k, Z' k → Z k ∨ w.heap.size ≤ k) : WayR w' Z' s hs ls := by
  have hlt : hs ≠ [] → ∀ ad, s.a = some ad → ad.block < w.heap.size := fun hl => h.rd.lt (wayV_ne' hl)
  refine ⟨h.rd.mv hm fun hx ad ha hf => ?_, h.len, h.cap, fun hl ad ha hz => ?_, h.all.mono fun a b _ _ hr => ⟨hr.1, hr.2.1.mv hm hF hZ, hr.2.2⟩⟩
  · rcases hF _ hf with h1 | h1
    · exact h.cold (wayV_ne hx) ad ha h1
    · have := hlt (wayV_ne hx) ad ha; omega
  · rcases hZ _ hz with h1 | h1
    · exact h.cold hl ad ha h1
    · have := hlt hl ad ha; omega
theorem WayR.nil (w : World) (Z : Nat → Prop) (c : Nat) : WayR w Z ⟨none, 0, c⟩ [] [] := ⟨Rd.nil _ _, rfl, Nat.zero_le _, fun h => absurd rfl h, trivial⟩
theorem WayR.count {w : World} {Z : Nat → Prop} {s : Sl} {hs : WayH} {ls : List (Int × List UInt8 × Int)} (h : WayR w Z s hs ls) : s.n = ls.length := by rw [h.len, h.all.length]
/-- Messages that came early: each in a block of its own. -/
structure EarlyM (w : World) (F : Nat → Prop) (g : Nat) (out : Sl) (m : Nat) (e : Int → Option (List UInt8)) (f : Int → Option Value) (sl : Int → Sl) : Prop where
  map : MapF (Value.int .i64) w m f
  fm : F m
  ne : m ≠ g ∧ ∀ o, out.a = some o → o.block ≠ m
  no : ∀ k, e k = none → f k = none
  yes : ∀ k b, e k = some b → f k = some (slV (sl k)) ∧ OwB w 0 t_uint8 (sl k) b
  blk : ∀ k b, e k = some b → ∀ ad, (sl k).a = some ad → F ad.block ∧ ad.block ≠ g ∧ ad.block ≠ m ∧ ∀ o, out.a = some o → o.block ≠ ad.block
  sep : ∀ k b k' b', e k = some b → e k' = some b' → k ≠ k' → ∀ ad ad', (sl k).a = some ad → (sl k').a = some ad' → ad.block ≠ ad'.block
def EarlyR (w : World) (F : Nat → Prop) (g : Nat) (out : Sl) (r : Option Nat) (e : Int → Option (List UInt8)) : Prop := match r with
  | none => ∀ k, e k = none
  | some m => ∃ f sl, EarlyM w F g out m e f sl
abbrev Zt (G F : Nat → Prop) : Nat → Prop := fun k => G k ∨ F k
/-- A tunnel. G: what others may turn; F: what this one may. -/
structure Tun (w : World) (G F : Nat → Prop) (g : Nat) (t : Tn) (x : Shp) : Prop where
  cells : w.heap[g]? = some (.cells (tunL t x).toArray t_tunnel_Tunnel (0, 0))
  fg : F g
  fl : ∀ k, F k → k < w.heap.size
  gl : ∀ k, G k → k < w.heap.size
  gf : ∀ k, G k → ¬F k
  way : ∃ hs, WayR w (Zt G F) x.way hs t.way
  queue : ∃ hs, RwB w (Zt G F) x.queue hs t.queue
  out : ∃ hs, OwS w 0 t_s_uint8 x.out hs ∧ All2 (Cb w (Zt G F)) hs t.out
  outf : ∀ ad, x.out.a = some ad → F ad.block ∧ ad.block ≠ g
  early : EarlyR w F g x.out x.r t.early
  crc : Crc w
  nt : ¬Zt G F g_sums_nibbles
  upr : t.up = true → x.r ≠ none
theorem Crc.lt {w : World} (h : Crc w) : g_sums_nibbles < w.heap.size := World.block_lt_of_cell? w _ (h 0 (by decide))
theorem Crc.mv {w w' : World} {E : Nat → Prop} (h : Crc w) (hm : Mv E w w') (hE : ¬E g_sums_nibbles) : Crc w' := fun i hi => by
  have e : w'.heap[g_sums_nibbles]? = w.heap[g_sums_nibbles]? := hm.block _ h.lt hE
  exact (World.cell?_of_block (w := w) (by exact e)).trans (h i hi)
theorem EarlyM.mv {w w' : World} {E F F' : Nat → Prop} {g m : Nat} {out out' : Sl} {e : Int → Option (List UInt8)} {f : Int → Option Value} {sl : Int → Sl} (h : EarlyM w F g out m e f sl) (hm : Mv E w w') (hE : ∀ k, E k → k = g ∨ (∃ o, out.a = some o ∧ o.block = k) ∨ w.heap.size ≤ k)
    (hF : ∀ k, F k → k ≠ g → (∀ o, out.a = some o → o.block ≠ k) → F' k) (ho : ∀ o', out'.a = some o' → (∃ o, out.a = some o ∧ o.block = o'.block) ∨ w.heap.size ≤ o'.block) : EarlyM w' F' g out' m e f sl := by
  have key : ∀ k, k ≠ g → (∀ o, out.a = some o → o.block ≠ k) → k < w.heap.size → ¬E k := fun k h1 h2 h3 hk => by
    rcases hE k hk with h | ⟨o, h, h'⟩ | h
    · exact h1 h
    · exact h2 o h h'
    · omega
  have hlt := h.map.lt
  have far : ∀ k, (∀ o, out.a = some o → o.block ≠ k) → k < w.heap.size → ∀ o', out'.a = some o' → o'.block ≠ k := fun k h2 h3 o' ho' => by
    rcases ho o' ho' with ⟨o, h, h'⟩ | h
    · rw [← h']; exact h2 o h
    · omega
  refine ⟨h.map.sub (hm.block m hlt (key m h.ne.1 h.ne.2 hlt)), hF m h.fm h.ne.1 h.ne.2, ⟨h.ne.1, far m h.ne.2 hlt⟩, h.no, fun k b hk => ?_, fun k b hk ad ha => ?_, h.sep⟩
  · obtain ⟨h1, h2⟩ := h.yes k b hk
    refine ⟨h1, h2.mv hm fun ad ha => ?_⟩
    obtain ⟨b1, b2, b3, b4⟩ := h.blk k b hk ad ha
    exact key _ b2 b4 (h2.own ad ha).2
  · obtain ⟨h1, h2⟩ := h.yes k b hk
    obtain ⟨b1, b2, b3, b4⟩ := h.blk k b hk ad ha
    exact ⟨hF _ b1 b2 b4, b2, b3, far _ b4 (h2.own ad ha).2⟩
theorem EarlyR.mv {w w' : World} {E F F' : Nat → Prop} {g : Nat} {out out' : Sl} {r : Option Nat} {e : Int → Option (List UInt8)} (h : EarlyR w F g out r e) (hm : Mv E w w') (hE : ∀ k, E k → k = g ∨ (∃ o, out.a = some o ∧ o.block = k) ∨ w.heap.size ≤ k)
    (hF : ∀ k, F k → k ≠ g → (∀ o, out.a = some o → o.block ≠ k) → F' k) (ho : ∀ o', out'.a = some o' → (∃ o, out.a = some o ∧ o.block = o'.block) ∨ w.heap.size ≤ o'.block) : EarlyR w' F' g out' r e := by
  cases r with
  | none => exact h
  | some m =>
    obtain ⟨f, sl, h⟩ := h
    exact ⟨f, sl, h.mv hm hE hF ho⟩
/-- A tunnel, behind something that did not touch it. -/
theorem Tun.other {w w' : World} {G G' F E : Nat → Prop} {g : Nat} {t : Tn} {x : Shp} (h : Tun w G F g t x) (hm : Mv E w w') (hE : ∀ k, E k → (G k ∧ ¬F k) ∨ w.heap.size ≤ k) (hG : ∀ k, G' k → G k ∨ w.heap.size ≤ k) (hl : ∀ k, G' k → k < w'.heap.size) : Tun w' G' F g t x := by
  have hEZ : ∀ k, E k → Zt G F k ∨ w.heap.size ≤ k := fun k hk => (hE k hk).imp (fun h => .inl h.1) id
  have hZ : ∀ k, Zt G' F k → Zt G F k ∨ w.heap.size ≤ k := fun k hk => by
    rcases hk with hk | hk
    · exact (hG k hk).imp .inl id
    · exact .inl (.inr hk)
  have hEF : ∀ k, F k → ¬E k := fun k hf he => by
    rcases hE k he with h1 | h1
    · exact h1.2 hf
    · have := h.fl k hf; omega
  obtain ⟨hs1, h1⟩ := h.way
  obtain ⟨hs2, h2⟩ := h.queue
  obtain ⟨hs3, h3, h4⟩ := h.out
  refine ⟨hm.heap h.cells (hEF g h.fg), h.fg, fun k hk => Nat.lt_of_lt_of_le (h.fl k hk) hm.size, hl, fun k hk hf => ?_, ⟨hs1, h1.mv hm hEZ hZ⟩, ⟨hs2, h2.mv hm hEZ hZ⟩, ⟨hs3, h3.mv hm fun ad ha => hEF _ (h.outf ad ha).1, h4.mono fun a b _ _ hr => hr.mv hm hEZ hZ⟩, h.outf, ?_, ?_, ?_, h.upr⟩
  · rcases hG k hk with h1 | h1
    · exact h.gf k h1 hf
    · have := h.fl k hf; omega
  · have he := h.early
    unfold EarlyR at he ⊢
    cases hr : x.r with
    | none => rw [hr] at he; exact he
    | some m =>
      rw [hr] at he
      obtain ⟨f, sl, he⟩ := he
      refine ⟨f, sl, he.map.sub (hm.block m he.map.lt (hEF m he.fm)), he.fm, he.ne, he.no, fun k b hk => ?_, he.blk, he.sep⟩
      obtain ⟨y1, y2⟩ := he.yes k b hk
      exact ⟨y1, y2.mv hm fun ad ha => hEF _ (he.blk k b hk ad ha).1⟩
  · refine h.crc.mv hm fun he => ?_
    rcases hE _ he with h5 | h5
    · exact h.nt (.inl h5.1)
    · have := h.crc.lt; omega
  · intro hz
    rcases hZ _ hz with h5 | h5
    · exact h.nt h5
    · have := h.crc.lt; omega
/-- A tunnel that went on. -/
def TunTo (w w' : World) (G F : Nat → Prop) (g : Nat) (t' : Tn) : Prop := ∃ F' x', Tun w' G F' g t' x' ∧ Mv F w w' ∧ ∀ k, F' k → F k ∨ w.heap.size ≤ k
theorem TunTo.refl {w : World} {G F : Nat → Prop} {g : Nat} {t : Tn} {x : Shp} (h : Tun w G F g t x) : TunTo w w G F g t := ⟨F, x, h, Mv.refl _ _, fun _ h => .inl h⟩
theorem TunTo.step {w w1 w2 : World} {G F F1 : Nat → Prop} {g : Nat} {t2 : Tn} (hm : Mv F w w1) (hF : ∀ k, F1 k → F k ∨ w.heap.size ≤ k) (h : TunTo w1 w2 G F1 g t2) : TunTo w w2 G F g t2 := by
  obtain ⟨F2, x2, h1, h2, h3⟩ := h
  refine ⟨F2, x2, h1, hm.trans h2 hF, fun k hk => ?_⟩
  rcases h3 k hk with h4 | h4
  · exact hF k h4
  · exact .inr (Nat.le_trans hm.size h4)
/-- Nothing of it turned. -/
theorem Tun.fr {w w' : World} {G F : Nat → Prop} {g : Nat} {t : Tn} {x : Shp} (h : Tun w G F g t x) (hf : Fr w w') : Tun w' G F g t x :=
  h.other (E := fun _ => False) (Mv.of_fr hf) (fun _ h => h.elim) (fun _ h => .inl h) (fun k hk => Nat.lt_of_lt_of_le (h.gl k hk) hf.size)
theorem Tun.to_fr {w w' w2 : World} {G F : Nat → Prop} {g : Nat} {t' : Tn} (h : TunTo w w' G F g t') (hf : Fr w' w2) : TunTo w w2 G F g t' := by
  obtain ⟨F', x', h1, h2, h3⟩ := h
  exact ⟨F', x', h1.fr hf, h2.trans (Mv.of_fr (F := fun _ => False) hf) fun _ h => h.elim, h3⟩
/-- Some of a tunnel's own cells are written anew: its parts stay where they are. -/
theorem Tun.own {w w' : World} {G F : Nat → Prop} {g : Nat} {t t' : Tn} {x : Shp} (h : Tun w G F g t x) (hg : w.grownBy w' (some g)) (hc : w'.heap[g]? = some (.cells (tunL t' x).toArray t_tunnel_Tunnel (0, 0)))
    (e1 : t'.way = t.way) (e2 : t'.queue = t.queue) (e3 : t'.out = t.out) (e4 : t'.early = t.early) (e5 : t'.up = t.up) : Tun w' G F g t' x := by
  have hm : Mv (fun k => k = g) w w' := Mv.of_grown hg rfl
  have hEZ : ∀ k, k = g → Zt G F k ∨ w.heap.size ≤ k := fun k hk => .inl (.inr (by rw [hk]; exact h.fg))
  have hZ : ∀ k, Zt G F k → Zt G F k ∨ w.heap.size ≤ k := fun k hk => .inl hk
  obtain ⟨hs1, h1⟩ := h.way
  obtain ⟨hs2, h2⟩ := h.queue
  obtain ⟨hs3, h3, h4⟩ := h.out
  refine ⟨hc, h.fg, fun k hk => Nat.lt_of_lt_of_le (h.fl k hk) hg.size, fun k hk => Nat.lt_of_lt_of_le (h.gl k hk) hg.size, h.gf, ⟨hs1, by rw [e1]; exact h1.mv hm hEZ hZ⟩, ⟨hs2, by rw [e2]; exact h2.mv hm hEZ hZ⟩, ⟨hs3, h3.mv hm fun ad ha => (h.outf ad ha).2, by rw [e3]; exact h4.mono fun a b _ _ hr => hr.mv hm hEZ hZ⟩, h.outf, ?_, h.crc.mv hm fun e => h.nt (.inr (by rw [e]; exact h.fg)), h.nt, by rw [e5]; exact h.upr⟩
  rw [e4]
  exact h.early.mv hm (fun k hk => .inl hk) (fun k hk _ _ => hk) (fun o ho => .inl ⟨o, ho, rfl⟩)
/-- A cell of a tunnel is read. -/
theorem tun_lt {w : World} {G F : Nat → Prop} {g : Nat} {t : Tn} {x : Shp} (h : Tun w G F g t x) : g < w.heap.size := h.fl g h.fg

section
variable {w : World} {G F : Nat → Prop} {g : Nat} {t : Tn} {x : Shp}
theorem tNew_ok {me : Int} (hd : Crc w) (hG : ∀ k, G k → k < w.heap.size) (hG0 : ¬G g_sums_nibbles) : cl Tryz.prog n_tunnel_New #[.int .i64 me] (.tup (.pair .P (.pair (.I .i64) .nil))) w fun (r : Option Addr × Int × Unit) w' =>
    (if 1 ≤ me ∧ me ≤ 1099511627776 then ∃ g x, r = (some ⟨g, 0, none⟩, 0, ()) ∧ w.heap.size ≤ g ∧ Tun w' G (fun k => k = g) g (tn0 me) x else r = (none, 1, ())) ∧ Fr w w' := by
  refine tunnel_New.cl ?_
  unfold tunnel_New
  refine bD ?_ ?_ <;> intro h1
  · dsimp only; rw [if_neg (by omega)]; exact ⟨rfl, Fr.refl w⟩
  refine bD ?_ ?_ <;> intro h2
  · dsimp only; rw [if_neg (by omega)]; exact ⟨rfl, Fr.refl w⟩
  refine nwI fun a1 w2 ha hs hf hb _ => ?_
  dsimp only
  rw [if_pos (by omega)]
  refine ⟨⟨a1, ⟨⟨none, 0, 0⟩, ⟨none, 0, 0⟩, ⟨none, 0, 0⟩, none⟩, rfl, by omega, ?_⟩, hf⟩
  refine ⟨hb, rfl, fun k hk => by omega, fun k hk => by have := hG k hk; omega, fun k hk he => by have := hG k hk; omega, ⟨[], WayR.nil _ _ _⟩, ⟨[], RwB.nil _ _ _⟩, ⟨[], OwS.nil _ _ _, trivial⟩, fun ad ha => (by cases ha), fun k => rfl, hd.fr hf, fun hz => ?_, fun h => (by cases h)⟩
  rcases hz with hz | hz
  · exact hG0 hz
  · have := hd.lt; omega
theorem made_ok (h : Tun w G F g t x) (hme : 1 ≤ t.me) : cl Tryz.prog n_tunnel_Tunnel_made #[.pointer (some ⟨g, 0, none⟩)] .B w fun (r : Bool) w' => r = true ∧ w = w' := by
  refine tunnel_Tunnel_made.cl (p0 := some ⟨g, 0, none⟩) ?_
  unfold tunnel_Tunnel_made
  refine bT rfl (nzS ?_)
  rw [addOff]
  refine ldI0 h.cells (show (tunL t x).toArray[7]? = some (.int .i64 t.me) from rfl) ⟨decide_eq_true (by omega), rfl⟩
theorem tMe_ok (h : Tun w G F g t x) (hme : 1 ≤ t.me) : cl Tryz.prog n_tunnel_Tunnel_Me #[.pointer (some ⟨g, 0, none⟩)] (.I .i64) w fun (r : Int) w' => r = t.me ∧ w = w' := by
  refine tunnel_Tunnel_Me.cl (p0 := some ⟨g, 0, none⟩) ?_
  unfold tunnel_Tunnel_Me
  refine (made_ok h hme).mono ?_
  rintro _ _ ⟨rfl, rfl⟩
  refine bF rfl (nzS ?_)
  rw [addOff]
  exact ldI0 h.cells (show (tunL t x).toArray[7]? = some (.int .i64 t.me) from rfl) ⟨rfl, rfl⟩
theorem tYou_ok (h : Tun w G F g t x) (hme : 1 ≤ t.me) : cl Tryz.prog n_tunnel_Tunnel_You #[.pointer (some ⟨g, 0, none⟩)] (.I .i64) w fun (r : Int) w' => r = t.you ∧ w = w' := by
  refine tunnel_Tunnel_You.cl (p0 := some ⟨g, 0, none⟩) ?_
  unfold tunnel_Tunnel_You
  refine (made_ok h hme).mono ?_
  rintro _ _ ⟨rfl, rfl⟩
  refine bF rfl (nzS ?_)
  rw [addOff]
  exact ldI0 h.cells (show (tunL t x).toArray[8]? = some (.int .i64 t.you) from rfl) ⟨rfl, rfl⟩
theorem tEpoch_ok (h : Tun w G F g t x) (hme : 1 ≤ t.me) : cl Tryz.prog n_tunnel_Tunnel_Epoch #[.pointer (some ⟨g, 0, none⟩)] (.I .i64) w fun (r : Int) w' => r = t.epoch ∧ w = w' := by
  refine tunnel_Tunnel_Epoch.cl (p0 := some ⟨g, 0, none⟩) ?_
  unfold tunnel_Tunnel_Epoch
  refine (made_ok h hme).mono ?_
  rintro _ _ ⟨rfl, rfl⟩
  refine bF rfl (nzS ?_)
  rw [addOff]
  exact ldI0 h.cells (show (tunL t x).toArray[9]? = some (.int .i64 t.epoch) from rfl) ⟨rfl, rfl⟩
theorem tUp_ok (h : Tun w G F g t x) (hme : 1 ≤ t.me) : cl Tryz.prog n_tunnel_Tunnel_Up #[.pointer (some ⟨g, 0, none⟩)] .B w fun (r : Bool) w' => r = t.up ∧ w = w' := by
  refine tunnel_Tunnel_Up.cl (p0 := some ⟨g, 0, none⟩) ?_
  unfold tunnel_Tunnel_Up
  refine (made_ok h hme).mono ?_
  rintro _ _ ⟨rfl, rfl⟩
  refine bT rfl (nzS ?_)
  exact ldB0 h.cells (show (tunL t x).toArray[0]? = some (.bool t.up) from rfl) ⟨rfl, rfl⟩
theorem slS : SlT Tryz.prog t_s_s_uint8 t_s_uint8 1 24 := SlT.mk' (z := .slice none 0 0) (by kernel_rfl) (by kernel_rfl) rfl (by decide)
/-- A frame goes out. -/
theorem say_ok {p : y_api_Frame} {b : List UInt8} (h : Tun w G F g t x) (hb : Bs w p.2.2.2.2.2.2.1 b) (hl : t.out.length ≤ 1073741824) :
    cl Tryz.prog n_tunnel_Tunnel_say #[.pointer (some ⟨g, 0, none⟩), frV p] (.tup .nil) w fun (_ : Unit) w' => TunTo w w' G F g (t.say (fmOf p b)) := by
  refine tunnel_Tunnel_say.cl (p0 := some ⟨g, 0, none⟩) (p1 := p) ?_
  unfold tunnel_Tunnel_say
  have hgl := tun_lt h
  obtain ⟨hs3, ho, ha3⟩ := h.out
  refine nwI fun a1 w2 ha1 hs2 hf2 hb1 _ => ?_
  refine nzS ?_
  rw [addOff, addOff]
  refine ldI0 (hf2.heap h.cells) (show (tunL t x).toArray[7]? = some (.int .i64 t.me) from rfl) ?_
  refine st0 hb1 (by show 1 < 7; decide) fun w5 hb5 hg5 hs5 => ?_
  have hb5 : w5.heap[a1]? = some (.cells (frC (p.1, t.me, p.2.2)).toArray t_api_Frame (0, 0)) := hb5
  have hf5 : Fr w w5 := hf2.on (grown_below hg5 (by omega) hf2.size)
  refine ldW (k := k_api_Frame) (x := (p.1, t.me, p.2.2)) hb5 rfl ?_
  refine (tPut_ok (p := (p.1, t.me, p.2.2)) (h.crc.fr hf5) (hb.fr hf5)).mono ?_
  rintro ⟨x7, e7, ⟨⟩⟩ w8 ⟨h7, _, hf8⟩
  dsimp only at h7 ⊢
  have hf8' := hf5.trans hf8
  refine nzS ?_
  rw [addOff]
  refine ldL0 (s := x.out) (hf8'.heap h.cells) rfl ?_
  refine nwI fun a11 w12 ha11 hs12 hf12 hb11 hr11 => ?_
  have hf12' := hf8'.trans hf12
  have hlen := ha3.length
  refine app_S slS (by decide) (ms := [x7]) (ho.fr hf12') hr11 rfl (by simp; omega) (Nat.zero_le _) fun r13 w14 h13 hg13 hat => ?_
  rw [ownB_slice, ownB_slice] at hat
  rw [ownB_slice] at hg13
  have hz12 := hf12'.size
  have hz5 := hf5.size
  have hz8 := hf8.size
  have hz14 := hg13.size
  -- what turned so far: the row of what it said
  have hm14 : Mv (fun k => ∃ o, x.out.a = some o ∧ o.block = k) w w14 := by
    refine (Mv.of_fr hf12').trans (G := fun k => ∃ o, x.out.a = some o ∧ o.block = k) ⟨hg13.os, hg13.tape, hg13.output, hg13.size, fun k hk hn => hg13.block k hk fun e => ?_⟩ fun k hk => .inl hk
    cases hxa : x.out.a with
    | none => rw [hxa] at e; cases e
    | some o => rw [hxa] at e; exact hn ⟨o, hxa, (Option.some.inj e).symm⟩
  refine nzS ?_
  rw [addOff]
  have hc14 : w14.heap[g]? = some (.cells (tunL t x).toArray t_tunnel_Tunnel (0, 0)) := hm14.heap h.cells fun ⟨o, h1, h2⟩ => (h.outf o h1).2 h2
  refine st0 hc14 (by show 11 < 12; decide) fun w16 hb16 hg16 hs16 => ?_
  have hm16 : Mv (fun k => k = g ∨ ∃ o, x.out.a = some o ∧ o.block = k) w w16 := (hm14.mono fun k hk => .inl (.inr hk)).trans (Mv.of_grown (F := fun k => k = g) hg16 rfl) fun k hk => .inl (.inl hk)
  let x' : Shp := ⟨x.way, x.queue, r13, x.r⟩
  let F' : Nat → Prop := fun k => F k ∨ ∃ o, r13.a = some o ∧ o.block = k
  have hnew : ∀ o, r13.a = some o → (∃ o', x.out.a = some o' ∧ o'.block = o.block) ∨ o.block = w12.heap.size := by
    intro o hro
    rw [hro] at hat
    rcases hat with h1 | h1
    · cases hxa : x.out.a with
      | none => rw [hxa] at h1; cases h1
      | some o' => rw [hxa] at h1; exact .inl ⟨o', rfl, (Option.some.inj h1).symm⟩
    · exact .inr (Option.some.inj h1)
  have hEF : ∀ k, (k = g ∨ ∃ o, x.out.a = some o ∧ o.block = k) → F k := fun k hk => by
    rcases hk with rfl | ⟨o, h1, rfl⟩
    · exact h.fg
    · exact (h.outf o h1).1
  have hF' : ∀ k, F' k → F k ∨ w.heap.size ≤ k := fun k hk => by
    rcases hk with hk | ⟨o, h1, rfl⟩
    · exact .inl hk
    · rcases hnew o h1 with ⟨o', h2, h3⟩ | h2
      · rw [← h3]; exact .inl (h.outf o' h2).1
      · right; omega
  have hEZ : ∀ k, (k = g ∨ ∃ o, x.out.a = some o ∧ o.block = k) → Zt G F k ∨ w.heap.size ≤ k := fun k hk => .inl (.inr (hEF k hk))
  have hZ : ∀ k, Zt G F' k → Zt G F k ∨ w.heap.size ≤ k := fun k hk => by
    rcases hk with hk | hk
    · exact .inl (.inl hk)
    · exact (hF' k hk).imp .inr id
  obtain ⟨hs1, h1⟩ := h.way
  obtain ⟨hs2', h2⟩ := h.queue
  have hgr : ∀ ad, r13.a = some ad → ad.block ≠ g := fun ad had => by
    rcases hnew ad had with ⟨o', h2, h3⟩ | h2
    · rw [← h3]; exact (h.outf o' h2).2
    · omega
  have h13' : OwS w16 0 t_s_uint8 r13 (hs3 ++ [x7]) := h13.mv (Mv.of_grown (F := fun k => k = g) hg16 rfl) hgr
  have hcb : Cb w16 (Zt G F') x7 (putF { fmOf p b with fr := t.me }).1 := by
    have hlt : ∀ ad, x7.a = some ad → w5.heap.size ≤ ad.block ∧ ad.block < w8.heap.size := h7.own
    have h7' : OwB w14 w5.heap.size t_uint8 x7 (putF { fmOf p b with fr := t.me }).1 := by
      refine OwB.mv (F := fun k => ∃ o, x.out.a = some o ∧ o.block = k) (h7.fr hf12) ⟨hg13.os, hg13.tape, hg13.output, hg13.size, fun k hk hn => hg13.block k hk fun e => ?_⟩ fun ad had ⟨o, h4, h5⟩ => ?_
      · cases hxa : x.out.a with
        | none => rw [hxa] at e; cases e
        | some o => rw [hxa] at e; exact hn ⟨o, hxa, (Option.some.inj e).symm⟩
      · have := (hlt ad had).1
        have := h.fl _ (h.outf o h4).1
        omega
    refine ⟨(h7'.mv (Mv.of_grown (F := fun k => k = g) hg16 rfl) fun ad had => by have := (hlt ad had).1; omega).bs, fun _ ad had hz => ?_⟩
    have h9 := hlt ad had
    rcases hz with hz | hz | ⟨o, h4, h5⟩
    · have := h.gl _ hz; omega
    · have := h.fl _ hz; omega
    · rcases hnew o h4 with ⟨o', h6, h7⟩ | h6
      · have := h.fl _ (h.outf o' h6).1; omega
      · omega
  refine ⟨F', x', ⟨hb16, .inl h.fg, fun k hk => ?_, fun k hk => ?_, fun k hk hf => ?_, ⟨hs1, h1.mv hm16 hEZ hZ⟩, ⟨hs2', h2.mv hm16 hEZ hZ⟩, ⟨hs3 ++ [x7], h13', ?_⟩, fun ad had => ⟨.inr ⟨ad, had, rfl⟩, hgr ad had⟩, ?_, h.crc.mv hm16 fun e => h.nt (.inr (hEF _ e)), fun hz => (hZ _ hz).elim h.nt fun h5 => (by have := h.crc.lt; omega), h.upr⟩, hm16.mono fun k hk => .inl (hEF k hk), hF'⟩
  · rcases hk with hk | ⟨o, h4, rfl⟩
    · have := h.fl k hk; omega
    · rcases hnew o h4 with ⟨o', h6, h7⟩ | h6
      · have := h.fl _ (h.outf o' h6).1; omega
      · have := (h13.own o h4).2; omega
  · have := h.gl k hk; omega
  · rcases hF' k hf with h4 | h4
    · exact h.gf k hk h4
    · have := h.gl k hk; omega
  · refine All2.append (ha3.mono fun a b _ _ hr => hr.mv hm16 hEZ hZ) ⟨hcb, trivial⟩
  · refine h.early.mv hm16 (fun k hk => ?_) (fun k hk _ _ => .inl hk) (fun o' ho' => ?_)
    · rcases hk with hk | hk
      · exact .inl hk
      · exact .inr (.inl hk)
    · rcases hnew o' ho' with ⟨o, h6, h7⟩ | h6
      · exact .inl ⟨o, h6, h7⟩
      · right; omega
end
end Go.Proofs.YtoglafmpllimgaaGreatDoor
namespace Go.Proofs.YtoglafmpllimgaaGreatDoor
open Go.RowKit Go.Fl

theorem none_rd {w : World} {A : Option Addr} {xs : List Value} (h : Rd w A xs) (ha : A.isNone = true) : xs = [] := by
  cases xs with
  | nil => rfl
  | cons x l =>
    obtain ⟨ad, h1, _⟩ := h 0 x rfl
    rw [h1] at ha; cases ha
theorem Clone_rows_ok {s : Sl} {hs : List Sl} {w : World} (hr : Rd w s.a (slsV hs)) (hl : s.n = hs.length) (hb : hs.length ≤ 1099511627776) :
    cl Tryz.prog n_slices_Clone_rows_byte_byte #[.slice s.a s.n s.c] .L w fun (r : Sl) w' => OwS w' w.heap.size t_s_uint8 r hs ∧ Fr w w' := by
  refine slices_Clone_rows_byte_byte.cl ?_
  unfold slices_Clone_rows_byte_byte
  refine bB ?_ ?_ <;> intro h
  · have : hs = [] := List.map_eq_nil_iff.1 (none_rd hr h)
    subst this
    exact ⟨OwS.nil _ _ _, Fr.refl w⟩
  · refine nwI fun b w2 hb2 hs2 hf2 hblk _ => ?_
    refine app0V slS (base := w.heap.size) hblk (by omega) (hr.below hf2) (by rw [List.length_map, hl, Nat.mul_one]) (slsV_one hs) (by omega) (by omega) hf2.size fun r w3 _ ho hf3 => ⟨ho, hf2.trans hf3⟩
/-- A row of frames on the way of the call's own. -/
def OwW (w : World) (base : Nat) (s : Sl) (hs : WayH) : Prop := w.ownsRow base t_tunnel_sent 3 (.slice s.a s.n s.c) s.n (wayV hs)
theorem OwW.len {w : World} {base : Nat} {s : Sl} {hs : WayH} (h : OwW w base s hs) : s.n = hs.length := by
  have := h.1; rw [wayV_length] at this; omega
theorem OwW.cap {w : World} {base : Nat} {s : Sl} {hs : WayH} (h : OwW w base s hs) : s.n ≤ s.c := by
  rcases h.2 with ⟨hv, hn⟩ | ⟨g, cap, cur, hv, _, _, hc, _⟩
  · injection hv with _ h1 h2; omega
  · injection hv with _ h1 h2; omega
theorem OwW.rd {w : World} {base : Nat} {s : Sl} {hs : WayH} (h : OwW w base s hs) : Rd w s.a (wayV hs) := Rd.of_own h
theorem OwW.fr {w w' : World} {base : Nat} {s : Sl} {hs : WayH} (h : OwW w base s hs) (hf : Fr w w') : OwW w' base s hs := own_kept h hf
theorem OwW.own {w : World} {base : Nat} {s : Sl} {hs : WayH} (h : OwW w base s hs) : ∀ ad, s.a = some ad → base ≤ ad.block ∧ ad.block < w.heap.size := fun ad ha => World.ownsRow.lt h ad.block (by rw [ha]; rfl)
theorem OwW.mv {F : Nat → Prop} {w w' : World} {base : Nat} {s : Sl} {hs : WayH} (h : OwW w base s hs) (hm : Mv F w w') (hF : ∀ ad, s.a = some ad → ¬F ad.block) : OwW w' base s hs := own_kp h hm.kp hF
theorem OwW.wayR {w : World} {Z : Nat → Prop} {base : Nat} {s : Sl} {hs : WayH} {ls : List (Int × List UInt8 × Int)} (h : OwW w base s hs) (hZ : ∀ k, Z k → k < base) (ha : All2 (fun a b => a.1 = b.1 ∧ Cb w Z a.2.1 b.2.1 ∧ a.2.2 = b.2.2) hs ls) : WayR w Z s hs ls :=
  ⟨h.rd, h.len, h.cap, fun _ ad had hz => by have := (h.own ad had).1; have := hZ _ hz; omega, ha⟩
theorem OwS.rw {w : World} {Z : Nat → Prop} {base : Nat} {e : TypeId} {s : Sl} {hs : List Sl} {ls : List (List UInt8)} (h : OwS w base e s hs) (hZ : ∀ k, Z k → k < base) (ha : All2 (Cb w Z) hs ls) : RwB w Z s hs ls :=
  ⟨h.rd, h.len, h.cap, fun _ ad had hz => by have := (h.own ad had).1; have := hZ _ hz; omega, ha⟩
theorem slW : SlT Tryz.prog t_s_tunnel_sent t_tunnel_sent 3 40 := SlT.mk' (z := .agg #[.int .i64 0, .slice none 0 0, .int .i64 0]) (by kernel_rfl) (by kernel_rfl) rfl (by decide)
theorem Clone_sent_ok {s : Sl} {hs : WayH} {w : World} (hr : Rd w s.a (wayV hs)) (hl : s.n = hs.length) (hb : hs.length ≤ 1073741824) :
    cl Tryz.prog n_slices_Clone_tunnel_sent_tunnel_sent #[.slice s.a s.n s.c] .L w fun (r : Sl) w' => OwW w' w.heap.size r hs ∧ Fr w w' := by
  refine slices_Clone_tunnel_sent_tunnel_sent.cl ?_
  unfold slices_Clone_tunnel_sent_tunnel_sent
  refine bB ?_ ?_ <;> intro h
  · have : hs = [] := by
      have := congrArg List.length (none_rd hr h)
      rw [wayV_length, List.length_nil] at this
      exact List.eq_nil_of_length_eq_zero (by omega)
    subst this
    exact ⟨World.ownsRow_nil w w.heap.size t_tunnel_sent 3, Fr.refl w⟩
  · refine nwI fun b w2 hb2 hs2 hf2 hblk _ => ?_
    refine app0V slW (base := w.heap.size) hblk (by omega) (hr.below hf2) (by rw [wayV_length, hl]) (wayV_one hs) (by omega) (by omega) hf2.size fun r w3 _ ho hf3 => ⟨ho, hf2.trans hf3⟩
section
variable {w : World} {G F : Nat → Prop} {g : Nat} {t : Tn} {x : Shp}
/-- A tunnel whose way, queue and early messages are others now. -/
theorem Tun.re {w' : World} (h : Tun w G F g t x) {E F' : Nat → Prop} {t' : Tn} {x' : Shp} (hm : Mv E w w') (hE : ∀ k, E k → F k ∨ w.heap.size ≤ k) (hEo : ∀ o, x.out.a = some o → ¬E o.block)
    (hF1 : ∀ k, F' k → F k ∨ w.heap.size ≤ k) (hF2 : ∀ k, F' k → k < w'.heap.size) (hg : F' g) (hFo : ∀ o, x.out.a = some o → F' o.block)
    (hc : w'.heap[g]? = some (.cells (tunL t' x').toArray t_tunnel_Tunnel (0, 0))) (ho : x'.out = x.out) (hto : t'.out = t.out)
    (hway : ∃ hs, WayR w' (Zt G F') x'.way hs t'.way) (hqueue : ∃ hs, RwB w' (Zt G F') x'.queue hs t'.queue) (hearly : EarlyR w' F' g x'.out x'.r t'.early) (hup : t'.up = true → x'.r ≠ none) : Tun w' G F' g t' x' := by
  have hEZ : ∀ k, E k → Zt G F k ∨ w.heap.size ≤ k := fun k hk => (hE k hk).imp .inr id
  have hZ : ∀ k, Zt G F' k → Zt G F k ∨ w.heap.size ≤ k := fun k hk => by
    rcases hk with hk | hk
    · exact .inl (.inl hk)
    · exact (hF1 k hk).imp .inr id
  obtain ⟨hs3, h3, h4⟩ := h.out
  refine ⟨hc, hg, hF2, fun k hk => Nat.lt_of_lt_of_le (h.gl k hk) hm.size, fun k hk hf => ?_, hway, hqueue, ⟨hs3, by rw [ho]; exact h3.mv hm hEo, by rw [hto]; exact h4.mono fun a b _ _ hr => hr.mv hm hEZ hZ⟩, fun ad had => ?_, hearly, ?_, ?_, hup⟩
  · rcases hF1 k hf with h1 | h1
    · exact h.gf k hk h1
    · have := h.gl k hk; omega
  · rw [ho] at had
    exact ⟨hFo ad had, (h.outf ad had).2⟩
  · refine h.crc.mv hm fun he => ?_
    rcases hEZ _ he with h5 | h5
    · exact h.nt h5
    · have := h.crc.lt; omega
  · intro hz
    rcases hZ _ hz with h5 | h5
    · exact h.nt h5
    · have := h.crc.lt; omega
theorem Tun.wayK {w' : World} (h : Tun w G F g t x) {E F' : Nat → Prop} (hm : Mv E w w') (hE : ∀ k, E k → F k ∨ w.heap.size ≤ k) (hF1 : ∀ k, F' k → F k ∨ w.heap.size ≤ k) : ∃ hs, WayR w' (Zt G F') x.way hs t.way := by
  obtain ⟨hs, h1⟩ := h.way
  refine ⟨hs, h1.mv hm (fun k hk => (hE k hk).imp .inr id) fun k hk => ?_⟩
  rcases hk with hk | hk
  · exact .inl (.inl hk)
  · exact (hF1 k hk).imp .inr id
theorem Tun.queueK {w' : World} (h : Tun w G F g t x) {E F' : Nat → Prop} (hm : Mv E w w') (hE : ∀ k, E k → F k ∨ w.heap.size ≤ k) (hF1 : ∀ k, F' k → F k ∨ w.heap.size ≤ k) : ∃ hs, RwB w' (Zt G F') x.queue hs t.queue := by
  obtain ⟨hs, h1⟩ := h.queue
  refine ⟨hs, h1.mv hm (fun k hk => (hE k hk).imp .inr id) fun k hk => ?_⟩
  rcases hk with hk | hk
  · exact .inl (.inl hk)
  · exact (hF1 k hk).imp .inr id
theorem hint_ok {n : Int} (h : Tun w G F g t x) (hme : 1 ≤ t.me) (hl : t.out.length ≤ 1073741824) :
    cl Tryz.prog n_tunnel_Tunnel_Hint #[.pointer (some ⟨g, 0, none⟩), .int .i64 n] (.tup .nil) w fun (_ : Unit) w' => TunTo w w' G F g (t.hint n) := by
  refine tunnel_Tunnel_Hint.cl (p0 := some ⟨g, 0, none⟩) (p1 := n) ?_
  unfold tunnel_Tunnel_Hint
  intro j1
  refine (made_ok h hme).mono ?_
  rintro _ _ ⟨rfl, rfl⟩
  refine bT rfl (bD ?_ ?_) <;> intro h1
  · show bif _ then _ else _
    refine bD ?_ ?_ <;> intro h2
    · rw [show t.hint n = t.say (hel n) from if_pos ⟨h1, h2⟩]
      exact say_ok (p := (1, 0, n, 0, 0, 0, ⟨none, 0, 0⟩, ())) h (Bs.nil _ _) hl
    · rw [show t.hint n = t from if_neg (by omega)]
      exact TunTo.refl h
  · show bif _ then _ else _
    rw [show t.hint n = t from if_neg (by omega)]
    exact bF rfl (TunTo.refl h)
/-- The session's cells are written anew. -/
theorem stSes {w1 : World} {t : Tn} {x : Shp} (hc : w1.heap[g]? = some (.cells (tunL t x).toArray t_tunnel_Tunnel (0, 0))) (v : y_tunnel_session) {K : World → Prop}
    (hk : ∀ w', w'.heap[g]? = some (.cells (Kd.av k_tunnel_Tunnel (v, (tunC t x).2)).cells.toArray t_tunnel_Tunnel (0, 0)) → w1.grownBy w' (some g) → w'.heap.size = w1.heap.size → K w') : st w1 ⟨g, 0, none⟩ (Kd.av k_tunnel_session v) K :=
  st_all (Kd.av k_tunnel_session v) rfl (pre := []) (q := (Kd.av k_tunnel_session (tunC t x).1).cells) (post := [.int .i64 t.me, .int .i64 t.you, .int .i64 t.epoch, .int .i64 t.ticks, slV x.out]) hc rfl fun w' h' g' s' => hk w' h' g' s'
theorem beg_ok {you : Int} (h : Tun w G F g t x) (hl : t.out.length ≤ 1073741824) :
    cl Tryz.prog n_tunnel_Tunnel_begin #[.pointer (some ⟨g, 0, none⟩), .int .i64 you] (.tup .nil) w fun (_ : Unit) w' => TunTo w w' G F g (t.beg you) := by
  refine tunnel_Tunnel_begin.cl (p0 := some ⟨g, 0, none⟩) (p1 := you) ?_
  unfold tunnel_Tunnel_begin
  have hgl := tun_lt h
  refine nzS ?_
  rw [addOff]
  refine st0 h.cells (by show 8 < 12; decide) fun w2 hb2 hg2 hs2 => ?_
  have hb2 : w2.heap[g]? = some (.cells (tunL { t with you := you } x).toArray t_tunnel_Tunnel (0, 0)) := hb2
  refine rnNewM (key := Value.int .i64) fun m w4 hm hM hf4 hs4 => ?_
  refine nzS ?_
  refine stSes (hf4.heap hb2) (true, (0, (0, (⟨none, 0, 0⟩, (⟨none, 0, 0⟩, (0, (some m, ()))))))) fun w6 hb6 hg6 hs6 => ?_
  refine nzS ?_
  rw [addOff]
  refine ldI0 hb6 rfl (nzS ?_)
  rw [addOff]
  refine st0 hb6 (by show 9 < 12; decide) fun w10 hb10 hg10 hs10 => ?_
  let x' : Shp := ⟨⟨none, 0, 0⟩, ⟨none, 0, 0⟩, x.out, some m⟩
  have hb10 : w10.heap[g]? = some (.cells (tunL (t.fresh you) x').toArray t_tunnel_Tunnel (0, 0)) := hb10
  have hg46 := hg6.trans hg10
  have hmv : Mv (fun k => k = g) w w10 := (Mv.of_grown (F := fun k => k = g) hg2 rfl).trans (Mv.trans (F := fun k => k = g) (Mv.of_fr hf4) (Mv.of_grown (F := fun k => k = g) hg46 rfl) fun j hj => .inl hj) fun j hj => .inl hj
  let F' : Nat → Prop := fun k => F k ∨ k = m
  have hM10 : MapF (Value.int .i64) w10 m (fun _ => none) := hM.sub (hg46.block m hM.lt (by simp; omega))
  have hF1 : ∀ k, F' k → F k ∨ w.heap.size ≤ k := fun k hk => hk.imp id fun h => by omega
  have h10 : Tun w10 G F' g (t.fresh you) x' := by
    refine h.re (E := fun k => k = g) hmv (fun k hk => .inl (by rw [hk]; exact h.fg)) (fun o ho => (h.outf o ho).2) hF1 (fun k hk => ?_) (.inl h.fg) (fun o ho => .inl (h.outf o ho).1) hb10 rfl rfl ⟨[], WayR.nil _ _ _⟩ ⟨[], RwB.nil _ _ _⟩ ?_ (fun _ h => by cases h)
    · rcases hk with hk | hk
      · have := h.fl k hk; omega
      · omega
    · refine ⟨_, fun _ => ⟨none, 0, 0⟩, hM10, .inr rfl, ⟨by omega, fun o ho e => ?_⟩, fun _ _ => rfl, fun k b hk => (by cases hk), fun k b hk => (by cases hk), fun k b k' b' hk => (by cases hk)⟩
      have := h.fl _ (h.outf o ho).1
      omega
  refine (say_ok (p := (1, 0, you, 0, 0, 0, ⟨none, 0, 0⟩, ())) h10 (Bs.nil _ _) hl).mono fun _ w' h' => ?_
  exact TunTo.step (hmv.mono fun k hk => .inl (by rw [hk]; exact h.fg)) hF1 h'
end
end Go.Proofs.YtoglafmpllimgaaGreatDoor
namespace Go.Proofs.YtoglafmpllimgaaGreatDoor
open Go.RowKit Go.Fl

section
variable {w : World} {G F : Nat → Prop} {g : Nat} {t : Tn} {x : Shp}
/-- How many messages wait, as the world has it. -/
def queueN (g : Nat) (w : World) : Nat := match w.heap[g]? with
  | some (Obj.cells cs _ _) => (match (cs[4]? : Option Value) with | some (Value.slice _ n _) => n | _ => 0)
  | _ => 0
theorem queueN_eq (h : Tun w G F g t x) : queueN g w = t.queue.length := by
  obtain ⟨hs, h2⟩ := h.queue
  rw [← h2.count]
  unfold queueN
  rw [h.cells]
  rfl
/-- The way and the queue are written anew. -/
theorem Tun.wq {w' : World} (h : Tun w G F g t x) {t' : Tn} {x' : Shp} (hm : Mv (fun k => k = g) w w') (hc : w'.heap[g]? = some (.cells (tunL t' x').toArray t_tunnel_Tunnel (0, 0))) (ho : x'.out = x.out) (hr : x'.r = x.r) (hto : t'.out = t.out) (hte : t'.early = t.early) (hup : t'.up = t.up)
    (hway : ∃ hs, WayR w' (Zt G F) x'.way hs t'.way) (hqueue : ∃ hs, RwB w' (Zt G F) x'.queue hs t'.queue) : Tun w' G F g t' x' := by
  refine h.re (E := fun k => k = g) hm (fun k hk => .inl (by rw [hk]; exact h.fg)) (fun o ho => (h.outf o ho).2) (fun k hk => .inl hk) (fun k hk => Nat.lt_of_lt_of_le (h.fl k hk) hm.size) h.fg (fun o ho => (h.outf o ho).1) hc ho hto hway hqueue ?_ (by rw [hup, hr]; exact h.upr)
  rw [ho, hr, hte]
  exact h.early.mv hm (fun k hk => .inl hk) (fun k hk _ _ => hk) (fun o ho => .inl ⟨o, ho, rfl⟩)
theorem slide_ok (h : Tun w G F g t x) (hr : t.queue.length + t.way.length ≤ 64) (hl : t.out.length + t.queue.length ≤ 1073741824) :
    cl Tryz.prog n_tunnel_Tunnel_slide #[.pointer (some ⟨g, 0, none⟩)] (.tup .nil) w fun (_ : Unit) w' => TunTo w w' G F g t.slide := by
  refine tunnel_Tunnel_slide.cl (p0 := some ⟨g, 0, none⟩) ?_
  unfold tunnel_Tunnel_slide
  refine lpI (fun _ w' => ∃ t1, TunTo w w' G F g t1 ∧ slideF t1.queue.length t1 = t.slide ∧ t1.queue.length + t1.way.length ≤ 64 ∧ t1.out.length + t1.queue.length ≤ 1073741824) (fun _ w' => queueN g w') ⟨t, TunTo.refl h, rfl, hr, hl⟩ ?_
  rintro D ⟨⟩ w2 ⟨t1, ⟨F1, x1, h1, m1, f1⟩, hfin, hr1, hl1⟩
  have hqN := queueN_eq h1
  obtain ⟨hsw, hw⟩ := h1.way
  obtain ⟨hsq, hq⟩ := h1.queue
  have nw1 := hw.count
  have nq1 := hq.count
  have nw2 := hw.all.length
  have nq2 := hq.all.length
  have done : ∀ n : Nat, t1 = t.slide → TunTo w (w2.drewN n) G F g t.slide := fun n e => by
    rw [← e]; exact Tun.to_fr ⟨F1, x1, h1, m1, f1⟩ (Fr.drewN w2 n)
  intro j2
  have hj2 : ∀ (u : World), Fr w2 u → ∀ b q, t1.queue = b :: q → slideF q.length (t1.put1 b q) = t.slide → j2 u := by
    intro u hfu b q hbq hnext
    unfold j2
    have hql : q.length + 1 + t1.way.length ≤ 64 := by have := hr1; rw [hbq] at this; simpa using this
    have hu : Tun u G F1 g t1 x1 := h1.fr hfu
    refine nzS ?_
    rw [addOff]
    refine ldI0 hu.cells (show (tunL t1 x1).toArray[2]? = some (.int .i64 t1.next) from rfl) (nzS ?_)
    rw [addOff]
    refine st0 hu.cells (by show 2 < 12; decide) fun w88 hb88 hg88 hs88 => ?_
    have hc88 : w88.heap[g]? = some (.cells (tunL { t1 with next := wr (t1.next + 1) } x1).toArray t_tunnel_Tunnel (0, 0)) := hb88
    have h88 := hu.own (t' := { t1 with next := wr (t1.next + 1) }) hg88 hc88 rfl rfl rfl rfl rfl
    have hsz : w2.heap.size ≤ w88.heap.size := by have := hfu.size; omega
    obtain ⟨s0, hsq', hhs⟩ : ∃ s0 hsq', hsq = s0 :: hsq' := by
      cases hsq with
      | nil => rw [hbq] at nq2; simp at nq2
      | cons a l => exact ⟨a, l, rfl⟩
    subst hhs
    intro j3
    have hj3 : ∀ (v : World) (r : Sl), Mv (fun k => k = g) w88 v → v.heap[g]? = some (.cells (tunL { t1 with next := wr (t1.next + 1), way := t1.way ++ [(wr (t1.next + 1), b, 0)] } ⟨r, x1.queue, x1.out, x1.r⟩).toArray t_tunnel_Tunnel (0, 0)) →
        (∃ hs, WayR v (Zt G F1) r hs (t1.way ++ [(wr (t1.next + 1), b, 0)])) → j3 v := by
      intro v r hmv hc hway
      unfold j3
      let t2 : Tn := { t1 with next := wr (t1.next + 1), way := t1.way ++ [(wr (t1.next + 1), b, 0)] }
      let x2 : Shp := ⟨r, x1.queue, x1.out, x1.r⟩
      have hv : Tun v G F1 g t2 x2 := h88.wq (t' := t2) (x' := x2) hmv hc rfl rfl rfl rfl rfl hway (h88.queueK hmv (fun k hk => .inl (by rw [hk]; exact hu.fg)) fun k hk => .inl hk)
      intro n
      have hv := hv.fr (Fr.drewN v n)
      have hfv := Fr.drewN v n
      generalize v.drewN n = v2 at *
      obtain ⟨hsq2, hq2⟩ := hv.queue
      have hq3 : All2 (Cb v2 (Zt G F1)) hsq2 (b :: q) := by have := hq2.all; rwa [show t2.queue = b :: q from hbq] at this
      obtain ⟨s1, hsq3, rfl⟩ : ∃ s1 hsq3, hsq2 = s1 :: hsq3 := by
        cases hsq2 with
        | nil => exact hq3.elim
        | cons a l => exact ⟨a, l, rfl⟩
      refine nzS ?_
      rw [addOff]
      refine ldI0 hv.cells (show (tunL t2 x2).toArray[8]? = some (.int .i64 t1.you) from rfl) (nzS ?_)
      rw [addOff]
      refine ldI0 hv.cells (show (tunL t2 x2).toArray[2]? = some (.int .i64 (wr (t1.next + 1))) from rfl) (nzS ?_)
      rw [addOff]
      refine ldL0 (s := x1.queue) hv.cells rfl ?_
      refine ixS (j := 0) hq2.rd hq2.len rfl (by simp) (Fr.refl _) ?_
      refine (say_ok (p := (2, 0, t1.you, wr (t1.next + 1), 0, 0, s1, ())) (b := b) hv hq3.1.bs (by show t1.out.length ≤ _; omega)).mono fun _ w143 h143 => ?_
      obtain ⟨F4, x4, h4, m4, f4⟩ := h143
      have hq4 : t1.queue = (t2.say ⟨2, 0, t1.you, wr (t1.next + 1), 0, 0, b⟩).queue := rfl
      obtain ⟨hsq4, hqq⟩ := h4.queue
      have hqa : All2 (Cb w143 (Zt G F4)) hsq4 (b :: q) := by have := hqq.all; rwa [← hq4, hbq] at this
      have hl4 := hqa.length
      rw [List.length_cons] at hl4
      have hqn := hqq.len
      refine nzS ?_
      rw [addOff]
      refine ldL0 (s := x4.queue) h4.cells rfl ?_
      have hcut := hqq.cut (i := 1) (j := hsq4.length) (by omega) (Nat.le_refl _)
      rw [List.take_length] at hcut
      refine ⟨by decide, by rw [hqn]; omega, by have := hqq.cap; omega, ?_⟩
      rw [show ((1 : Int)).toNat = 1 from rfl, show ((x4.queue.n : Int)).toNat = hsq4.length from by rw [hqn]; omega]
      have hrows := hcut.len
      rw [List.length_drop] at hrows
      refine (Clone_rows_ok hcut.rd hcut.len (by rw [List.length_drop]; omega)).mono ?_
      rintro x147 w148 ⟨h147, hf148⟩
      refine nzS ?_
      rw [addOff]
      have h148 := h4.fr hf148
      refine st0 h148.cells (by show 4 < 12; decide) fun w150 hb150 hg150 hs150 => ?_
      have hg150' : Mv (fun k => k = g) w148 w150 := Mv.of_grown hg150 rfl
      have ealg : ∀ (y : Tn), y.queue = q → y = { (t2.say ⟨2, 0, t1.you, wr (t1.next + 1), 0, 0, b⟩) with queue := q } → y = t1.put1 b q := fun y _ h => h
      have h150 : Tun w150 G F4 g (t1.put1 b q) ⟨x4.way, x147, x4.out, x4.r⟩ := by
        have hfin147 : x147.a ≠ some ⟨g, 0, none⟩ ∨ True := .inr trivial
        refine h148.wq (t' := t1.put1 b q) (x' := ⟨x4.way, x147, x4.out, x4.r⟩) hg150' hb150 rfl rfl rfl rfl rfl (h148.wayK hg150' (fun k hk => .inl (by rw [hk]; exact h4.fg)) fun k hk => .inl hk) ⟨hsq4.drop 1, ?_⟩
        have hown : OwS w150 w143.heap.size t_s_uint8 x147 (hsq4.drop 1) := h147.mv hg150' fun ad had e => by
          have := (h147.own ad had).1
          have := tun_lt h4
          omega
        refine OwS.rw hown (fun k hk => ?_) ?_
        · rcases hk with hk | hk
          · exact h4.gl k hk
          · exact h4.fl k hk
        · have hqd : All2 (Cb w143 (Zt G F4)) (hsq4.drop 1) q := hqa.drop 1
          refine hqd.mono fun a c _ _ hr => (hr.mv (Mv.of_fr (F := fun _ => False) hf148) (fun _ h => h.elim) (fun k hk => .inl hk)).mv hg150' (fun k hk => .inl (.inr (by rw [hk]; exact h4.fg))) (fun k hk => .inl hk)
      -- all together
      have hE1 : Mv F1 w2 v2 := ((Mv.of_fr (F := F1) hfu).trans ((Mv.of_grown (F := fun k => k = g) hg88 rfl).trans (hmv.trans (Mv.of_fr (F := fun k => k = g) hfv) fun j hj => .inl hj) fun j hj => .inl hj) fun j hj => .inl (by rw [hj]; exact h1.fg))
      have hE2 : Mv F4 w143 w150 := (Mv.of_fr (F := F4) hf148).trans hg150' fun j hj => .inl (by rw [hj]; exact h4.fg)
      have t12 : TunTo w2 w150 G F1 g (t1.put1 b q) := TunTo.step hE1 (fun k hk => .inl hk) (TunTo.step m4 f4 ⟨F4, _, h150, hE2, fun k hk => .inl hk⟩)
      have hqN2 := queueN_eq h150
      refine ⟨⟨t1.put1 b q, TunTo.step m1 f1 t12, hnext, ?_, ?_⟩, ?_⟩
      · show q.length + (t1.way ++ [(wr (t1.next + 1), b, 0)]).length ≤ 64
        rw [hbq] at hr1
        simp at hr1 ⊢; omega
      · have e : (t1.put1 b q).out.length = t1.out.length + 1 := by simp [Tn.put1, Tn.say]
        show (t1.put1 b q).out.length + q.length ≤ _
        rw [e]
        rw [hbq] at hl1
        simp at hl1; omega
      · rw [hqN2, hqN, hbq]
        show q.length < _
        simp
    clear_value j3
    intro n
    have h89 := h88.fr (Fr.drewN w88 n)
    have hf89 := Fr.drewN w88 n
    generalize w88.drewN n = w89 at *
    obtain ⟨hsw9, hw9⟩ := h89.way
    obtain ⟨hsq9, hq9⟩ := h89.queue
    have hqa9 : All2 (Cb w89 (Zt G F1)) hsq9 (b :: q) := by have := hq9.all; rwa [show ({ t1 with next := wr (t1.next + 1) } : Tn).queue = b :: q from hbq] at this
    obtain ⟨s9, hsq9', rfl⟩ : ∃ s1 hsq3, hsq9 = s1 :: hsq3 := by
      cases hsq9 with
      | nil => exact hqa9.elim
      | cons a l => exact ⟨a, l, rfl⟩
    have hwl9 := hw9.all.length
    have hwl9 : hsw9.length = t1.way.length := hwl9
    refine nzS ?_
    rw [addOff]
    refine ldL0 (s := x1.way) h89.cells rfl (nzS ?_)
    rw [addOff]
    refine ldI0 h89.cells (show (tunL { t1 with next := wr (t1.next + 1) } x1).toArray[2]? = some (.int .i64 (wr (t1.next + 1))) from rfl) (nzS ?_)
    rw [addOff]
    refine ldL0 (s := x1.queue) h89.cells rfl ?_
    refine ixS (j := 0) hq9.rd hq9.len rfl (by simp) (Fr.refl _) ?_
    -- what is put on the way
    have fin : ∀ (v : World) (c : Sl) (e : Nat), Fr w89 v → OwW v w89.heap.size c hsw9 → v.heap[e]? = some (.cells ([.int .i64 (wr (t1.next + 1)), .slice s9.a s9.n s9.c, .int .i64 0] : List Value).toArray t_tunnel_sent (0, 0)) → w89.heap.size ≤ e →
        app Tryz.prog t_s_tunnel_sent t_s_tunnel_sent c ⟨some ⟨e, 0, none⟩, 1, 1⟩ v fun r v2 => nz (some ⟨g, 0, none⟩) fun a => st1 v2 (a.add 3) (.slice r.a r.n r.c) fun v3 => j3 v3 := by
      intro v c e hfv hc he hee
      have hrd : Rd v (some ⟨e, 0, none⟩) (wayV [(wr (t1.next + 1), s9, 0)]) := by
        intro j u hu
        refine ⟨_, rfl, ?_⟩
        rw [addOff, cell_of_row v e _ _ _ _ he]
        simpa [wayV] using hu
      have hcl := hc.len
      refine app_own slW hc hrd rfl (wayV_one _) ?_ (by dsimp only; omega) hfv.size fun r v2 hrn hown hgv hat => ?_
      · dsimp only; omega
      have hwv : wayV hsw9 ++ wayV [(wr (t1.next + 1), s9, 0)] = wayV (hsw9 ++ [(wr (t1.next + 1), s9, 0)]) := by simp [wayV]
      rw [hwv] at hown
      have hown : OwW v2 w89.heap.size r (hsw9 ++ [(wr (t1.next + 1), s9, 0)]) := hown
      have hfv2 : Fr w89 v2 := hfv.on ((Below.refl w89.heap.size v).grown hgv hfv.size fun k hk => (World.ownsRow.lt hc k hk).1)
      refine nzS ?_
      rw [addOff]
      refine st0 (hfv2.heap h89.cells) (by show 3 < 12; decide) fun v3 hb3 hg3 hs3 => ?_
      have hmg : Mv (fun k => k = g) v2 v3 := Mv.of_grown hg3 rfl
      have hmv : Mv (fun k => k = g) w89 v3 := Mv.trans (F := fun k => k = g) (Mv.of_fr hfv2) hmg fun j hj => .inl hj
      refine hj3 v3 r (Mv.trans (F := fun k => k = g) (Mv.of_fr hf89) hmv fun j hj => .inl hj) hb3 ⟨hsw9 ++ [(wr (t1.next + 1), s9, 0)], ?_⟩
      have hown3 : OwW v3 w89.heap.size r (hsw9 ++ [(wr (t1.next + 1), s9, 0)]) := hown.mv hmg fun ad had e => by
        have := (hown.own ad had).1
        have := tun_lt h89
        omega
      refine hown3.wayR (fun k hk => ?_) ?_
      · rcases hk with hk | hk
        · exact h89.gl k hk
        · exact h89.fl k hk
      · have tr : ∀ {a : Sl} {l : List UInt8}, Cb w89 (Zt G F1) a l → Cb v3 (Zt G F1) a l := fun hr => hr.mv hmv (fun k hk => .inl (.inr (by rw [hk]; exact h89.fg))) fun k hk => .inl hk
        exact All2.append (hw9.all.mono fun a c _ _ hr => ⟨hr.1, tr hr.2.1, hr.2.2⟩) ⟨⟨rfl, tr hqa9.1, rfl⟩, trivial⟩
    have hwrd := hw9.rd
    have hwln := hw9.len
    refine ⟨?_, ?_⟩
    · refine (Clone_sent_ok hwrd hwln (by omega)).mono ?_
      rintro x98 w99 ⟨h98, hf99⟩
      refine ⟨hf99, ?_⟩
      refine nwI fun e w101 he hse hfe hbe _ => ⟨hfe, ?_⟩
      exact fin w101 x98 e (hf99.trans hfe) (h98.fr hfe) hbe (by have := hf99.size; omega)
    · refine nwI fun e w107 he hse hfe hbe _ => ⟨hfe, ?_⟩
      refine (Clone_sent_ok (hwrd.below hfe) hwln (by omega)).mono ?_
      rintro x108 w109 ⟨h108, hf109⟩
      refine ⟨hf109, ?_⟩
      refine fin w109 x108 e (hfe.trans hf109) ?_ (hf109.heap hbe) (by omega)
      refine ⟨h108.1, ?_⟩
      rcases h108.2 with hn | ⟨g', cap, cur, hv, hgb, rest⟩
      · exact .inl hn
      · exact .inr ⟨g', cap, cur, hv, by omega, rest⟩
  clear_value j2
  refine nzS ?_
  rw [addOff]
  refine ldL0 (s := x1.queue) h1.cells rfl ?_
  refine bD ?_ ?_ <;> intro hq0
  · obtain ⟨b, q, hbq⟩ : ∃ b q, t1.queue = b :: q := by
      cases hqq : t1.queue with
      | nil => rw [hqq] at nq1; simp at nq1; omega
      | cons b q => exact ⟨b, q, rfl⟩
    have hstep : slideF t1.queue.length t1 = if t1.can then slideF q.length (t1.put1 b q) else t1 := by
      rw [hbq, List.length_cons, slideF, hbq]
    refine nzS ?_
    rw [addOff]
    refine ldL0 (s := x1.way) h1.cells rfl ?_
    refine bE ?_ ?_ <;> intro hw0
    · have hcan : t1.can = true := by
        have : t1.way = [] := List.eq_nil_of_length_eq_zero (by omega)
        unfold Tn.can; rw [this]
      rw [hcan, if_pos rfl] at hstep
      intro n
      exact hj2 _ (Fr.drewN w2 n) b q hbq (hstep.symm.trans hfin)
    · obtain ⟨y, l, hyl⟩ : ∃ y l, t1.way = y :: l := by
        cases hww : t1.way with
        | nil => rw [hww] at nw1; simp at nw1; omega
        | cons y l => exact ⟨y, l, rfl⟩
      have hwa : All2 (fun a b => a.1 = b.1 ∧ Cb w2 (Zt G F1) a.2.1 b.2.1 ∧ a.2.2 = b.2.2) hsw (y :: l) := by have := hw.all; rwa [hyl] at this
      obtain ⟨a0, hsw', rfl⟩ : ∃ a l, hsw = a :: l := by
        cases hsw with
        | nil => exact hwa.elim
        | cons a l => exact ⟨a, l, rfl⟩
      have hcan : t1.can = decide (wr (wr (t1.next + 1) - y.1) < 16) := by unfold Tn.can; rw [hyl]
      refine nzS ?_
      rw [addOff]
      refine ldI0 h1.cells (show (tunL t1 x1).toArray[2]? = some (.int .i64 t1.next) from rfl) (nzS ?_)
      rw [addOff]
      refine ldL0 (s := x1.way) h1.cells rfl ?_
      obtain ⟨ad, had, hcell⟩ := hw.rd.at 0 (by rw [wayV_length]; simp)
      refine ⟨by decide, by omega, ?_⟩
      rw [had]
      refine ⟨y.1, ?_, ?_⟩
      · have e0 : (wayV (a0 :: hsw'))[0]'(by rw [wayV_length]; simp) = .int .i64 a0.1 := rfl
        rw [e0, hwa.1.1] at hcell
        exact hcell
      · intro n
        refine bD ?_ ?_ <;> intro hlt
        · rw [hcan, decide_eq_true hlt, if_pos rfl] at hstep
          exact hj2 _ (Fr.drewN w2 n) b q hbq (hstep.symm.trans hfin)
        · rw [hcan, decide_eq_false hlt] at hstep
          exact done n (hstep.symm.trans hfin)
  · intro n
    have hq0' : t1.queue = [] := List.eq_nil_of_length_eq_zero (by omega)
    rw [hq0'] at hfin
    exact done n hfin
end
end Go.Proofs.YtoglafmpllimgaaGreatDoor
namespace Go.Proofs.YtoglafmpllimgaaGreatDoor
open Go.RowKit Go.Fl

section
variable {w : World} {G F : Nat → Prop} {g : Nat} {t : Tn} {x : Shp}
theorem hello_ok {p : y_api_Frame} {b : List UInt8} (h : Tun w G F g t x) (hl : t.out.length ≤ 1073741824) :
    cl Tryz.prog n_tunnel_Tunnel_hello #[.pointer (some ⟨g, 0, none⟩), frV p] (.tup .nil) w fun (_ : Unit) w' => TunTo w w' G F g (t.hello (fmOf p b)) := by
  refine tunnel_Tunnel_hello.cl (p0 := some ⟨g, 0, none⟩) (p1 := p) ?_
  unfold tunnel_Tunnel_hello
  refine nwI fun a1 w2 ha1 hs2 hf2 hb1 _ => ?_
  have h2 := h.fr hf2
  have pre : ∀ {w' : World} {t' : Tn}, TunTo w2 w' G F g t' → TunTo w w' G F g t' := fun h' => TunTo.step (Mv.of_fr hf2) (fun k hk => .inl hk) h'
  have c1 : ∀ {u : World} {K : Int → Prop}, Fr w2 u → K p.2.1 → ld (.I .i64) u ((⟨a1, 0, none⟩ : Addr).add 1) K := fun hf hK => ldI0 (hf.heap hb1) rfl hK
  have c2 : ∀ {u : World} {K : Int → Prop}, Fr w2 u → K p.2.2.1 → ld (.I .i64) u ((⟨a1, 0, none⟩ : Addr).add 2) K := fun hf hK => ldI0 (hf.heap hb1) rfl hK
  have me : ∀ {u : World} {K : Int → Prop}, Fr w2 u → K t.me → nz (some ⟨g, 0, none⟩) fun a => ld (.I .i64) u (a.add 7) K := fun hf hK => ldI0 (hf.heap h2.cells) (show (tunL t x).toArray[7]? = some (.int .i64 t.me) from rfl) hK
  have you : ∀ {u : World} {K : Int → Prop}, Fr w2 u → K t.you → nz (some ⟨g, 0, none⟩) fun a => ld (.I .i64) u (a.add 8) K := fun hf hK => ldI0 (hf.heap h2.cells) (show (tunL t x).toArray[8]? = some (.int .i64 t.you) from rfl) hK
  refine c2 (Fr.refl _) (me (Fr.refl _) ?_)
  intro n1
  have hf6 := Fr.drewN w2 n1
  generalize w2.drewN n1 = w6 at *
  have pre6 : ∀ {u w' : World} {t' : Tn}, Fr w2 u → TunTo u w' G F g t' → TunTo w w' G F g t' := fun hf h' => pre (TunTo.step (Mv.of_fr hf) (fun k hk => .inl hk) h')
  have stay : ∀ {u : World}, Fr w2 u → TunTo w u G F g t := fun hf => pre6 hf (TunTo.refl (h2.fr hf))
  refine bNe ?_ ?_ <;> intro hy
  · have e : t.hello (fmOf p b) = if p.2.1 ≥ t.you then t.say (hel p.2.1) else t := by unfold Tn.hello; rw [if_pos hy]
    rw [e]
    refine c1 hf6 (you hf6 ?_)
    intro n2
    have hf10 := hf6.trans (Fr.drewN w6 n2)
    refine bD ?_ ?_ <;> intro hge
    · rw [if_pos hge]
      refine c1 hf10 ?_
      exact (say_ok (p := (1, 0, p.2.1, 0, 0, 0, ⟨none, 0, 0⟩, ())) (h2.fr hf10) (Bs.nil _ _) hl).mono fun _ _ h' => pre6 hf10 h'
    · rw [if_neg hge]
      exact stay hf10
  · have e : t.hello (fmOf p b) = if p.2.1 > t.you ∨ (p.2.1 = t.you ∧ t.up = false) then t.beg p.2.1 else if p.2.1 = t.you then { t with sil := 0 } else t := by unfold Tn.hello; rw [if_neg (fun h => h hy)]
    intro j1
    have hj1 : ∀ (y : Bool) (u : World), Fr w2 u → (y = true ↔ (p.2.1 > t.you ∨ (p.2.1 = t.you ∧ t.up = false))) → j1 y u := by
      intro y u hfu hyy
      show bif y then _ else _
      rw [e]
      cases y with
      | true =>
        rw [if_pos (hyy.1 rfl)]
        refine bT rfl (c1 hfu ?_)
        exact (beg_ok (h2.fr hfu) hl).mono fun _ _ h' => pre6 hfu h'
      | false =>
        rw [if_neg fun h => by have := hyy.2 h; cases this]
        refine bF rfl (c1 hfu (you hfu ?_))
        intro n3
        have hf36 := hfu.trans (Fr.drewN u n3)
        refine bE ?_ ?_ <;> intro heq
        · rw [if_pos heq]
          have hu := h2.fr hf36
          refine nzS ?_
          rw [addOff]
          refine st0 hu.cells (by show 1 < 12; decide) fun w38 hb38 hg38 hs38 => ?_
          have h38 := hu.own (t' := { t with sil := 0 }) hg38 hb38 rfl rfl rfl rfl rfl
          exact pre6 hf36 ⟨F, x, h38, Mv.of_grown hg38 h.fg, fun k hk => .inl hk⟩
        · rw [if_neg heq]
          exact stay hf36
    clear_value j1
    refine c1 hf6 (you hf6 ?_)
    refine bD ?_ ?_ <;> intro h1
    · intro n2
      exact hj1 true _ (hf6.trans (Fr.drewN w6 n2)) ⟨fun _ => .inl h1, fun _ => rfl⟩
    refine c1 hf6 (you hf6 ?_)
    refine bE ?_ ?_ <;> intro h3
    · refine nzS ?_
      refine ldB0 (hf6.heap h2.cells) (show (tunL t x).toArray[0]? = some (.bool t.up) from rfl) ?_
      intro n2
      refine hj1 _ _ (hf6.trans (Fr.drewN w6 n2)) ?_
      rw [Bool.not_eq_true']
      exact ⟨fun h => .inr ⟨h3, h⟩, fun h => (h.resolve_left h1).2⟩
    · intro n2
      exact hj1 false _ (hf6.trans (Fr.drewN w6 n2)) ⟨(fun h => by cases h), fun h => by rcases h with h | h; exact absurd h h1; exact absurd h.1 h3⟩
/-- What it said is handed out. -/
theorem tOut_ok (h : Tun w G F g t x) (hme : 1 ≤ t.me) : cl Tryz.prog n_tunnel_Tunnel_Out #[.pointer (some ⟨g, 0, none⟩)] .L w fun (r : Sl) w' =>
    ∃ F' x' hs, Tun w' G F' g t.clear x' ∧ Mv F w w' ∧ (∀ k, F' k → F k) ∧ OwS w' 0 t_s_uint8 r hs ∧ All2 (Cb w' (Zt G F')) hs t.out ∧ ∀ ad, r.a = some ad → F ad.block ∧ ¬F' ad.block := by
  refine tunnel_Tunnel_Out.cl (p0 := some ⟨g, 0, none⟩) ?_
  unfold tunnel_Tunnel_Out
  refine (made_ok h hme).mono ?_
  rintro _ _ ⟨rfl, rfl⟩
  refine bF rfl (nzS ?_)
  rw [addOff]
  refine ldL0 (s := x.out) h.cells rfl (nzS ?_)
  rw [addOff]
  refine st0 h.cells (by show 11 < 12; decide) fun w6 hb6 hg6 hs6 => ?_
  obtain ⟨hs3, h3, h4⟩ := h.out
  have hmg : Mv (fun k => k = g) w w6 := Mv.of_grown hg6 rfl
  let F' : Nat → Prop := fun k => F k ∧ ∀ o, x.out.a = some o → o.block ≠ k
  have hFF : ∀ k, F' k → F k := fun k hk => hk.1
  have hEZ : ∀ k, k = g → Zt G F k ∨ w.heap.size ≤ k := fun k hk => .inl (.inr (by rw [hk]; exact h.fg))
  have hZ : ∀ k, Zt G F' k → Zt G F k ∨ w.heap.size ≤ k := fun k hk => .inl (hk.imp id (hFF k))
  obtain ⟨hs1, h1⟩ := h.way
  obtain ⟨hs2, h2⟩ := h.queue
  refine ⟨F', ⟨x.way, x.queue, ⟨none, 0, 0⟩, x.r⟩, hs3, ⟨hb6, ⟨h.fg, fun o ho => (h.outf o ho).2⟩, fun k hk => by have := h.fl k hk.1; omega, fun k hk => by have := h.gl k hk; omega, fun k hk hf => h.gf k hk hf.1, ⟨hs1, h1.mv hmg hEZ hZ⟩, ⟨hs2, h2.mv hmg hEZ hZ⟩, ⟨[], OwS.nil _ _ _, trivial⟩, fun ad ha => (by cases ha), ?_, h.crc.mv hmg fun e => h.nt (.inr (by rw [e]; exact h.fg)), fun hz => h.nt (hz.imp id (hFF _)), h.upr⟩, Mv.of_grown hg6 h.fg, hFF, h3.mv hmg fun ad ha => (h.outf ad ha).2, h4.mono fun a b _ _ hr => hr.mv hmg hEZ hZ, fun ad ha => ⟨(h.outf ad ha).1, fun hf => hf.2 ad ha rfl⟩⟩
  exact h.early.mv (F' := F') (out' := ⟨none, 0, 0⟩) hmg (fun k hk => .inl hk) (fun k hk _ ho => ⟨hk, ho⟩) (fun o' ho' => by cases ho')
end
end Go.Proofs.YtoglafmpllimgaaGreatDoor
namespace Go.Proofs.YtoglafmpllimgaaGreatDoor
open Go.RowKit Go.Fl

abbrev elW (a : Int × Sl × Int) : y_tunnel_sent := (a.1, a.2.1, a.2.2, ())
theorem wayV_get {hs : WayH} {j : Nat} (h : j < hs.length) : (wayV hs)[j * 3]? = some (.int .i64 hs[j].1) ∧ (wayV hs)[j * 3 + 1]? = some (slV hs[j].2.1) ∧ (wayV hs)[j * 3 + 2]? = some (.int .i64 hs[j].2.2) := by
  induction hs generalizing j with
  | nil => simp at h
  | cons a l ih =>
    have e : wayV (a :: l) = .int .i64 a.1 :: slV a.2.1 :: .int .i64 a.2.2 :: wayV l := by simp [wayV]
    rw [e]
    cases j with
    | zero => exact ⟨rfl, rfl, rfl⟩
    | succ j =>
      have := ih (j := j) (by simpa using h)
      rw [show (j + 1) * 3 = j * 3 + 1 + 1 + 1 from by omega]
      simp only [List.getElem?_cons_succ, List.getElem_cons_succ]
      exact this
theorem wayV_set {hs : WayH} {j : Nat} (h : j < hs.length) (a : Int × Sl × Int) : (wayV hs).take (j * 3) ++ [.int .i64 a.1, slV a.2.1, .int .i64 a.2.2] ++ (wayV hs).drop (j * 3 + 3) = wayV (hs.set j a) := by
  induction hs generalizing j with
  | nil => simp at h
  | cons b l ih =>
    have e : ∀ c : Int × Sl × Int, ∀ m : WayH, wayV (c :: m) = .int .i64 c.1 :: slV c.2.1 :: .int .i64 c.2.2 :: wayV m := fun c m => by simp [wayV]
    cases j with
    | zero => rw [e]; simp [e]
    | succ j =>
      have := ih (j := j) (by simpa using h)
      rw [List.set_cons_succ, e, e, ← this, show (j + 1) * 3 = j * 3 + 1 + 1 + 1 from by omega]
      simp
/-- A frame of a row is read. -/
theorem ixW3 {w : World} {s : Sl} {hs : WayH} {i : Int} {j : Nat} {K : y_tunnel_sent → Prop} (hr : Rd w s.a (wayV hs)) (hl : s.n = hs.length) (hij : i = (j : Int)) (hj : j < hs.length) (h : K (elW hs[j])) : ixa s.a s.n i 3 fun a => ld k_tunnel_sent w a K := by
  subst hij
  obtain ⟨v0, v1, v2⟩ := wayV_get hj
  obtain ⟨ad, ha, c0⟩ := hr _ _ v0
  obtain ⟨ad1, ha1, c1⟩ := hr _ _ v1
  obtain ⟨ad2, ha2, c2⟩ := hr _ _ v2
  rw [ha] at ha1 ha2
  cases ha1; cases ha2
  refine ⟨by omega, by omega, ?_⟩
  rw [ha]
  refine ⟨hs[j].1, ?_, hs[j].2.1, ?_, hs[j].2.2, ?_, h⟩
  · rw [atOff_eq, Int.toNat_natCast]; exact c0
  · show w.cell? ((atOff ad (j : Int) 3).add 1) = _
    rw [atOff_eq, add_add, Int.toNat_natCast]; exact c1
  · show w.cell? (((atOff ad (j : Int) 3).add 1).add 1) = _
    rw [atOff_eq, add_add, add_add, Int.toNat_natCast]; exact c2
/-- A frame of an own row is written. -/
theorem stW3 {w : World} {base : Nat} {s : Sl} {hs : WayH} {i : Int} {j : Nat} {K : World → Prop} (h : OwW w base s hs) (hij : i = (j : Int)) (hj : j < hs.length) (a : Int × Sl × Int)
    (hk : ∀ w', OwW w' base s (hs.set j a) → (∀ k, some k ≠ s.a.map (·.block) → w'.heap[k]? = w.heap[k]?) → w'.heap.size = w.heap.size → Below base w w' → K w') : ixa s.a s.n i 3 fun ad => st w ad (Kd.av k_tunnel_sent (elW a)) K := by
  subst hij
  have hl := h.len
  obtain ⟨h1, h2⟩ := h
  rcases h2 with ⟨_, hn⟩ | ⟨g, cap, cur, hs', hb, hg, hnc, hcm, hsz, ht⟩
  · omega
  · have ha : s.a = some ⟨g, 0, none⟩ := by injection hs'
    refine ⟨by omega, by omega, ?_⟩
    rw [ha]
    show st w (atOff ⟨g, 0, none⟩ (j : Int) 3) _ K
    rw [atOff_eq, addOff, Nat.zero_add, Int.toNat_natCast]
    have hcl : cur.toList.length = cap * 3 := by rw [Array.length_toList]; exact hsz
    have hpre : (cur.toList.take (j * 3)).length = j * 3 := by rw [List.length_take]; omega
    have hcur : cur.toList = cur.toList.take (j * 3) ++ (cur.toList.drop (j * 3)).take 3 ++ cur.toList.drop (j * 3 + 3) := by
      rw [List.append_assoc, ← List.drop_drop, List.take_append_drop, List.take_append_drop]
    have hg' : w.heap[g]? = some (.cells (cur.toList.take (j * 3) ++ (cur.toList.drop (j * 3)).take 3 ++ cur.toList.drop (j * 3 + 3)).toArray t_tunnel_sent (0, 0)) := by
      rw [← hcur, Array.toArray_toList]; exact hg
    have e3 : (⟨g, j * 3, none⟩ : Addr) = ⟨g, (cur.toList.take (j * 3)).length, none⟩ := by rw [hpre]
    rw [e3]
    refine st_all (Kd.av k_tunnel_sent (elW a)) rfl hg' (by rw [List.length_take, List.length_drop]; show _ = 3; omega) fun w' hb' hgr hsz' => hk w' ?_ (fun k hk => ?_) hsz' ⟨hgr.os, hgr.tape, hgr.output, hgr.size, fun k hk => ?_⟩
    · refine ⟨by rw [wayV_length, List.length_set]; omega, .inr ⟨g, cap, _, by rw [hs'], hb, hb', hnc, hcm, ?_, ?_⟩⟩
      · rw [List.size_toArray, List.length_append, List.length_append, hpre, List.length_drop]
        show j * 3 + 3 + _ = _
        omega
      · show ((cur.toList.take (j * 3) ++ [.int .i64 a.1, slV a.2.1, .int .i64 a.2.2] ++ cur.toList.drop (j * 3 + 3)).take (s.n * 3)) = _
        rw [← wayV_set hj, ← ht]
        have e1 : (cur.toList.take (s.n * 3)).take (j * 3) = cur.toList.take (j * 3) := by rw [List.take_take, Nat.min_eq_left (by omega)]
        have e2 : (cur.toList.take (s.n * 3)).drop (j * 3 + 3) = (cur.toList.drop (j * 3 + 3)).take (s.n * 3 - (j * 3 + 3)) := by rw [List.drop_take]
        rw [e1, e2, List.take_append, List.take_of_length_le (by rw [List.length_append, hpre]; simp; omega), List.length_append, hpre]
        rfl
    · rw [ha] at hk
      by_cases hkl : k < w.heap.size
      · exact hgr.block k hkl hk
      · rw [Array.getElem?_eq_none (by omega), Array.getElem?_eq_none (by omega)]
    · by_cases hkl : k < w.heap.size
      · exact hgr.block k hkl (fun e => by cases e; omega)
      · rw [Array.getElem?_eq_none (by omega), Array.getElem?_eq_none (by omega)]
/-- What a predicate of the program's says. -/
def Says (w : World) (v : Value) (pr : Int × Sl × Int → Bool) : Prop := ∀ (u : World) (a : Int × Sl × Int), w.heap.size ≤ u.heap.size → (∀ k, k < w.heap.size → u.heap[k]? = w.heap[k]?) → ∀ {K : Bool → World → Prop}, (∀ u', Fr u u' → K (pr a) u') → clv Tryz.prog v #[(Kd.av k_tunnel_sent (elW a)).val] .B u K
theorem IndexFunc_ok {s : Sl} {hs : WayH} {v : Value} {pr : Int × Sl × Int → Bool} {w0 w : World} (hr : Rd w s.a (wayV hs)) (hl : s.n = hs.length) (hlen : hs.length ≤ 1073741824) (hv : Says w0 v pr) (h0 : w0.heap.size ≤ w.heap.size) (h1 : ∀ k, k < w0.heap.size → w.heap[k]? = w0.heap[k]?) :
    cl Tryz.prog n_slices_IndexFunc_tunnel_sent_tunnel_sent #[.slice s.a s.n s.c, v] (.I .i64) w fun (r : Int) w' => Fr w w' ∧ ((r = -1 ∧ ∀ a ∈ hs, pr a = false) ∨ ∃ (i : Nat) (hi : i < hs.length), r = i ∧ pr hs[i] = true ∧ ∀ a ∈ hs.take i, pr a = false) := by
  refine slices_IndexFunc_tunnel_sent_tunnel_sent.cl ?_
  unfold slices_IndexFunc_tunnel_sent_tunnel_sent
  refine lpI (fun s' w' => Fr w w' ∧ ∃ i : Nat, i ≤ hs.length ∧ s'.1 = i ∧ ∀ a ∈ hs.take i, pr a = false) (fun s' _ => (s.n - s'.1).toNat) ⟨Fr.refl w, 0, Nat.zero_le _, rfl, by simp⟩ ?_
  rintro D ⟨i', ⟨⟩⟩ w2 ⟨hf2, i, hi, rfl, hno⟩
  dsimp only
  refine bD ?_ ?_ <;> intro hlt
  · have hih : i < hs.length := by omega
    refine ixW3 (hr.below hf2) hl rfl hih ?_
    have hz := hf2.size
    refine hv w2 hs[i] (by omega) (fun k hk => by rw [hf2.block k (by omega)]; exact h1 k hk) fun w8 hf8 => ?_
    refine bB ?_ ?_ <;> intro hp
    · exact ⟨hf2.trans hf8, .inr ⟨i, hih, rfl, hp, hno⟩⟩
    · rw [i64w (by omega) (by omega)]
      refine ⟨⟨hf2.trans hf8, i + 1, by omega, rfl, fun a ha => ?_⟩, by omega⟩
      rw [List.take_succ_eq_append_getElem hih] at ha
      rcases List.mem_append.1 ha with ha | ha
      · exact hno a ha
      · rw [List.mem_singleton] at ha; rw [ha]; exact hp
  · refine ⟨hf2, .inl ⟨rfl, fun a ha => hno a ?_⟩⟩
    rw [List.take_of_length_le (by omega)]; exact ha
theorem filter_none {hs : WayH} {pr : Int × Sl × Int → Bool} (h : ∀ a ∈ hs, pr a = false) : hs.filter (fun a => !pr a) = hs := by
  rw [List.filter_eq_self]
  intro a ha
  rw [h a ha]; rfl
theorem DeleteFunc_ok {s : Sl} {hs : WayH} {v : Value} {pr : Int × Sl × Int → Bool} {w0 w : World} {base : Nat} (ho : OwW w base s hs) (hlen : hs.length ≤ 1073741824) (hv : Says w0 v pr) (h0 : w0.heap.size ≤ base) (hbw : base ≤ w.heap.size) (h1 : ∀ k, k < w0.heap.size → w.heap[k]? = w0.heap[k]?) :
    cl Tryz.prog n_slices_DeleteFunc_tunnel_sent_tunnel_sent #[.slice s.a s.n s.c, v] .L w fun (r : Sl) w' => OwW w' base r (hs.filter fun a => !pr a) ∧ Below base w w' := by
  refine slices_DeleteFunc_tunnel_sent_tunnel_sent.cl ?_
  unfold slices_DeleteFunc_tunnel_sent_tunnel_sent
  have hl := ho.len
  refine (IndexFunc_ok ho.rd hl hlen hv (by omega) h1).mono ?_
  rintro r w2 ⟨hf2, hcase⟩
  rcases hcase with ⟨rfl, hno⟩ | ⟨i0, hi0, rfl, hp0, hno⟩
  · refine bT rfl ?_
    rw [filter_none hno]
    exact ⟨ho.fr hf2, hf2.mono hbw⟩
  refine bF (by rw [beq_eq_false_iff_ne]; omega) ?_
  rw [i64w (by omega) (by omega)]
  refine lpI (fun s' w' => Below base w w' ∧ ∃ (i j : Nat) (hs' : WayH), i < j ∧ j ≤ hs.length ∧ s'.1 = i ∧ s'.2.1 = j ∧ OwW w' base s hs' ∧ hs'.length = hs.length ∧ hs'.take i = (hs.take j).filter (fun a => !pr a) ∧ hs'.drop j = hs.drop j) (fun s' _ => (s.n - s'.2.1).toNat)
    ⟨hf2.mono hbw, i0, i0 + 1, hs, by omega, by omega, rfl, by dsimp only; omega, ho.fr hf2, rfl, ?_, rfl⟩ ?_
  · rw [List.take_succ_eq_append_getElem hi0, List.filter_append, filter_none hno]
    simp [hp0]
  rintro D ⟨i', j', ⟨⟩⟩ w4 ⟨hb4, i, j, hs', hij, hj, rfl, rfl, ho4, hl', hti, hdj⟩
  dsimp only
  have hl4 := ho4.len
  have hz4 := hb4.size
  refine bD ?_ ?_ <;> intro hlt
  · have hjh : j < hs'.length := by omega
    have hjh2 : j < hs.length := by omega
    have hel : hs'[j] = hs[j] := by
      have h1 := congrArg (fun l => l[0]?) hdj
      simpa [List.getElem?_drop, List.getElem?_eq_getElem hjh, List.getElem?_eq_getElem hjh2] using h1
    refine ixW3 ho4.rd hl4 rfl hjh ?_
    refine nwI fun a9 w10 ha9 hs10 hf10 hb10 _ => ?_
    refine stW (Kd.av k_tunnel_sent (elW hs'[j])) rfl hb10 rfl fun w11 hb11 hg11 hs11 => ?_
    have hf11 : Fr w4 w11 := hf10.on (grown_below hg11 (by omega) hf10.size)
    refine ldW (k := k_tunnel_sent) (x := elW hs'[j]) hb11 rfl ?_
    have hb11' : Below base w w11 := hb4.trans (hf11.mono (by omega))
    refine hv w11 hs'[j] (by have := hf11.size; omega) (fun k hk => by rw [hb11'.block k (by omega)]; exact h1 k hk) fun w14 hf14 => ?_
    have hf14' := hf11.trans hf14
    have ho14 := ho4.fr hf14'
    have hb14 : Below base w w14 := hb4.trans (hf14'.mono (by omega))
    have htk : hs.take (j + 1) = hs.take j ++ [hs[j]] := List.take_succ_eq_append_getElem hjh2
    rw [i64w (n := (i : Int) + 1) (by omega) (by omega), i64w (n := (j : Int) + 1) (by omega) (by omega)]
    refine bB ?_ ?_ <;> intro hp
    · have hp : pr hs'[j] = false := by simpa using hp
      refine ldW (k := k_tunnel_sent) (x := elW hs'[j]) (hf14.heap hb11) rfl ?_
      refine stW3 ho14 rfl (show i < hs'.length by omega) hs'[j] fun w17 ho17 _ hs17 hb17 => ?_
      refine ⟨⟨hb14.trans hb17, i + 1, j + 1, hs'.set i hs'[j], by omega, by omega, rfl, rfl, ho17, by rw [List.length_set]; exact hl', ?_, ?_⟩, by omega⟩
      · rw [htk, List.filter_append, ← hti, ← hel]
        have hi' : i < (hs'.set i hs'[j]).length := by rw [List.length_set]; omega
        rw [List.take_succ_eq_append_getElem hi', List.getElem_set_self, List.take_set_of_le (Nat.le_refl _)]
        simp [hp]
      · rw [List.drop_set_of_lt (by omega), ← List.drop_drop, hdj, List.drop_drop]
    · refine ⟨⟨hb14, i, j + 1, hs', by omega, by omega, rfl, rfl, ho14, hl', ?_, ?_⟩, by omega⟩
      · rw [htk, List.filter_append, ← hti, ← hel]
        simp [hp]
      · rw [← List.drop_drop, hdj, List.drop_drop]
  · obtain rfl : j = hs.length := by omega
    rw [List.take_length] at hti
    have hflen : (hs.filter fun a => !pr a).length = i := by rw [← hti, List.length_take]; omega
    have hcap := ho4.cap
    -- the row's block
    obtain ⟨g, cap, cur, hs4, hgb, hgg, hnc, hcm, hsz, ht⟩ := ho4.2.resolve_left fun h => by omega
    have ha : s.a = some ⟨g, 0, none⟩ := by injection hs4
    have hc : s.c = cap := by injection hs4
    have hcl : cur.toList.length = cap * 3 := by rw [Array.length_toList]; exact hsz
    refine ⟨by omega, by omega, by omega, ?_⟩
    have hcut : cut s i s.n 3 = ⟨some ⟨g, i * 3, none⟩, s.n - i, s.c - i⟩ := by
      unfold cut
      rw [if_neg (by omega), ha]
      simp only [Option.map_some]
      rw [atOff_eq, addOff, Nat.zero_add, Int.toNat_natCast]
    rw [Int.toNat_natCast, Int.toNat_natCast, hcut]
    have fin : ∀ (u : World) (cs' : List Value), u.heap[g]? = some (.cells cs'.toArray t_tunnel_sent (0, 0)) → cs'.length = cur.toList.length → cs'.take (i * 3) = cur.toList.take (i * 3) → Below base w u → sls s 0 (i : Int) 3 fun r => OwW u base r (hs.filter fun a => !pr a) ∧ Below base w u := by
      intro u cs' hb' hlc htc hbu
      refine ⟨Int.le_refl _, by omega, by omega, ?_, hbu⟩
      have hcut2 : cut s 0 i 3 = ⟨some ⟨g, 0, none⟩, i, cap⟩ := by
        unfold cut
        rw [if_neg (by omega), ha, hc]
        simp only [Option.map_some, Nat.sub_zero]
        rw [atOff_eq]
        simp [Addr.add]
      rw [Int.toNat_zero, Int.toNat_natCast, hcut2]
      refine ⟨by rw [wayV_length, hflen], .inr ⟨g, cap, _, rfl, hgb, hb', by show i ≤ cap; omega, hcm, by rw [List.size_toArray, hlc, hcl], ?_⟩⟩
      show cs'.take (i * 3) = _
      rw [htc, ← hti]
      have e1 : cur.toList.take (i * 3) = (cur.toList.take (s.n * 3)).take (i * 3) := by rw [List.take_take, Nat.min_eq_left (by omega)]
      rw [e1, ht]
      clear e1 htc hti hcut2
      have : ∀ (l : WayH) (i : Nat), (wayV l).take (i * 3) = wayV (l.take i) := by
        intro l
        induction l with
        | nil => intro i; simp [wayV]
        | cons a l ih =>
          intro i
          cases i with
          | zero => simp [wayV]
          | succ i =>
            have := ih i
            rw [show (i + 1) * 3 = i * 3 + 1 + 1 + 1 from by omega]
            simp only [wayV, List.flatMap_cons, List.take_succ_cons, List.cons_append, List.nil_append] at this ⊢
            rw [this]
      exact this hs' i
    have hcur : w4.heap[g]? = some (.cells cur.toList.toArray t_tunnel_sent (0, 0)) := by rw [Array.toArray_toList]; exact hgg
    refine rnClear slW.under (z := .agg #[.int .i64 0, .slice none 0 0, .int .i64 0]) (sz := 3) (fun w => run_zeroV (by kernel_rfl) w) rfl (by simp [Value.cells, Value.oneCell']) (fun h => ?_) fun h => ⟨g, i * 3, cur.toList, t_tunnel_sent, rfl, hcur, ?_, fun w' cs' hb' hlc htc hg' hs' => ?_⟩
    · exact fin w4 _ hcur rfl rfl hb4
    · rw [hcl]
      have := hnc
      show i * 3 + (s.n - i) * 3 ≤ cap * 3
      omega
    · exact fin w' cs' hb' hlc htc (hb4.trans ((Below.refl base w4).grown hg' (by omega) fun k hk => by cases hk; exact hgb))
section
variable {w : World} {G F : Nat → Prop} {g : Nat} {t : Tn} {x : Shp}
theorem ack1_ok {p : y_api_Frame} {a1 : Nat} {tt : TypeId} (hb : w.heap[a1]? = some (.cells (frC p).toArray tt (0, 0))) (_hbi : 0 ≤ p.2.2.2.2.2.1) (b : List UInt8) (body : List UInt8) :
    Says w (.func (.func n_tunnel_Tunnel_ack_1) #[] #[.pointer (some ⟨a1, 0, none⟩)]) fun a => gone (fmOf p b) (a.1, body, a.2.2) := by
  intro u a hsz hk K hK
  refine ⟨n_tunnel_Tunnel_ack_1, #[], #[.pointer (some ⟨a1, 0, none⟩)], rfl, ⟨Tryz.f177, Tryz.func177, by kernel_rfl, by kernel_rfl⟩, ?_⟩
  show cl Tryz.prog n_tunnel_Tunnel_ack_1 #[(Kd.av k_tunnel_sent (elW a)).val, .pointer (some ⟨a1, 0, none⟩)] .B u K
  refine tunnel_Tunnel_ack_1.cl (p0 := elW a) (p1 := some ⟨a1, 0, none⟩) ?_
  unfold tunnel_Tunnel_ack_1
  refine nwI fun a2 w2 ha2 hs2 hf2 hb2 _ => ?_
  have hu : u.heap[a1]? = some (.cells (frC p).toArray tt (0, 0)) := (hk a1 (Array.getElem?_eq_some_iff.1 hb).1).trans hb
  refine ldI0 hb2 (show (Kd.av k_tunnel_sent (elW a)).cells.toArray[0]? = some (.int .i64 a.1) from rfl) (nzS ?_)
  rw [addOff]
  refine ldI0 (hf2.heap hu) (show (frC p).toArray[4]? = some (.int .i64 p.2.2.2.2.1) from rfl) ?_
  have e : gone (fmOf p b) (a.1, body, a.2.2) = (decide (wr (wr (a.1 - p.2.2.2.2.1) - 1) < 0) || (decide (wr (wr (a.1 - p.2.2.2.2.1) - 1) < 16) && decide ((p.2.2.2.2.2.1 / 2 ^ (wr (wr (a.1 - p.2.2.2.2.1) - 1)).toNat) % 2 = 1))) := rfl
  refine bD ?_ ?_ <;> intro h0
  · have hK : K (gone (fmOf p b) (a.1, body, a.2.2)) w2 := hK w2 hf2
    rw [e, decide_eq_true h0] at hK
    exact hK
  refine bD ?_ ?_ <;> intro h16
  · refine nzS ?_
    rw [addOff]
    refine ldI0 (hf2.heap hu) (show (frC p).toArray[5]? = some (.int .i64 p.2.2.2.2.2.1) from rfl) ?_
    refine bP (by omega) ?_
    have hK : K (gone (fmOf p b) (a.1, body, a.2.2)) w2 := hK w2 hf2
    rw [e, decide_eq_false h0, decide_eq_true h16, Bool.false_or, Bool.true_and] at hK
    rw [i64_and1, Nat.min_eq_left (by omega)]
    have eb : ((p.2.2.2.2.2.1 / 2 ^ (wr (wr (a.1 - p.2.2.2.2.1) - 1)).toNat) % 2 == 1) = decide ((p.2.2.2.2.2.1 / 2 ^ (wr (wr (a.1 - p.2.2.2.2.1) - 1)).toNat) % 2 = 1) := by
      rw [Bool.eq_iff_iff, beq_iff_eq, decide_eq_true_iff]
    show K ((p.2.2.2.2.2.1 / 2 ^ (wr (wr (a.1 - p.2.2.2.2.1) - 1)).toNat) % 2 == 1) w2
    rw [eb]
    exact hK
  · have hK : K (gone (fmOf p b) (a.1, body, a.2.2)) w2 := hK w2 hf2
    rw [e, decide_eq_false h0, decide_eq_false h16] at hK
    exact hK
theorem gone_body (f : Fm) (x y : Int × List UInt8 × Int) (h : x.1 = y.1) : gone f x = gone f y := by
  unfold gone; rw [h]
theorem all2_filter {α β : Type} {R : α → β → Prop} {p : α → Bool} {q : β → Bool} : ∀ {l : List α} {m : List β}, All2 R l m → (∀ a b, R a b → p a = q b) → All2 R (l.filter p) (m.filter q)
  | [], [], _, _ => trivial
  | a :: l, b :: m, h, hp => by
    rw [List.filter_cons, List.filter_cons, hp a b h.1]
    split
    · exact ⟨h.1, all2_filter h.2 hp⟩
    · exact all2_filter h.2 hp
  | [], _ :: _, h, _ => h.elim
  | _ :: _, [], h, _ => h.elim
theorem ack_ok {p : y_api_Frame} {b : List UInt8} (h : Tun w G F g t x) (hbi : 0 ≤ p.2.2.2.2.2.1) (hr : t.queue.length + t.way.length ≤ 64) (hl : t.out.length ≤ 1073741000) :
    cl Tryz.prog n_tunnel_Tunnel_ack #[.pointer (some ⟨g, 0, none⟩), frV p] (.tup .nil) w fun (_ : Unit) w' => TunTo w w' G F g (t.ack (fmOf p b)) := by
  refine tunnel_Tunnel_ack.cl (p0 := some ⟨g, 0, none⟩) (p1 := p) ?_
  unfold tunnel_Tunnel_ack
  refine nwI fun a1 w2 ha1 hs2 hf2 hb1 _ => ?_
  have h2 := h.fr hf2
  obtain ⟨hsw, hw⟩ := h2.way
  have hwa := hw.all.length
  refine nzS ?_
  rw [addOff]
  refine ldL0 (s := x.way) h2.cells rfl ?_
  refine (Clone_sent_ok hw.rd hw.len (by omega)).mono ?_
  rintro x5 w6 ⟨h5, hf6⟩
  refine (DeleteFunc_ok (w0 := w2) (base := w2.heap.size) h5 (by omega) (ack1_ok hb1 hbi b []) (Nat.le_refl _) hf6.size hf6.block).mono ?_
  rintro x7 w8 ⟨h7, hb8⟩
  have hf8 : Fr w2 w8 := hf6.on hb8
  have h8 := h2.fr hf8
  refine nzS ?_
  rw [addOff]
  refine st0 h8.cells (by show 3 < 12; decide) fun w10 hb10 hg10 hs10 => ?_
  have hmg : Mv (fun k => k = g) w8 w10 := Mv.of_grown hg10 rfl
  have hgl := tun_lt h2
  have hz8 := hf8.size
  let t' : Tn := { t with way := t.way.filter fun x => !gone (fmOf p b) x }
  have h10 : Tun w10 G F g t' ⟨x7, x.queue, x.out, x.r⟩ := by
    refine h8.wq (t' := t') (x' := ⟨x7, x.queue, x.out, x.r⟩) hmg hb10 rfl rfl rfl rfl rfl ⟨hsw.filter (fun a => !gone (fmOf p b) (a.1, [], a.2.2)), ?_⟩ (h8.queueK hmg (fun k hk => .inl (by rw [hk]; exact h8.fg)) fun k hk => .inl hk)
    have hown : OwW w10 w2.heap.size x7 _ := h7.mv hmg fun ad had e => by have := (h7.own ad had).1; omega
    refine hown.wayR (fun k hk => ?_) ?_
    · rcases hk with hk | hk
      · exact h2.gl k hk
      · exact h2.fl k hk
    · refine all2_filter (hw.all.mono fun a c _ _ hr => ⟨hr.1, ?_, hr.2.2⟩) fun a c hr => ?_
      · exact (hr.2.1.mv (Mv.of_fr (F := fun _ => False) hf8) (fun _ h => h.elim) (fun k hk => .inl hk)).mv hmg (fun k hk => .inl (.inr (by rw [hk]; exact h8.fg))) fun k hk => .inl hk
      · rw [gone_body (fmOf p b) (a.1, [], a.2.2) c hr.1]
  have hfl : t'.way.length ≤ t.way.length := List.length_filter_le _ _
  have hq : t'.queue = t.queue := rfl
  have ho : t'.out = t.out := rfl
  refine (slide_ok h10 (by rw [hq]; omega) (by rw [hq, ho]; omega)).mono fun _ w' h' => ?_
  exact TunTo.step ((Mv.of_fr (F := F) (hf2.trans hf8)).trans (hmg.mono fun k hk => .inl (by rw [hk]; exact h.fg)) fun k hk => .inl hk) (fun k hk => .inl hk) h'
end
end Go.Proofs.YtoglafmpllimgaaGreatDoor
namespace Go.Proofs.YtoglafmpllimgaaGreatDoor
open Go.RowKit Go.Fl

/-- The block where something lies. -/
def BK (s : Sl) (k : Nat) : Prop := ∃ ad, s.a = some ad ∧ ad.block = k
def NB (hs : List Sl) (k : Nat) : Prop := ∃ h ∈ hs, BK h k
section
variable {w : World} {G F : Nat → Prop} {g : Nat} {t : Tn} {x : Shp}
/-- An early message is handed out: its block is the caller's now. -/
theorem tun_tell {w' : World} {m : Nat} {f : Int → Option Value} {sl : Int → Sl} (h : Tun w G F g t x) (hr : x.r = some m) (he : EarlyM w F g x.out m t.early f sl) {key : Int} {b : List UInt8} (hk : t.early key = some b)
    (hg : w.grownBy w' (some m)) (hM : MapF (Value.int .i64) w' m (fun k' => if k' = key then none else f k')) :
    Tun w' (fun k => G k ∨ BK (sl key) k) (fun k => F k ∧ ¬BK (sl key) k) g { t with early := setE t.early key none } x ∧ EarlyM w' (fun k => F k ∧ ¬BK (sl key) k) g x.out m (setE t.early key none) (fun k' => if k' = key then none else f k') sl := by
  have hm : Mv (fun k => k = m) w w' := Mv.of_grown hg rfl
  have hbk : ∀ ad, (sl key).a = some ad → F ad.block ∧ ad.block ≠ g ∧ ad.block ≠ m ∧ ∀ o, x.out.a = some o → o.block ≠ ad.block := he.blk key b hk
  have hEZ : ∀ k, k = m → Zt G F k ∨ w.heap.size ≤ k := fun k hk => .inl (.inr (by rw [hk]; exact he.fm))
  have hZ : ∀ k, Zt (fun k => G k ∨ BK (sl key) k) (fun k => F k ∧ ¬BK (sl key) k) k → Zt G F k ∨ w.heap.size ≤ k := fun k hk => by
    rcases hk with (hk | ⟨ad, h1, h2⟩) | hk
    · exact .inl (.inl hk)
    · exact .inl (.inr (by rw [← h2]; exact (hbk ad h1).1))
    · exact .inl (.inr hk.1)
  have hE : EarlyM w' (fun k => F k ∧ ¬BK (sl key) k) g x.out m (setE t.early key none) (fun k' => if k' = key then none else f k') sl := by
    have hset : ∀ k b', setE t.early key none k = some b' → k ≠ key ∧ t.early k = some b' := fun k b' h => by
      unfold setE at h
      split at h
      · cases h
      · exact ⟨by assumption, h⟩
    refine ⟨hM, ⟨he.fm, fun ⟨ad, h1, h2⟩ => (hbk ad h1).2.2.1 h2⟩, he.ne, fun k hk' => ?_, fun k b' hk' => ?_, fun k b' hk' ad ha => ?_, fun k b1 k' b2 h1 h2 => ?_⟩
    · unfold setE at hk'
      split at hk'
      · rename_i e; exact if_pos e
      · rename_i e; rw [if_neg e]; exact he.no k hk'
    · obtain ⟨h1, h2⟩ := hset k b' hk'
      obtain ⟨y1, y2⟩ := he.yes k b' h2
      exact ⟨by rw [if_neg h1]; exact y1, y2.mv hm fun ad ha => (he.blk k b' h2 ad ha).2.2.1⟩
    · obtain ⟨h1, h2⟩ := hset k b' hk'
      obtain ⟨b1, b2⟩ := he.blk k b' h2 ad ha
      exact ⟨⟨b1, fun ⟨ad', h3, h4⟩ => he.sep k b' key b h2 hk h1 ad ad' ha h3 h4.symm⟩, b2⟩
    · exact he.sep k b1 k' b2 (hset k b1 h1).2 (hset k' b2 h2).2
  obtain ⟨hs1, h1⟩ := h.way
  obtain ⟨hs2, h2⟩ := h.queue
  obtain ⟨hs3, h3, h4⟩ := h.out
  refine ⟨⟨hm.heap h.cells fun e => he.ne.1 e.symm, ⟨h.fg, fun ⟨ad, h1, h2⟩ => (hbk ad h1).2.1 h2⟩, fun k hk => Nat.lt_of_lt_of_le (h.fl k hk.1) hm.size, fun k hk => ?_, fun k hk hf => ?_, ⟨hs1, h1.mv hm hEZ hZ⟩, ⟨hs2, h2.mv hm hEZ hZ⟩, ⟨hs3, h3.mv hm fun ad ha => he.ne.2 ad ha, h4.mono fun a b _ _ hr => hr.mv hm hEZ hZ⟩, fun ad ha => ⟨⟨(h.outf ad ha).1, fun ⟨ad', h1, h2⟩ => (hbk ad' h1).2.2.2 ad ha h2.symm⟩, (h.outf ad ha).2⟩, ?_, ?_, ?_, h.upr⟩, hE⟩
  · rcases hk with hk | ⟨ad, h1, h2⟩
    · exact Nat.lt_of_lt_of_le (h.gl k hk) hm.size
    · rw [← h2]; exact Nat.lt_of_lt_of_le (h.fl _ (hbk ad h1).1) hm.size
  · rcases hk with hk | hk
    · exact h.gf k hk hf.1
    · exact hf.2 hk
  · unfold EarlyR
    rw [hr]
    exact ⟨_, sl, hE⟩
  · exact h.crc.mv hm fun e => h.nt (.inr (by rw [e]; exact he.fm))
  · intro hz
    rcases hZ _ hz with h5 | h5
    · exact h.nt h5
    · have := h.crc.lt; omega
/-- A message that came early is kept. -/
theorem tun_keep {w' : World} {m : Nat} {f : Int → Option Value} {sl : Int → Sl} (h : Tun w G F g t x) (hr : x.r = some m) (he : EarlyM w F g x.out m t.early f sl) {key : Int} {s : Sl} {b : List UInt8} (hb : OwB w 0 t_uint8 s b)
    (hbk : ∀ ad, s.a = some ad → F ad.block ∧ ad.block ≠ g ∧ ad.block ≠ m ∧ ∀ o, x.out.a = some o → o.block ≠ ad.block) (hsep : ∀ k b', t.early k = some b' → ∀ ad ad', s.a = some ad → (sl k).a = some ad' → ad.block ≠ ad'.block)
    (hg : w.grownBy w' (some m)) (hM : MapF (Value.int .i64) w' m (fun k' => if k' = key then some (slV s) else f k')) :
    Tun w' G F g { t with early := setE t.early key (some b) } x := by
  have hm : Mv (fun k => k = m) w w' := Mv.of_grown hg rfl
  have hEZ : ∀ k, k = m → Zt G F k ∨ w.heap.size ≤ k := fun k hk => .inl (.inr (by rw [hk]; exact he.fm))
  have hZ : ∀ k, Zt G F k → Zt G F k ∨ w.heap.size ≤ k := fun k hk => .inl hk
  obtain ⟨hs1, h1⟩ := h.way
  obtain ⟨hs2, h2⟩ := h.queue
  obtain ⟨hs3, h3, h4⟩ := h.out
  refine ⟨hm.heap h.cells fun e => he.ne.1 e.symm, h.fg, fun k hk => Nat.lt_of_lt_of_le (h.fl k hk) hm.size, fun k hk => Nat.lt_of_lt_of_le (h.gl k hk) hm.size, h.gf, ⟨hs1, h1.mv hm hEZ hZ⟩, ⟨hs2, h2.mv hm hEZ hZ⟩, ⟨hs3, h3.mv hm fun ad ha => he.ne.2 ad ha, h4.mono fun a b _ _ hr => hr.mv hm hEZ hZ⟩, h.outf, ?_, h.crc.mv hm fun e => h.nt (.inr (by rw [e]; exact he.fm)), h.nt, h.upr⟩
  unfold EarlyR
  rw [hr]
  refine ⟨_, fun k => if k = key then s else sl k, hM, he.fm, he.ne, fun k hk => ?_, fun k b' hk => ?_, fun k b' hk ad ha => ?_, fun k b1 k' b2 h1 h2 hne ad ad' ha ha' => ?_⟩
  · dsimp only [setE] at hk ⊢
    split at hk
    · cases hk
    · rename_i e; rw [if_neg e]; exact he.no k hk
  · dsimp only [setE] at hk ⊢
    split at hk
    · rename_i e
      cases hk
      rw [if_pos e, if_pos e]
      exact ⟨rfl, hb.mv hm fun ad ha => (hbk ad ha).2.2.1⟩
    · rename_i e
      rw [if_neg e, if_neg e]
      obtain ⟨y1, y2⟩ := he.yes k b' hk
      exact ⟨y1, y2.mv hm fun ad ha => (he.blk k b' hk ad ha).2.2.1⟩
  · dsimp only [setE] at hk ha
    split at hk
    · rename_i e
      rw [if_pos e] at ha
      exact hbk ad ha
    · rename_i e
      rw [if_neg e] at ha
      exact he.blk k b' hk ad ha
  · dsimp only [setE] at h1 h2 ha ha'
    by_cases e : k = key
    · rw [if_pos e] at ha
      have e' : k' ≠ key := fun h => hne (e.trans h.symm)
      rw [if_neg e'] at ha' h2
      exact hsep k' b2 h2 ad ad' ha ha'
    · rw [if_neg e] at ha h1
      by_cases e' : k' = key
      · rw [if_pos e'] at ha'
        exact fun hh => hsep k b1 h1 ad' ad ha' ha hh.symm
      · rw [if_neg e'] at ha' h2
        exact he.sep k b1 k' b2 h1 h2 hne ad ad' ha ha'
/-- What a call tells: bodies in blocks of the caller's own. -/
def Told (w w' : World) (G F : Nat → Prop) (g : Nat) (t' : Tn) (r : Sl) (l : List (List UInt8)) : Prop :=
  ∃ F' x' hs, Tun w' (fun k => G k ∨ NB hs k) F' g t' x' ∧ Mv F w w' ∧ (∀ k, F' k → F k ∨ w.heap.size ≤ k) ∧ OwS w' w.heap.size t_s_uint8 r hs ∧ All2 (OwB w' 0 t_uint8) hs l ∧
    hs.Pairwise (fun a b => ∀ y z, a.a = some y → b.a = some z → y.block ≠ z.block) ∧ (∀ k, NB hs k → F k ∨ w.heap.size ≤ k) ∧ ∀ ad, r.a = some ad → ¬F' ad.block ∧ ¬NB hs ad.block
theorem Told.none {w' : World} {t' : Tn} (h : TunTo w w' G F g t') : Told w w' G F g t' ⟨.none, 0, 0⟩ [] := by
  obtain ⟨F', x', h1, h2, h3⟩ := h
  have e : (fun k => G k ∨ NB [] k) = G := funext fun k => propext ⟨fun h => h.elim id fun ⟨_, h, _⟩ => (by cases h), .inl⟩
  refine ⟨F', x', [], by rw [e]; exact h1, h2, h3, OwS.nil _ _ _, trivial, .nil, fun k ⟨_, h, _⟩ => (by cases h), fun ad ha => (by cases ha)⟩
theorem Told.step {w1 w2 : World} {F1 : Nat → Prop} {t' : Tn} {r : Sl} {l : List (List UInt8)} (hm : Mv F w w1) (hF : ∀ k, F1 k → F k ∨ w.heap.size ≤ k) (h : Told w1 w2 G F1 g t' r l) : Told w w2 G F g t' r l := by
  obtain ⟨F', x', hs, h1, h2, h3, h4, h5, h6, h7, h8⟩ := h
  have key : ∀ k, F1 k ∨ w1.heap.size ≤ k → F k ∨ w.heap.size ≤ k := fun k hk => hk.elim (hF k) fun h => .inr (Nat.le_trans hm.size h)
  exact ⟨F', x', hs, h1, hm.trans h2 hF, fun k hk => key k (h3 k hk), h4.mono hm.size, h5, h6, fun k hk => key k (h7 k hk), h8⟩
theorem bits_step {e : Int → Option (List UInt8)} {y : Int} {i : Nat} (hi : i < 16) : bits .or .i64 (bitsN e y i : Nat) ((2 ^ i : Nat) : Int) = ((bitsN e y i + 2 ^ i : Nat) : Int) := by
  have h1 := bitsN_lt e y i
  have h2 : (2 : Nat) ^ i ≤ 2 ^ 15 := Nat.pow_le_pow_right (by decide) (by omega)
  rw [i64_or_nat _ _ (by omega) (by omega)]
  have := Nat.two_pow_add_eq_or_of_lt h1 1
  rw [Nat.mul_one] at this
  rw [Nat.or_comm, ← this, Nat.add_comm]
end
end Go.Proofs.YtoglafmpllimgaaGreatDoor
namespace Go.Proofs.YtoglafmpllimgaaGreatDoor
open Go.RowKit Go.Fl

theorem keyI : KeyM Tryz.prog t_int (Value.int .i64) := keyM_int (by kernel_rfl)
theorem mapI : Tryz.prog.underlying t_map_int_s_uint8 = some (.map t_int t_s_uint8) := by kernel_rfl
theorem zI (w : World) : (zeroValue t_s_uint8).run Tryz.prog w = .ok (.slice none 0 0) w := run_zeroV (by kernel_rfl) w
section
variable {w : World} {G F : Nat → Prop} {g : Nat} {t : Tn} {x : Shp}
theorem Tun.anti {G' : Nat → Prop} (h : Tun w G F g t x) (hG : ∀ k, G' k → G k) : Tun w G' F g t x :=
  h.other (E := fun _ => False) (Mv.refl _ _) (fun _ h => h.elim) (fun k hk => .inl (hG k hk)) fun k hk => h.gl k (hG k hk)
theorem NB.append {hs : List Sl} {s : Sl} {k : Nat} : NB (hs ++ [s]) k ↔ NB hs k ∨ BK s k := by
  constructor
  · rintro ⟨h, hm, hk⟩
    rcases List.mem_append.1 hm with hm | hm
    · exact .inl ⟨h, hm, hk⟩
    · rw [List.mem_singleton] at hm; rw [← hm]; exact .inr hk
  · rintro (⟨h, hm, hk⟩ | hk)
    · exact ⟨h, List.mem_append_left _ hm, hk⟩
    · exact ⟨s, by simp, hk⟩
theorem data_ok {p : y_api_Frame} {b : List UInt8} {m : Nat} {f : Int → Option Value} {sl : Int → Sl} (h : Tun w G F g t x) (hr : x.r = some m) (he : EarlyM w F g x.out m t.early f sl) (hb : OwB w 0 t_uint8 p.2.2.2.2.2.2.1 b)
    (hbk : ∀ ad, p.2.2.2.2.2.2.1.a = some ad → F ad.block ∧ ad.block ≠ g ∧ ad.block ≠ m ∧ ∀ o, x.out.a = some o → o.block ≠ ad.block) (hsep : ∀ k b', t.early k = some b' → ∀ ad ad', p.2.2.2.2.2.2.1.a = some ad → (sl k).a = some ad' → ad.block ≠ ad'.block)
    (hi : t.inv) (hsm : p.2.2.2.1 ≤ 1099511627776) (hl : t.out.length ≤ 1073741824) :
    cl Tryz.prog n_tunnel_Tunnel_data #[.pointer (some ⟨g, 0, none⟩), frV p] .L w fun (r : Sl) w' => Told w w' G F g (t.data (fmOf p b)).1 r (t.data (fmOf p b)).2 := by
  refine tunnel_Tunnel_data.cl (p0 := some ⟨g, 0, none⟩) (p1 := p) ?_
  unfold tunnel_Tunnel_data
  refine nwI fun a1 w2 ha1 hs2 hf2 hb1 _ => ?_
  have hz2 := hf2.size
  have he2 : EarlyM w2 F g x.out m t.early f sl := he.mv (E := fun _ => False) (Mv.of_fr hf2) (fun _ h => h.elim) (fun k hk _ _ => hk) fun o ho => .inl ⟨o, ho, rfl⟩
  have h2 : Tun w2 G F g t x := h.fr hf2
  have hb2 := hb.fr hf2
  have hexp := hi.ex
  dsimp -zeta only
  intro j2
  have hj2 : ∀ (u : World), Mv F w2 u → Tun u G F g (t.keep (fmOf p b)) x → j2 u := by
    intro u hmu hu
    have hkx : (t.keep (fmOf p b)).expect = t.expect := by unfold Tn.keep; split <;> rfl
    have hkb : ∀ j b', (t.keep (fmOf p b)).early j = some b' → j ≤ t.expect + 16 := by
      intro j b' hj
      unfold Tn.keep at hj
      split at hj
      · rename_i hcond
        dsimp only [setE] at hj
        split at hj
        · rename_i e
          have e : j = (fmOf p b).sq := e
          have := hcond.2
          omega
        · exact (hi.early j b' hj).2.1
      · exact (hi.early j b' hj).2.1
    have hko : (t.keep (fmOf p b)).out = t.out := by unfold Tn.keep; split <;> rfl
    have hdata : t.data (fmOf p b) = ((tellF 17 (t.keep (fmOf p b)) []).1.acks, (tellF 17 (t.keep (fmOf p b)) []).2) := rfl
    generalize t.keep (fmOf p b) = tk at *
    unfold j2
    let G1 : List Sl → Nat → Nat → Prop := fun hs n k => (G k ∨ NB hs k) ∨ (u.heap.size ≤ k ∧ k < n)
    refine lpI (fun (s' : Sl × Unit) w' => ∃ k e1 y1 l1 hs1 F1, 1 ≤ k ∧ k + l1.length = 17 ∧ y1 = t.expect + l1.length ∧ tellF k { tk with early := e1, expect := y1 } l1 = tellF 17 tk [] ∧ (∀ j b', e1 j = some b' → j ≤ t.expect + 16) ∧
        Tun w' (G1 hs1 w'.heap.size) F1 g { tk with early := e1, expect := y1 } x ∧ Mv F w2 w' ∧ u.heap.size ≤ w'.heap.size ∧ (∀ k, F1 k → F k) ∧ OwS w' u.heap.size t_s_uint8 s'.1 hs1 ∧ All2 (OwB w' 0 t_uint8) hs1 l1 ∧ hs1.Pairwise (fun a b => ∀ y z, a.a = some y → b.a = some z → y.block ≠ z.block) ∧ (∀ k, NB hs1 k → F k ∧ ¬F1 k))
      (fun s' _ => 17 - s'.1.n) ⟨17, tk.early, tk.expect, [], [], F, by omega, rfl, by rw [hkx]; simp, rfl, hkb, ?_, hmu, Nat.le_refl _, fun k hk => hk, OwS.nil _ _ _, trivial, .nil, fun k ⟨_, h, _⟩ => (by cases h)⟩ ?_
    · refine hu.other (E := fun _ => False) (Mv.refl _ _) (fun _ h => h.elim) (fun k hk => ?_) fun k hk => ?_
      · rcases hk with (hk | ⟨_, h, _⟩) | hk
        · exact .inl hk
        · cases h
        · exact .inr hk.1
      · rcases hk with (hk | ⟨_, h, _⟩) | hk
        · exact hu.gl k hk
        · cases h
        · exact hk.2
    rintro D ⟨got, ⟨⟩⟩ v ⟨k, e1, y1, l1, hs1, F1, hk1, hkl, hy1, htell, heb, hv, hmv, hzv, hF1, hown, hall, hpw, hnb⟩
    dsimp -zeta only
    have hown : OwS v u.heap.size t_s_uint8 got hs1 := hown
    have hgn := hown.len
    have hal := hall.length
    have hev := hv.early
    simp only [EarlyR, hr] at hev
    obtain ⟨f1, sl1, hev⟩ := hev
    refine nzS ?_
    rw [addOff]
    refine ldM0 (r := some m) hv.cells (by rw [← hr]; rfl) (nzS ?_)
    rw [addOff]
    refine ldI0 hv.cells (show (tunL { tk with early := e1, expect := y1 } x).toArray[5]? = some (.int .i64 y1) from rfl) ?_
    rw [i64w (n := y1 + 1) (by omega) (by omega)]
    obtain ⟨k, rfl⟩ : ∃ k', k = k' + 1 := ⟨k - 1, by omega⟩
    rw [tellF] at htell
    dsimp only at htell
    cases hek : e1 (y1 + 1) with
    | none =>
      rw [hek] at htell
      dsimp only at htell
      refine qnM keyI mapI zI hev.map (y1 + 1) (⟨none, 0, 0⟩, false, ()) (by rw [hev.no _ hek]; rfl) ?_
      intro n
      have hfn := Fr.drewN v n
      have hvn := hv.fr hfn
      have hmn := hmv.trans (Mv.of_fr (F := fun _ => False) hfn) fun _ h => h.elim
      refine bT rfl ?_
      refine lpI (fun s' w' => Fr v w' ∧ ∃ i : Nat, i ≤ 16 ∧ s'.2.1 = i ∧ s'.1 = (bitsN e1 y1 i : Nat)) (fun s' _ => (16 - s'.2.1).toNat) ⟨hfn, 0, by omega, rfl, rfl⟩ ?_
      rintro D ⟨b', i', ⟨⟩⟩ q ⟨hfq, i, hi16, rfl, rfl⟩
      dsimp -zeta only
      have hq := hv.fr hfq
      refine bD ?_ ?_ <;> intro hlt
      · refine nzS ?_
        rw [addOff]
        refine ldM0 (r := some m) hq.cells (by rw [← hr]; rfl) (nzS ?_)
        rw [addOff]
        refine ldI0 hq.cells (show (tunL { tk with early := e1, expect := y1 } x).toArray[5]? = some (.int .i64 y1) from rfl) ?_
        rw [i64w (n := y1 + 1) (by omega) (by omega), i64w (n := y1 + 1 + (i : Int)) (by omega) (by omega), i64w (n := (i : Int) + 1) (by omega) (by omega)]
        have hmap : MapF (Value.int .i64) q m f1 := hev.map.sub (hfq.block m hev.map.lt)
        have hstep : bitsN e1 y1 (i + 1) = bitsN e1 y1 i + if (e1 (y1 + 1 + i)).isSome then 2 ^ i else 0 := rfl
        cases hei : e1 (y1 + 1 + i) with
        | none =>
          refine qnM keyI mapI zI hmap (y1 + 1 + i) (⟨none, 0, 0⟩, false, ()) (by rw [hev.no _ hei]; rfl) ?_
          intro n2
          refine bF rfl ⟨⟨hfq.trans (Fr.drewN q n2), i + 1, by omega, rfl, ?_⟩, by omega⟩
          rw [hstep, hei]; rfl
        | some b2 =>
          obtain ⟨hy2, _⟩ := hev.yes _ _ hei
          refine qnM keyI mapI zI hmap (y1 + 1 + i) (sl1 (y1 + 1 + i), true, ()) (by rw [hy2]; rfl) ?_
          intro n2
          refine bT rfl (bP (by omega) ?_)
          refine ⟨⟨hfq.trans (Fr.drewN q n2), i + 1, by omega, rfl, ?_⟩, by omega⟩
          have h15 : (2 : Nat) ^ i ≤ 2 ^ 15 := Nat.pow_le_pow_right (by decide) (by omega)
          have ew : ∀ q : Nat, q ≤ 2 ^ 15 → IntKind.i64.wrap (q : Int) = (q : Int) := fun q hq => i64w (by omega) (by omega)
          have epow : IntKind.i64.wrap (1 * 2 ^ (min (Int.toNat (i : Int)) 64)) = ((2 ^ i : Nat) : Int) := by
            rw [Int.toNat_natCast, Nat.min_eq_left (by omega), Int.one_mul, show (2 : Int) ^ i = ((2 ^ i : Nat) : Int) from by rw [Int.natCast_pow]; rfl, ew _ h15]
          rw [hstep, hei]
          rw [epow, bits_step (by omega)]
          rfl
      · obtain rfl : i = 16 := by omega
        intro n2
        have hfr := hfq.trans (Fr.drewN q n2)
        generalize q.drewN n2 = v2 at *
        have hv2 := hv.fr hfr
        refine nzS ?_
        rw [addOff]
        refine ldI0 hv2.cells (show (tunL { tk with early := e1, expect := y1 } x).toArray[8]? = some (.int .i64 tk.you) from rfl) (nzS ?_)
        rw [addOff]
        refine ldI0 hv2.cells (show (tunL { tk with early := e1, expect := y1 } x).toArray[5]? = some (.int .i64 y1) from rfl) ?_
        refine (say_ok (p := (3, 0, tk.you, 0, y1, (bitsN e1 y1 16 : Nat), ⟨none, 0, 0⟩, ())) hv2 (Bs.nil _ _) (by show tk.out.length ≤ _; rw [hko]; exact hl)).mono fun _ w' h' => ?_
        rw [hdata, ← htell]
        obtain ⟨F', x', h1', h2', h3'⟩ := h'
        have hzr := hfr.size
        have hzmu := hmu.size
        have hzv2 := hmv.size
        have hmF1 : Mv F w2 w' := (hmv.trans (Mv.of_fr (F := F1) hfr) fun k hk => .inl (hF1 k hk)).trans h2' fun k hk => .inl (hF1 k hk)
        have hul : ∀ k, F k → k < u.heap.size := hu.fl
        have hgt : ∀ ad, got.a = some ad → u.heap.size ≤ ad.block ∧ ad.block < v.heap.size := hown.own
        refine ⟨F', x', hs1, h1'.anti fun k hk => .inl hk, (Mv.of_fr (F := F) hf2).trans hmF1 fun k hk => .inl hk, fun k hk => ?_, ?_, ?_, hpw, fun k hk => .inl (hnb k hk).1, fun ad ha => ?_⟩
        · rcases h3' k hk with h4 | h4
          · exact .inl (hF1 k h4)
          · right; omega
        · refine OwS.mono ((hown.fr hfr).mv h2' fun ad ha hf => ?_) (by omega)
          have := (hgt ad ha).1
          have := hul _ (hF1 _ hf)
          omega
        · refine hall.mono fun a c ham _ ho => (ho.fr hfr).mv h2' fun ad ha => (hnb ad.block ⟨a, ham, ad, ha, rfl⟩).2
        · refine ⟨h1'.gf _ (.inr (hgt ad ha)), fun hn => ?_⟩
          have := (hgt ad ha).1
          have := hul _ (hnb _ hn).1
          omega
    | some b1 =>
      rw [hek] at htell
      dsimp only at htell
      obtain ⟨hy, hbo⟩ := hev.yes _ _ hek
      refine qnM keyI mapI zI hev.map (y1 + 1) (sl1 (y1 + 1), true, ()) (by rw [hy]; rfl) ?_
      intro n
      have hfn := Fr.drewN v n
      refine bF rfl ?_
      intro n2
      have hfn := hfn.trans (Fr.drewN _ n2)
      have hz2 : ((v.drewN n).drewN n2).heap.size = v.heap.size := rfl
      generalize (v.drewN n).drewN n2 = v2 at *
      have hv2 := hv.fr hfn
      have hev2 : EarlyM v2 F1 g x.out m e1 f1 sl1 := hev.mv (E := fun _ => False) (Mv.of_fr hfn) (fun _ h => h.elim) (fun k hk _ _ => hk) fun o ho => .inl ⟨o, ho, rfl⟩
      refine nzS ?_
      rw [addOff]
      refine ldM0 (r := some m) hv2.cells (by rw [← hr]; rfl) (nzS ?_)
      rw [addOff]
      refine ldI0 hv2.cells (show (tunL { tk with early := e1, expect := y1 } x).toArray[5]? = some (.int .i64 y1) from rfl) ?_
      rw [i64w (n := y1 + 1) (by omega) (by omega)]
      refine rnD keyI mapI hev2.map (y1 + 1) fun v3 hM hg3 hs3 => ?_
      obtain ⟨h3, he3⟩ := tun_tell hv2 hr hev2 hek hg3 hM
      refine nzS ?_
      rw [addOff]
      refine ldI0 h3.cells (show (tunL { tk with early := setE e1 (y1 + 1) none, expect := y1 } x).toArray[5]? = some (.int .i64 y1) from rfl) (nzS ?_)
      rw [addOff, i64w (n := y1 + 1) (by omega) (by omega)]
      refine st0 h3.cells (by show 5 < 12; decide) fun v4 hb4 hg4 hs4 => ?_
      have hc4 : v4.heap[g]? = some (.cells (tunL { tk with early := setE e1 (y1 + 1) none, expect := y1 + 1 } x).toArray t_tunnel_Tunnel (0, 0)) := hb4
      have h4 := h3.own (t' := { tk with early := setE e1 (y1 + 1) none, expect := y1 + 1 }) hg4 hc4 rfl rfl rfl rfl rfl
      refine nwI fun a5 v5 ha5 hs5 hf5 hb5 hr5 => ?_
      have hul : ∀ k, F k → k < u.heap.size := hu.fl
      have hgt : ∀ ad, got.a = some ad → u.heap.size ≤ ad.block ∧ ad.block < v.heap.size := hown.own
      have hgF : F g := hF1 g hv.fg
      have hmF : F m := hF1 m hev.fm
      have hgu := hul g hgF
      have hmu' := hul m hmF
      have hmv24 : Mv (fun k => k = m ∨ k = g) v v5 := (((Mv.of_fr (F := fun k => k = m ∨ k = g) hfn).trans (Mv.of_grown (F := fun k => k = m) hg3 rfl) fun k hk => .inl (.inl hk)).trans (Mv.of_grown (F := fun k => k = g) hg4 rfl) fun k hk => .inl (.inr hk)).trans (Mv.of_fr (F := fun _ => False) hf5) fun _ h => h.elim
      have hz5 := hf5.size
      have hown5 : OwS v5 u.heap.size t_s_uint8 got hs1 := hown.mv hmv24 fun ad ha e => by
        have := (hgt ad ha).1
        rcases e with e | e <;> omega
      have hne : y1 + 1 ≤ t.expect + 16 := heb _ _ hek
      refine app_S slS (by decide) (base := u.heap.size) (ms := [sl1 (y1 + 1)]) hown5 hr5 rfl (by simp; omega) (by omega) fun r v6 h6 hg6 _ => ?_
      rw [ownB_slice] at hg6
      have hz6 := hg6.size
      have hmv6 : Mv (fun k => BK got k) v5 v6 := ⟨hg6.os, hg6.tape, hg6.output, hg6.size, fun k hk hn => hg6.block k hk fun e => by
        cases hxa : got.a with
        | none => rw [hxa] at e; cases e
        | some o => rw [hxa] at e; exact hn ⟨o, hxa, (Option.some.inj e).symm⟩⟩
      have hmvA : Mv (fun k => (k = m ∨ k = g) ∨ BK got k) v v6 := (hmv24.mono fun k hk => .inl (.inl hk)).trans hmv6 fun k hk => .inl (.inr hk)
      have hsb : ∀ ad, (sl1 (y1 + 1)).a = some ad → F1 ad.block ∧ ad.block ≠ g ∧ ad.block ≠ m := fun ad ha => ⟨(hev.blk _ _ hek ad ha).1, (hev.blk _ _ hek ad ha).2.1, (hev.blk _ _ hek ad ha).2.2.1⟩
      have hngot : ∀ k, F k → ¬BK got k := fun k hk ⟨ad, h1, h2⟩ => by
        have := (hgt ad h1).1
        have := hul k hk
        omega
      have hl6 := h6.len
      have hl6 : r.n = got.n + 1 := by rw [hl6, hgn, List.length_append]; rfl
      have hg16 : got.n ≤ 16 := by omega
      refine ⟨⟨k, setE e1 (y1 + 1) none, y1 + 1, l1 ++ [b1], hs1 ++ [sl1 (y1 + 1)], fun k => F1 k ∧ ¬BK (sl1 (y1 + 1)) k, by omega, by simp; omega, by simp; omega, htell, fun j b' hj => ?_, ?_, ?_, by omega, fun k hk => hF1 k hk.1, h6, ?_, ?_, fun k hk => ?_⟩, by show 17 - r.n < 17 - got.n; rw [hl6]; omega⟩
      · unfold setE at hj
        split at hj
        · cases hj
        · exact heb j b' hj
      · refine h4.other (E := fun k => BK got k) ((Mv.of_fr (F := fun k => BK got k) hf5).trans hmv6 fun k hk => .inl hk) (fun k hk => .inl ⟨?_, fun hf => hngot k (hF1 k hf.1) hk⟩) (fun k hk => ?_) (fun k hk => ?_)
        · obtain ⟨ad, h1, h2⟩ := hk
          rw [← h2]
          exact .inl (.inr (hgt ad h1))
        · rcases hk with (hk | hk) | hk
          · exact .inl (.inl (.inl (.inl hk)))
          · rcases NB.append.1 hk with hk | hk
            · exact .inl (.inl (.inl (.inr hk)))
            · exact .inl (.inr hk)
          · by_cases hkv : k < v.heap.size
            · exact .inl (.inl (.inr ⟨hk.1, hkv⟩))
            · right; omega
        · rcases hk with (hk | hk) | hk
          · have := hu.gl k hk; omega
          · rcases NB.append.1 hk with hk | ⟨ad, h1, h2⟩
            · have := hul k (hnb k hk).1; omega
            · have := hul _ (hF1 _ (hsb ad h1).1); omega
          · exact hk.2
      · refine hmv.trans hmvA fun k hk => ?_
        rcases hk with (hk | hk) | ⟨ad, h1, h2⟩
        · rw [hk]; exact .inl hmF
        · rw [hk]; exact .inl hgF
        · have := (hgt ad h1).1
          have := hmu.size
          right; omega
      · refine All2.append (hall.mono fun a c ham _ ho => ho.mv hmvA fun ad ha e => ?_) ⟨hbo.mv hmvA fun ad ha e => ?_, trivial⟩
        · have h7 := hnb ad.block ⟨a, ham, ad, ha, rfl⟩
          rcases e with (e | e) | e
          · rw [e] at h7; exact h7.2 hev.fm
          · rw [e] at h7; exact h7.2 hv.fg
          · exact hngot _ h7.1 e
        · have h7 := hsb ad ha
          rcases e with (e | e) | e
          · exact h7.2.2 e
          · exact h7.2.1 e
          · exact hngot _ (hF1 _ h7.1) e
      · rw [List.pairwise_append]
        refine ⟨hpw, List.pairwise_singleton _ _, fun a ham c hcm y z hy hz e => ?_⟩
        rw [List.mem_singleton] at hcm
        rw [hcm] at hz
        have h7 := (hnb y.block ⟨a, ham, y, hy, rfl⟩).2
        rw [e] at h7
        exact h7 (hsb z hz).1
      · rcases NB.append.1 hk with hk | hk
        · exact ⟨(hnb k hk).1, fun h => (hnb k hk).2 h.1⟩
        · obtain ⟨ad, h1, h2⟩ := hk
          refine ⟨by rw [← h2]; exact hF1 _ (hsb ad h1).1, fun h => h.2 ⟨ad, h1, h2⟩⟩
  clear_value j2
  intro j1
  have hj1 : ∀ (y : Bool) (u : World), Fr w2 u → (y = true ↔ ((fmOf p b).sq > t.expect ∧ (fmOf p b).sq - t.expect ≤ 16)) → j1 y u := by
    intro y u hfu hyy
    have hu := h2.fr hfu
    show bif y then _ else _
    cases y with
    | true =>
      have hk : t.keep (fmOf p b) = { t with early := setE t.early p.2.2.2.1 (some b) } := if_pos (hyy.1 rfl)
      refine bT rfl ?_
      intro n
      have hfn := hfu.trans (Fr.drewN u n)
      have hu := h2.fr hfn
      refine nzS ?_
      rw [addOff]
      refine ldM0 (r := some m) hu.cells (by rw [← hr]; rfl) ?_
      refine ldI0 (hfn.heap hb1) rfl ?_
      rw [addOff]
      refine ldL0 (s := p.2.2.2.2.2.2.1) (hfn.heap hb1) rfl ?_
      have heu : EarlyM (u.drewN n) F g x.out m t.early f sl := he2.mv (E := fun _ => False) (Mv.of_fr hfn) (fun _ h => h.elim) (fun k hk _ _ => hk) fun o ho => .inl ⟨o, ho, rfl⟩
      refine ruM keyI mapI heu.map p.2.2.2.1 (slV p.2.2.2.2.2.2.1) fun w' hM hg hs => ?_
      refine hj2 w' ((Mv.of_fr (F := F) hfn).trans (Mv.of_grown hg he2.fm) fun k hk => .inl hk) ?_
      rw [hk]
      exact tun_keep hu hr heu (hb2.fr hfn) hbk hsep hg hM
    | false =>
      have hk : t.keep (fmOf p b) = t := if_neg fun h => by have := hyy.2 h; cases this
      refine bF rfl (hj2 u (Mv.of_fr hfu) ?_)
      rw [hk]; exact hu
  clear_value j1
  rw [addOff]
  refine ldI0 hb1 rfl (nzS ?_)
  rw [addOff]
  refine ldI0 h2.cells (show (tunL t x).toArray[5]? = some (.int .i64 t.expect) from rfl) ?_
  have hsq : (fmOf p b).sq = p.2.2.2.1 := rfl
  refine bD ?_ ?_ <;> intro hgt
  · refine ldI0 hb1 rfl (nzS ?_)
    rw [addOff]
    refine ldI0 h2.cells (show (tunL t x).toArray[5]? = some (.int .i64 t.expect) from rfl) ?_
    intro n
    refine hj1 _ _ (Fr.drewN w2 n) ?_
    rw [decide_eq_true_iff, hsq, i64w (by omega) (by omega)]
    exact ⟨fun h => ⟨hgt, h⟩, fun h => h.2⟩
  · intro n
    refine hj1 _ _ (Fr.drewN w2 n) ?_
    rw [hsq]
    exact ⟨(fun h => by cases h), fun h => absurd h.1 hgt⟩
end
end Go.Proofs.YtoglafmpllimgaaGreatDoor
namespace Go.Proofs.YtoglafmpllimgaaGreatDoor
open Go.RowKit Go.Fl

section
variable {w : World} {G F : Nat → Prop} {g : Nat} {t : Tn} {x : Shp}
theorem take_ok {s : Sl} {b : List UInt8} (h : Tun w G F g t x) (hi : t.inv) (hb : Bs w s b) (hbl : b.length ≤ 140737488351232) (hl : t.out.length ≤ 1073741000) :
    cl Tryz.prog n_tunnel_Tunnel_Take #[.pointer (some ⟨g, 0, none⟩), .slice s.a s.n s.c] (.tup (.pair .L (.pair (.I .i64) .nil))) w fun (r : Sl × Int × Unit) w' => r.2.1 = (t.take b).2.2 ∧ Told w w' G F g (t.take b).1 r.1 (t.take b).2.1 := by
  refine tunnel_Tunnel_Take.cl (p0 := some ⟨g, 0, none⟩) (p1 := s) ?_
  unfold tunnel_Tunnel_Take
  refine (made_ok h hi.me.1).mono ?_
  rintro _ _ ⟨rfl, rfl⟩
  refine bF rfl ?_
  refine (tGet_ok h.crc hb hbl).mono ?_
  rintro ⟨p, e, ⟨⟩⟩ w4 ⟨hG, hf4⟩
  dsimp -zeta only
  refine nwI fun a5 w6 ha5 hs6 hf6 hb6 _ => ?_
  have hz4 := hf4.size
  refine stW (Kd.av k_api_Frame p) rfl hb6 rfl fun w7 hb7 hg7 hs7 => ?_
  have hf7 : Fr w w7 := (hf4.trans hf6).on (grown_below hg7 (by omega) (by omega))
  have h7 := h.fr hf7
  have hgl := tun_lt h
  have to7 : ∀ {u : World} {t' : Tn}, TunTo w7 u G F g t' → TunTo w u G F g t' := fun h' => TunTo.step (Mv.of_fr hf7) (fun k hk => .inl hk) h'
  cases hgf : getF b with
  | none =>
    unfold FGetP at hG
    rw [hgf] at hG
    obtain ⟨rfl, he⟩ := Prod.mk.inj hG
    obtain ⟨rfl, _⟩ := Prod.mk.inj he
    have hne : getE b ≠ 0 := fun h => by have := getE_zero.1 h; rw [hgf] at this; cases this
    have et : t.take b = (t, [], getE b) := by unfold Tn.take; rw [hgf]
    rw [et]
    refine bNe (fun _ => ⟨rfl, Told.none (to7 (TunTo.refl h7))⟩) fun h => absurd h hne
  | some f =>
    unfold FGetP at hG
    rw [hgf] at hG
    obtain ⟨h1, hp, hbo⟩ := hG
    obtain ⟨rfl, _⟩ := Prod.mk.inj h1
    dsimp only at hp hbo
    have hok := (getF_back hgf).1
    have hin := okF_in hok
    have et : t.take b = if f.k = 1 then (t.hello f, [], 0) else if t.up = false ∨ f.fr ≠ t.you ∨ f.yo ≠ t.me then ((if f.yo ≠ t.me ∧ f.fr ≥ t.you then t.say (hel f.fr) else t), [], 0)
        else if f.k = 3 then (({ t with sil := 0 } : Tn).ack f, [], 0) else ((({ t with sil := 0 } : Tn).data f).1, (({ t with sil := 0 } : Tn).data f).2, 0) := by
      unfold Tn.take; rw [hgf]
    rw [et]
    have ek : p.1 = f.k := congrArg Fm.k hp
    have efr : p.2.1 = f.fr := congrArg Fm.fr hp
    have eyo : p.2.2.1 = f.yo := congrArg Fm.yo hp
    have esq : p.2.2.2.1 = f.sq := congrArg Fm.sq hp
    have ebi : p.2.2.2.2.2.1 = f.bi := congrArg Fm.bi hp
    have hb7' : w7.heap[a5]? = some (.cells (frC p).toArray t_api_Frame (0, 0)) := hb7
    have cfr : ∀ {u : World} {K : Int → Prop}, Fr w7 u → K f.fr → ld (.I .i64) u ((⟨a5, 0, none⟩ : Addr).add 1) K := fun hf hK => ldI0 (hf.heap hb7') (show (frC p).toArray[1]? = some (.int .i64 p.2.1) from rfl) (by rw [efr]; exact hK)
    have cyo : ∀ {u : World} {K : Int → Prop}, Fr w7 u → K f.yo → ld (.I .i64) u ((⟨a5, 0, none⟩ : Addr).add 2) K := fun hf hK => ldI0 (hf.heap hb7') (show (frC p).toArray[2]? = some (.int .i64 p.2.2.1) from rfl) (by rw [eyo]; exact hK)
    have me : ∀ {u : World} {K : Int → Prop}, Fr w7 u → K t.me → nz (some ⟨g, 0, none⟩) fun a => ld (.I .i64) u (a.add 7) K := fun hf hK => ldI0 (hf.heap h7.cells) (show (tunL t x).toArray[7]? = some (.int .i64 t.me) from rfl) hK
    have you : ∀ {u : World} {K : Int → Prop}, Fr w7 u → K t.you → nz (some ⟨g, 0, none⟩) fun a => ld (.I .i64) u (a.add 8) K := fun hf hK => ldI0 (hf.heap h7.cells) (show (tunL t x).toArray[8]? = some (.int .i64 t.you) from rfl) hK
    refine bF rfl ?_
    refine ldI0 hb7' (show (frC p).toArray[0]? = some (.int .i64 p.1) from rfl) ?_
    rw [ek]
    refine bE ?_ ?_ <;> intro hk1
    · rw [if_pos hk1]
      refine ldW (k := k_api_Frame) (x := p) hb7 rfl ?_
      refine (hello_ok (p := p) (b := f.bd) h7 (by omega)).mono fun _ u h' => ⟨rfl, Told.none (to7 ?_)⟩
      rw [hp] at h'; exact h'
    rw [if_neg hk1]
    intro j2
    have hj2 : ∀ (y : Bool) (u : World), Fr w7 u → (y = true ↔ (t.up = false ∨ f.fr ≠ t.you ∨ f.yo ≠ t.me)) → j2 y u := by
      intro y u hfu hyy
      unfold j2
      have hu := h7.fr hfu
      have toU : ∀ {v : World} {t' : Tn}, TunTo u v G F g t' → TunTo w v G F g t' := fun h' => to7 (TunTo.step (Mv.of_fr hfu) (fun k hk => .inl hk) h')
      cases y with
      | true =>
        rw [if_pos (hyy.1 rfl)]
        refine bT rfl ?_
        dsimp -zeta only
        intro j3
        have hj3 : ∀ (z : Bool) (v : World), Fr u v → (z = true ↔ (f.yo ≠ t.me ∧ f.fr ≥ t.you)) → j3 z v := by
          intro z v hfv hzz
          show bif z then _ else _
          have hv := hu.fr hfv
          have toV : ∀ {q : World} {t' : Tn}, TunTo v q G F g t' → TunTo w q G F g t' := fun h' => toU (TunTo.step (Mv.of_fr hfv) (fun k hk => .inl hk) h')
          cases z with
          | true =>
            rw [if_pos (hzz.1 rfl)]
            refine bT rfl (cfr (hfu.trans hfv) ?_)
            exact (say_ok (p := (1, 0, f.fr, 0, 0, 0, ⟨none, 0, 0⟩, ())) hv (Bs.nil _ _) (by omega)).mono fun _ q h' => ⟨rfl, Told.none (toV h')⟩
          | false =>
            rw [if_neg fun h => by have := hzz.2 h; cases this]
            exact bF rfl ⟨rfl, Told.none (toV (TunTo.refl hv))⟩
        clear_value j3
        refine cyo hfu (me hfu ?_)
        refine bNe ?_ ?_ <;> intro hy
        · refine cfr hfu (you hfu ?_)
          intro n
          refine hj3 _ _ (Fr.drewN u n) ?_
          rw [decide_eq_true_iff]
          exact ⟨fun h => ⟨hy, h⟩, fun h => h.2⟩
        · intro n
          exact hj3 false _ (Fr.drewN u n) ⟨(fun h => by cases h), fun h => absurd hy h.1⟩
      | false =>
        have hcond : ¬(t.up = false ∨ f.fr ≠ t.you ∨ f.yo ≠ t.me) := fun h => by have := hyy.2 h; cases this
        rw [if_neg hcond]
        have hup : t.up = true := by
          cases hup : t.up with
          | true => rfl
          | false => exact absurd (.inl hup) hcond
        refine bF rfl ?_
        -- the body's block is the tunnel's from here on
        obtain ⟨m, hr⟩ : ∃ m, x.r = some m := by
          cases hx : x.r with
          | none => exact absurd hx (h.upr hup)
          | some m => exact ⟨m, rfl⟩
        have he0 := h.early
        simp only [EarlyR, hr] at he0
        obtain ⟨fm, sl, he0⟩ := he0
        let Fk : Nat → Prop := fun k => F k ∨ BK p.2.2.2.2.2.2.1 k
        have hFk : ∀ k, Fk k → F k ∨ w.heap.size ≤ k := fun k hk => hk.imp id fun ⟨ad, h1, h2⟩ => by rw [← h2]; exact (hbo.own ad h1).1
        have hfwu := hf7.trans hfu
        have hf4u : Fr w4 u := by
          have h67 : Fr w4 w7 := hf6.on (grown_below hg7 (by omega) (by omega))
          exact h67.trans hfu
        have hz4u := hf4u.size
        have heu : EarlyM u Fk g x.out m t.early fm sl := he0.mv (E := fun _ => False) (Mv.of_fr hfwu) (fun _ h => h.elim) (fun k hk _ _ => .inl hk) fun o ho => .inl ⟨o, ho, rfl⟩
        have hku : Tun u G Fk g t x := by
          refine h.re (E := fun _ => False) (Mv.of_fr hfwu) (fun _ h => h.elim) (fun _ _ h => h) hFk (fun k hk => ?_) (.inl h.fg) (fun o ho => .inl (h.outf o ho).1) (hfwu.heap h.cells) rfl rfl (h.wayK (E := fun _ => False) (Mv.of_fr hfwu) (fun _ h => h.elim) hFk) (h.queueK (E := fun _ => False) (Mv.of_fr hfwu) (fun _ h => h.elim) hFk) ?_ h.upr
          · rcases hk with hk | ⟨ad, h1, h2⟩
            · have := h.fl k hk; omega
            · have := (hbo.own ad h1).2; omega
          · unfold EarlyR; rw [hr]; exact ⟨fm, sl, heu⟩
        have hbk : ∀ ad, p.2.2.2.2.2.2.1.a = some ad → Fk ad.block ∧ ad.block ≠ g ∧ ad.block ≠ m ∧ ∀ o, x.out.a = some o → o.block ≠ ad.block := fun ad ha => by
          have h1 := (hbo.own ad ha).1
          have h4 := he0.map.lt
          refine ⟨.inr ⟨ad, ha, rfl⟩, by omega, by omega, fun o ho => ?_⟩
          have := h.fl _ (h.outf o ho).1
          omega
        have hsep : ∀ k b', t.early k = some b' → ∀ ad ad', p.2.2.2.2.2.2.1.a = some ad → (sl k).a = some ad' → ad.block ≠ ad'.block := fun k b' hk ad ad' ha ha' => by
          have h1 := (hbo.own ad ha).1
          have h3 := ((he0.yes k b' hk).2.own ad' ha').2
          omega
        refine nzS ?_
        rw [addOff]
        refine st0 hku.cells (by show 1 < 12; decide) fun w58 hb58 hg58 hs58 => ?_
        have hmg : Mv (fun k => k = g) u w58 := Mv.of_grown hg58 rfl
        have h58 : Tun w58 G Fk g { t with sil := 0 } x := hku.own (t' := { t with sil := 0 }) hg58 hb58 rfl rfl rfl rfl rfl
        have he58 : EarlyM w58 Fk g x.out m t.early fm sl := heu.mv hmg (fun k hk => .inl hk) (fun k hk _ _ => hk) fun o ho => .inl ⟨o, ho, rfl⟩
        have ha5g : a5 ≠ g := by omega
        have hfr58 : w58.heap[a5]? = some (.cells (frC p).toArray t_api_Frame (0, 0)) := hmg.heap (hfu.heap hb7') ha5g
        have hm58 : Mv F w w58 := (Mv.of_fr (F := F) hfwu).trans hmg fun k hk => .inl (by rw [hk]; exact h.fg)
        refine ldI0 hfr58 (show (frC p).toArray[0]? = some (.int .i64 p.1) from rfl) ?_
        rw [ek]
        refine bE ?_ ?_ <;> intro hk3
        · rw [if_pos hk3]
          refine ldW (k := k_api_Frame) (x := p) hfr58 rfl ?_
          refine (ack_ok (p := p) (b := f.bd) h58 (by rw [ebi]; exact hin.2.2.2.1.1) hi.room hl).mono fun _ q h' => ⟨rfl, Told.step hm58 hFk (Told.none ?_)⟩
          rw [hp] at h'; exact h'
        · rw [if_neg hk3]
          refine ldW (k := k_api_Frame) (x := p) hfr58 rfl ?_
          have hbo58 : OwB w58 0 t_uint8 p.2.2.2.2.2.2.1 f.bd := (((hbo.mono (Nat.zero_le _)).fr hf4u).mv hmg fun ad ha e => (hbk ad ha).2.1 e)
          have hi' : ({ t with sil := 0 } : Tn).inv := ⟨hi.me, hi.you, hi.ex, hi.early, hi.way, hi.queue, hi.room, Int.le_refl _, by show (0 : Int) < 64; decide⟩
          refine (data_ok (p := p) (b := f.bd) h58 hr he58 hbo58 hbk hsep hi' (by rw [esq]; exact hin.2.1.2) (by show t.out.length ≤ _; omega)).mono fun r q h' => ⟨rfl, Told.step hm58 hFk ?_⟩
          rw [hp] at h'; exact h'
    clear_value j2
    refine nzS ?_
    refine ldB0 h7.cells (show (tunL t x).toArray[0]? = some (.bool t.up) from rfl) ?_
    cases hup : t.up with
    | false =>
      refine bT rfl ?_
      intro n
      exact hj2 true _ (Fr.drewN w7 n) ⟨fun _ => .inl hup, fun _ => rfl⟩
    | true =>
      refine bF rfl (cfr (Fr.refl _) (you (Fr.refl _) ?_))
      refine bNe ?_ ?_ <;> intro h1
      · intro n
        exact hj2 true _ (Fr.drewN w7 n) ⟨fun _ => .inr (.inl h1), fun _ => rfl⟩
      · refine cyo (Fr.refl _) (me (Fr.refl _) ?_)
        intro n
        refine hj2 _ _ (Fr.drewN w7 n) ?_
        rw [bne_iff_ne, hup]
        exact ⟨fun h => .inr (.inr h), fun h => by rcases h with h | h | h; cases h; exact absurd h1 h; exact h⟩
end
end Go.Proofs.YtoglafmpllimgaaGreatDoor
namespace Go.Fl
structure Bb where
  pass : Int
  refs : Int
  lits : Int
  miss : Int
  brok : Int
  side : Int
  boot : Int
  iss : Int
  opened : Int
  lan : List (List UInt8)
  wan : List (List UInt8)
def bb0 (side boot iss : Int) : Bb := ⟨0, 0, 0, 0, 0, side, boot, iss, 0, [], []⟩
end Go.Fl
namespace Go.Proofs.YtoglafmpllimgaaGreatDoor
open Go.RowKit Go.Fl

/-- What a box's block holds besides numbers: the store, the tunnel, the table, the flows' row, the row of what waits. -/
structure BxP where
  s : Option Addr
  t : Option Addr
  table : Option Addr
  fl : Sl
  lt : Sl
def bxL (b : Bb) (x : BxP) (l m : Sl) : List Value := [.int .i64 b.pass, .int .i64 b.refs, .int .i64 b.lits, .int .i64 b.miss, .int .i64 b.brok, .int .i64 b.side, .int .i64 b.boot, .int .u32 b.iss, .pointer x.s, .pointer x.t, .pointer x.table, slV x.fl, .int .i64 b.opened, slV x.lt, slV l, slV m]
/-- A row of bytes of one's own. -/
def RowB (w : World) (Z : Nat → Prop) (s : Sl) (ls : List (List UInt8)) : Prop := ∃ hs, OwS w 0 t_s_uint8 s hs ∧ All2 (Cb w Z) hs ls
theorem RowB.nil (w : World) (Z : Nat → Prop) : RowB w Z ⟨none, 0, 0⟩ [] := ⟨[], OwS.nil _ _ _, trivial⟩
theorem RowB.len {w : World} {Z : Nat → Prop} {s : Sl} {ls : List (List UInt8)} (h : RowB w Z s ls) : s.n = ls.length := by
  obtain ⟨hs, h1, h2⟩ := h
  rw [h1.len, h2.length]
theorem RowB.mv {E Z Z' : Nat → Prop} {w w' : World} {s : Sl} {ls : List (List UInt8)} (h : RowB w Z s ls) (hm : Mv E w w') (hE : ∀ k, E k → Z k ∨ w.heap.size ≤ k) (hZ : ∀ k, Z' k → Z k ∨ w.heap.size ≤ k) (hs : ∀ k, BK s k → ¬E k) : RowB w' Z' s ls := by
  obtain ⟨hs', h1, h2⟩ := h
  exact ⟨hs', h1.mv hm fun ad ha => hs _ ⟨ad, ha, rfl⟩, h2.mono fun a b _ _ hr => hr.mv hm hE hZ⟩
theorem RowB.lt {w : World} {Z : Nat → Prop} {s : Sl} {ls : List (List UInt8)} (h : RowB w Z s ls) {k : Nat} (hk : BK s k) : k < w.heap.size := by
  obtain ⟨hs', h1, h2⟩ := h
  obtain ⟨ad, ha, rfl⟩ := hk
  exact (h1.own ad ha).2
theorem RowB.app {Z : Nat → Prop} {w : World} {s y : Sl} {ls bs : List (List UInt8)} {ms : List Sl} (h : RowB w Z s ls) (hsZ : ∀ k, BK s k → Z k) (hy : Rd w y.a (slsV ms)) (hyn : ms.length = y.n) (hms : All2 (Cb w Z) ms bs) (hl : ls.length + bs.length ≤ 1099511627776)
    {K : Sl → World → Prop} (hk : ∀ r w', RowB w' (fun k => Z k ∨ BK r k) r (ls ++ bs) → Mv (BK s) w w' → (∀ k, BK r k → BK s k ∨ (k = w.heap.size ∧ w.heap.size < w'.heap.size)) → K r w') : app Tryz.prog t_s_s_uint8 t_s_s_uint8 s y w K := by
  obtain ⟨hs, h1, h2⟩ := h
  have n1 := h2.length
  have n2 := hms.length
  refine app_S slS (by decide) h1 hy hyn (by omega) (Nat.zero_le _) fun r w' ho hg hat => ?_
  have hm : Mv (BK s) w w' := ⟨hg.os, hg.tape, hg.output, hg.size, fun k hk hn => hg.block k hk fun e => by
    rw [ownB_slice'] at e
    cases hsa : s.a with
    | none => rw [hsa] at e; cases e
    | some ad => rw [hsa] at e; exact hn ⟨ad, hsa, (Option.some.inj e).symm⟩⟩
  have hr : ∀ k, BK r k → BK s k ∨ (k = w.heap.size ∧ w.heap.size < w'.heap.size) := fun k ⟨ad, ha, hb⟩ => by
    have e1 : (Value.slice r.a r.n r.c).ownBlock = some k := by rw [ownB_slice', ha, ← hb]; rfl
    have hlt := (ho.own ad ha).2
    rw [hb] at hlt
    rcases hat with e | e
    · left
      rw [e1, ownB_slice'] at e
      cases hsa : s.a with
      | none => rw [hsa] at e; cases e
      | some ad' => rw [hsa] at e; exact ⟨ad', hsa, (Option.some.inj e).symm⟩
    · right
      rw [e1] at e
      have := Option.some.inj e
      exact ⟨this, by omega⟩
  have hEZ : ∀ k, BK s k → Z k ∨ w.heap.size ≤ k := fun k hk => .inl (hsZ k hk)
  have hZ' : ∀ k, (Z k ∨ BK r k) → Z k ∨ w.heap.size ≤ k := fun k hk => by
    rcases hk with hk | hk
    · exact .inl hk
    · rcases hr k hk with h | ⟨h, _⟩
      · exact .inl (hsZ k h)
      · right; omega
  exact hk r w' ⟨hs ++ ms, ho, All2.append (h2.mono fun a b _ _ hr => hr.mv hm hEZ hZ') (hms.mono fun a b _ _ hr => hr.mv hm hEZ hZ')⟩ hm hr
/-- A box's own block and the rows of what goes out. G: what others may turn; F: what this one may. -/
structure BbR (w : World) (G F : Nat → Prop) (g : Nat) (b : Bb) (x : BxP) (l m : Sl) : Prop where
  cells : w.heap[g]? = some (.cells (bxL b x l m).toArray t_box_Box (0, 0))
  lan : RowB w (Zt G F) l b.lan
  wan : RowB w (Zt G F) m b.wan
  lanf : ∀ k, BK l k → F k ∧ k ≠ g
  wanf : ∀ k, BK m k → F k ∧ k ≠ g
  sep : ∀ k, BK l k → ¬BK m k
  fg : F g
  fl : ∀ k, F k → k < w.heap.size
  gl : ∀ k, G k → k < w.heap.size
  gf : ∀ k, G k → ¬F k
def BbTo (w : World) (F : Nat → Prop) (w' : World) (G : Nat → Prop) (g : Nat) (b : Bb) (x : BxP) : Prop := ∃ F' l m, BbR w' G F' g b x l m ∧ Stp w F w' F'
section
variable {w w' : World} {G F : Nat → Prop} {g : Nat} {b : Bb} {x : BxP} {l m : Sl}
theorem BbR.upd {b' : Bb} {x' : BxP} (h : BbR w G F g b x l m) (hb : w'.heap[g]? = some (.cells (bxL b' x' l m).toArray t_box_Box (0, 0))) (hg : w.grownBy w' (some g)) (hs : w'.heap.size = w.heap.size) (e1 : b'.lan = b.lan) (e2 : b'.wan = b.wan) : BbR w' G F g b' x' l m ∧ Stp w F w' F := by
  have hm : Mv (fun k => k = g) w w' := Mv.of_grown hg rfl
  have hE : ∀ k, k = g → Zt G F k ∨ w.heap.size ≤ k := fun k hk => .inl (.inr (hk ▸ h.fg))
  exact ⟨⟨hb, e1 ▸ h.lan.mv hm hE (fun _ h => .inl h) fun k hk => (h.lanf k hk).2, e2 ▸ h.wan.mv hm hE (fun _ h => .inl h) fun k hk => (h.wanf k hk).2, h.lanf, h.wanf, h.sep, h.fg, fun k hk => hs ▸ h.fl k hk, fun k hk => hs ▸ h.gl k hk, h.gf⟩, hm.mono fun k hk => .inl (hk ▸ h.fg), fun _ h => .inl h⟩
/-- Something else has turned. -/
theorem BbR.other {G' E : Nat → Prop} (h : BbR w G F g b x l m) (hm : Mv E w w') (hE : ∀ k, E k → (G k ∧ ¬F k) ∨ w.heap.size ≤ k) (hG : ∀ k, G' k → G k ∨ w.heap.size ≤ k) (hl : ∀ k, G' k → k < w'.heap.size) : BbR w' G' F g b x l m := by
  have hEZ : ∀ k, E k → Zt G F k ∨ w.heap.size ≤ k := fun k hk => (hE k hk).imp (fun h => .inl h.1) id
  have hZ : ∀ k, Zt G' F k → Zt G F k ∨ w.heap.size ≤ k := fun k hk => by
    rcases hk with hk | hk
    · exact (hG k hk).imp .inl id
    · exact .inl (.inr hk)
  have hEF : ∀ k, F k → ¬E k := fun k hf he => by
    rcases hE k he with h1 | h1
    · exact h1.2 hf
    · have := h.fl k hf; omega
  refine ⟨hm.heap h.cells (hEF _ h.fg), h.lan.mv hm hEZ hZ fun k hk => hEF k (h.lanf k hk).1, h.wan.mv hm hEZ hZ fun k hk => hEF k (h.wanf k hk).1, h.lanf, h.wanf, h.sep, h.fg, fun k hk => Nat.lt_of_lt_of_le (h.fl k hk) hm.size, hl, fun k hk hf => ?_⟩
  rcases hG k hk with h1 | h1
  · exact h.gf k h1 hf
  · have := h.fl k hf; omega
theorem BbR.fr (h : BbR w G F g b x l m) (hf : Fr w w') : BbR w' G F g b x l m :=
  h.other (E := fun _ => False) (Mv.of_fr hf) (fun _ h => h.elim) (fun _ h => .inl h) fun k hk => Nat.lt_of_lt_of_le (h.gl k hk) hf.size
theorem BbR.gt (h : BbR w G F g b x l m) : g < w.heap.size := h.fl g h.fg
theorem BbR.to (h : BbR w G F g b x l m) : BbTo w F w G g b x := ⟨F, l, m, h, Stp.refl _ _⟩
theorem BbTo.pre {F0 : Nat → Prop} {w0 : World} (hs : Stp w0 F0 w F) (h : BbTo w F w' G g b x) : BbTo w0 F0 w' G g b x := by
  obtain ⟨F', l, m, h1, h2⟩ := h
  exact ⟨F', l, m, h1, hs.trans h2⟩
theorem BbR.l_pass (h : BbR w G F g b x l m) {K : Int → Prop} (k : K b.pass) : ld (.I .i64) w ⟨g, 0, none⟩ K := ldI0 (n := b.pass) h.cells rfl k
theorem BbR.s_pass (h : BbR w G F g b x l m) {v : Int} {K : World → Prop} (hk : ∀ w', BbR w' G F g { b with pass := v } x l m → Stp w F w' F → K w') : st1 w ⟨g, 0, none⟩ (.int .i64 v) K :=
  st0 h.cells (by show 0 < 16; decide) fun w' hb hg hs => by
    obtain ⟨h1, h2⟩ := h.upd (b' := { b with pass := v }) hb hg hs rfl rfl
    exact hk w' h1 h2
theorem BbR.l_refs (h : BbR w G F g b x l m) {K : Int → Prop} (k : K b.refs) : ld (.I .i64) w ⟨g, 1, none⟩ K := ldI0 (n := b.refs) h.cells rfl k
theorem BbR.l_lits (h : BbR w G F g b x l m) {K : Int → Prop} (k : K b.lits) : ld (.I .i64) w ⟨g, 2, none⟩ K := ldI0 (n := b.lits) h.cells rfl k
theorem BbR.l_miss (h : BbR w G F g b x l m) {K : Int → Prop} (k : K b.miss) : ld (.I .i64) w ⟨g, 3, none⟩ K := ldI0 (n := b.miss) h.cells rfl k
theorem BbR.l_brok (h : BbR w G F g b x l m) {K : Int → Prop} (k : K b.brok) : ld (.I .i64) w ⟨g, 4, none⟩ K := ldI0 (n := b.brok) h.cells rfl k
theorem BbR.l_side (h : BbR w G F g b x l m) {K : Int → Prop} (k : K b.side) : ld (.I .i64) w ⟨g, 5, none⟩ K := ldI0 (n := b.side) h.cells rfl k
theorem BbR.l_iss (h : BbR w G F g b x l m) {K : Int → Prop} (k : K b.iss) : ld (.I .u32) w ⟨g, 7, none⟩ K := ldI0 (n := b.iss) h.cells rfl k
theorem BbR.s_s (h : BbR w G F g b x l m) {v : Option Addr} {K : World → Prop} (hk : ∀ w', BbR w' G F g b { x with s := v } l m → Stp w F w' F → K w') : st1 w ⟨g, 8, none⟩ (.pointer v) K :=
  st0 h.cells (by show 8 < 16; decide) fun w' hb hg hs => by
    obtain ⟨h1, h2⟩ := h.upd (x' := { x with s := v }) hb hg hs rfl rfl
    exact hk w' h1 h2
theorem BbR.l_t (h : BbR w G F g b x l m) {K : Option Addr → Prop} (k : K x.t) : ld .P w ⟨g, 9, none⟩ K := ldP0 (p := x.t) h.cells rfl k
theorem BbR.s_t (h : BbR w G F g b x l m) {v : Option Addr} {K : World → Prop} (hk : ∀ w', BbR w' G F g b { x with t := v } l m → Stp w F w' F → K w') : st1 w ⟨g, 9, none⟩ (.pointer v) K :=
  st0 h.cells (by show 9 < 16; decide) fun w' hb hg hs => by
    obtain ⟨h1, h2⟩ := h.upd (x' := { x with t := v }) hb hg hs rfl rfl
    exact hk w' h1 h2
theorem BbR.s_table (h : BbR w G F g b x l m) {v : Option Addr} {K : World → Prop} (hk : ∀ w', BbR w' G F g b { x with table := v } l m → Stp w F w' F → K w') : st1 w ⟨g, 10, none⟩ (.pointer v) K :=
  st0 h.cells (by show 10 < 16; decide) fun w' hb hg hs => by
    obtain ⟨h1, h2⟩ := h.upd (x' := { x with table := v }) hb hg hs rfl rfl
    exact hk w' h1 h2
theorem BbR.l_fl (h : BbR w G F g b x l m) {K : Sl → Prop} (k : K x.fl) : ld .L w ⟨g, 11, none⟩ K := ldL0 (s := x.fl) h.cells rfl k
theorem BbR.l_lt (h : BbR w G F g b x l m) {K : Sl → Prop} (k : K x.lt) : ld .L w ⟨g, 13, none⟩ K := ldL0 (s := x.lt) h.cells rfl k
theorem BbR.s_lt (h : BbR w G F g b x l m) {v : Sl} {K : World → Prop} (hk : ∀ w', BbR w' G F g b { x with lt := v } l m → Stp w F w' F → K w') : st1 w ⟨g, 13, none⟩ (.slice v.a v.n v.c) K :=
  st0 h.cells (by show 13 < 16; decide) fun w' hb hg hs => by
    obtain ⟨h1, h2⟩ := h.upd (x' := { x with lt := v }) hb hg hs rfl rfl
    exact hk w' h1 h2
theorem BbR.l_lan (h : BbR w G F g b x l m) {K : Sl → Prop} (k : K l) : ld .L w ⟨g, 14, none⟩ K := ldL0 (s := l) h.cells rfl k
theorem BbR.l_wan (h : BbR w G F g b x l m) {K : Sl → Prop} (k : K m) : ld .L w ⟨g, 15, none⟩ K := ldL0 (s := m) h.cells rfl k
/-- Other rows stand there: what was not one's own ahead belongs to the rows alone. -/
theorem BbR.rows {F' : Nat → Prop} {b' : Bb} {l' m' : Sl} (h : BbR w G F g b x l m) (hb : w'.heap[g]? = some (.cells (bxL b' x l' m').toArray t_box_Box (0, 0))) (h1 : RowB w' (Zt G F') l' b'.lan) (h2 : RowB w' (Zt G F') m' b'.wan) (f1 : ∀ k, BK l' k → F' k ∧ k ≠ g) (f2 : ∀ k, BK m' k → F' k ∧ k ≠ g) (sep : ∀ k, BK l' k → ¬BK m' k)
    (hg : F' g) (hF : ∀ k, F' k → F k ∨ (w.heap.size ≤ k ∧ k < w'.heap.size)) (hm : Mv F w w') : BbR w' G F' g b' x l' m' ∧ Stp w F w' F' :=
  ⟨⟨hb, h1, h2, f1, f2, sep, hg, fun k hk => (hF k hk).elim (fun h0 => Nat.lt_of_lt_of_le (h.fl k h0) hm.size) fun h0 => h0.2, fun k hk => Nat.lt_of_lt_of_le (h.gl k hk) hm.size, fun k hk hf => (hF k hf).elim (h.gf k hk) fun h0 => by have := h.gl k hk; omega⟩, hm, fun k hk => (hF k hk).imp id fun h0 => h0.1⟩
/-- Some go out there. -/
theorem BbR.push_lan (h : BbR w G F g b x l m) {y : Sl} {ms : List Sl} {bs : List (List UInt8)} (hy : Rd w y.a (slsV ms)) (hyn : ms.length = y.n) (hms : All2 (Cb w (Zt G F)) ms bs) (hl : b.lan.length + bs.length ≤ 1099511627776) {K : World → Prop} (hk : ∀ w', BbTo w F w' G g { b with lan := b.lan ++ bs } x → K w') :
    app Tryz.prog t_s_s_uint8 t_s_s_uint8 l y w fun r w' => st1 w' ⟨g, 14, none⟩ (.slice r.a r.n r.c) K := by
  refine h.lan.app (fun k hk => .inr (h.lanf k hk).1) hy hyn hms hl fun r w2 hr hm2 hat => ?_
  have hgl := h.gt
  have hc2 := hm2.heap h.cells fun hk => (h.lanf _ hk).2 rfl
  refine st0 hc2 (by show 14 < 16; decide) fun w3 hb3 hg3 hs3 => ?_
  have hm3 : Mv (fun k => k = g) w2 w3 := Mv.of_grown hg3 rfl
  have hmE : Mv (fun k => BK l k ∨ k = g) w w3 := (hm2.mono fun k hk => .inl (.inl hk)).trans (hm3.mono fun k hk => .inl (.inr hk)) fun k hk => .inl hk
  have hEF : ∀ k, (BK l k ∨ k = g) → F k := fun k hk => hk.elim (fun h1 => (h.lanf k h1).1) fun h1 => h1 ▸ h.fg
  have hmF : Mv F w w3 := hmE.mono fun k hk => .inl (hEF k hk)
  have hz2 := hm2.size
  obtain ⟨F', hF'⟩ : ∃ F' : Nat → Prop, F' = fun k => F k ∨ BK r k := ⟨_, rfl⟩
  have hZ : ∀ k, Zt G F' k → Zt G F k ∨ BK r k := fun k hk => by
    rw [hF'] at hk
    rcases hk with hk | hk | hk
    · exact .inl (.inl hk)
    · exact .inl (.inr hk)
    · exact .inr hk
  have hF1 : ∀ k, F' k → F k ∨ (w.heap.size ≤ k ∧ k < w3.heap.size) := fun k hk => by
    rw [hF'] at hk
    rcases hk with hk | hk
    · exact .inl hk
    · rcases hat k hk with h1 | ⟨h1, h2⟩
      · exact .inl (h.lanf k h1).1
      · right; omega
  have hrg : ∀ k, BK r k → k ≠ g := fun k hk e => by
    rcases hat k hk with h1 | ⟨h1, _⟩
    · exact (h.lanf k h1).2 e
    · omega
  have hro : ∀ k, BK r k → ¬BK m k := fun k hk ho => by
    rcases hat k hk with h1 | ⟨h1, _⟩
    · exact h.sep k h1 ho
    · have := h.fl k (h.wanf k ho).1; omega
  have hZ3 : ∀ k, Zt G F' k → Zt G F k ∨ w.heap.size ≤ k := fun k hk => by
    rcases hk with hk | hk
    · exact .inl (.inl hk)
    · exact (hF1 k hk).imp .inr fun h => h.1
  have hr3 : RowB w3 (Zt G F') r (b.lan ++ bs) := hr.mv hm3 (fun k hk => .inl (.inl (.inr (hk ▸ h.fg)))) (fun k hk => .inl (hZ k hk)) hrg
  have ho3 : RowB w3 (Zt G F') m b.wan := h.wan.mv hmE (fun k hk => .inl (.inr (hEF k hk))) hZ3 fun k hk hf => hf.elim (fun h1 => h.sep k h1 hk) (h.wanf k hk).2
  have fr : ∀ k, BK r k → F' k ∧ k ≠ g := fun k hk => ⟨by rw [hF']; exact .inr hk, hrg k hk⟩
  have fo : ∀ k, BK m k → F' k ∧ k ≠ g := fun k hk => ⟨by rw [hF']; exact .inl (h.wanf k hk).1, (h.wanf k hk).2⟩
  obtain ⟨h5, h6⟩ := h.rows (b' := { b with lan := b.lan ++ bs }) hb3 hr3 ho3 fr fo hro (by rw [hF']; exact .inl h.fg) hF1 hmF
  exact hk w3 ⟨F', r, m, h5, h6⟩
/-- Some go out there. -/
theorem BbR.push_wan (h : BbR w G F g b x l m) {y : Sl} {ms : List Sl} {bs : List (List UInt8)} (hy : Rd w y.a (slsV ms)) (hyn : ms.length = y.n) (hms : All2 (Cb w (Zt G F)) ms bs) (hl : b.wan.length + bs.length ≤ 1099511627776) {K : World → Prop} (hk : ∀ w', BbTo w F w' G g { b with wan := b.wan ++ bs } x → K w') :
    app Tryz.prog t_s_s_uint8 t_s_s_uint8 m y w fun r w' => st1 w' ⟨g, 15, none⟩ (.slice r.a r.n r.c) K := by
  refine h.wan.app (fun k hk => .inr (h.wanf k hk).1) hy hyn hms hl fun r w2 hr hm2 hat => ?_
  have hgl := h.gt
  have hc2 := hm2.heap h.cells fun hk => (h.wanf _ hk).2 rfl
  refine st0 hc2 (by show 15 < 16; decide) fun w3 hb3 hg3 hs3 => ?_
  have hm3 : Mv (fun k => k = g) w2 w3 := Mv.of_grown hg3 rfl
  have hmE : Mv (fun k => BK m k ∨ k = g) w w3 := (hm2.mono fun k hk => .inl (.inl hk)).trans (hm3.mono fun k hk => .inl (.inr hk)) fun k hk => .inl hk
  have hEF : ∀ k, (BK m k ∨ k = g) → F k := fun k hk => hk.elim (fun h1 => (h.wanf k h1).1) fun h1 => h1 ▸ h.fg
  have hmF : Mv F w w3 := hmE.mono fun k hk => .inl (hEF k hk)
  have hz2 := hm2.size
  obtain ⟨F', hF'⟩ : ∃ F' : Nat → Prop, F' = fun k => F k ∨ BK r k := ⟨_, rfl⟩
  have hZ : ∀ k, Zt G F' k → Zt G F k ∨ BK r k := fun k hk => by
    rw [hF'] at hk
    rcases hk with hk | hk | hk
    · exact .inl (.inl hk)
    · exact .inl (.inr hk)
    · exact .inr hk
  have hF1 : ∀ k, F' k → F k ∨ (w.heap.size ≤ k ∧ k < w3.heap.size) := fun k hk => by
    rw [hF'] at hk
    rcases hk with hk | hk
    · exact .inl hk
    · rcases hat k hk with h1 | ⟨h1, h2⟩
      · exact .inl (h.wanf k h1).1
      · right; omega
  have hrg : ∀ k, BK r k → k ≠ g := fun k hk e => by
    rcases hat k hk with h1 | ⟨h1, _⟩
    · exact (h.wanf k h1).2 e
    · omega
  have hro : ∀ k, BK r k → ¬BK l k := fun k hk ho => by
    rcases hat k hk with h1 | ⟨h1, _⟩
    · exact h.sep k ho h1
    · have := h.fl k (h.lanf k ho).1; omega
  have hZ3 : ∀ k, Zt G F' k → Zt G F k ∨ w.heap.size ≤ k := fun k hk => by
    rcases hk with hk | hk
    · exact .inl (.inl hk)
    · exact (hF1 k hk).imp .inr fun h => h.1
  have hr3 : RowB w3 (Zt G F') r (b.wan ++ bs) := hr.mv hm3 (fun k hk => .inl (.inl (.inr (hk ▸ h.fg)))) (fun k hk => .inl (hZ k hk)) hrg
  have ho3 : RowB w3 (Zt G F') l b.lan := h.lan.mv hmE (fun k hk => .inl (.inr (hEF k hk))) hZ3 fun k hk hf => hf.elim (fun h1 => h.sep k hk h1) (h.lanf k hk).2
  have fr : ∀ k, BK r k → F' k ∧ k ≠ g := fun k hk => ⟨by rw [hF']; exact .inr hk, hrg k hk⟩
  have fo : ∀ k, BK l k → F' k ∧ k ≠ g := fun k hk => ⟨by rw [hF']; exact .inl (h.lanf k hk).1, (h.lanf k hk).2⟩
  obtain ⟨h5, h6⟩ := h.rows (b' := { b with wan := b.wan ++ bs }) hb3 ho3 hr3 fo fr (fun k hk hk2 => hro k hk2 hk) (by rw [hF']; exact .inl h.fg) hF1 hmF
  exact hk w3 ⟨F', l, r, h5, h6⟩
end
end Go.Proofs.YtoglafmpllimgaaGreatDoor
namespace Go.Proofs.YtoglafmpllimgaaGreatDoor
open Go.RowKit Go.Fl

section
variable {w : World} {G F : Nat → Prop} {g : Nat} {b : Bb} {x : BxP} {l m : Sl}
theorem bmade_ok (h : BbR w G F g b x l m) : cl Tryz.prog n_box_Box_made #[.pointer (some ⟨g, 0, none⟩)] .B w fun (r : Bool) w' => r = decide (b.side ≠ 0) ∧ w = w' := by
  refine box_Box_made.cl ?_
  unfold box_Box_made
  refine bT rfl ?_
  rw [nz, addOff]
  refine h.l_side ⟨?_, rfl⟩
  rw [Bool.eq_iff_iff, bne_iff_ne, decide_eq_true_iff]
theorem aAdd_ok {a : Addr} {n y : Int} (hc : w.cell? a = some (.int .i64 n)) {K : World → Prop} (hst : st1 w a (.int .i64 (wr (n + y))) K) : cl Tryz.prog n_sync_atomic_Int64_Add #[.pointer (some a), .int .i64 y] (.I .i64) w fun (_ : Int) w' => K w' := by
  obtain ⟨_, hz, hk⟩ := hst
  refine sync_atomic_Int64_Add.cl ?_
  unfold sync_atomic_Int64_Add
  refine ⟨wr (n + y), _, run_call_add (P := Tryz.prog) b_sync_atomic_AddInt64 (by kernel_rfl) (by kernel_rfl) (by kernel_rfl) .i64 (by kernel_rfl) (s := wr (n + y)) hc hz (by simp [go_sem]), hk⟩
theorem aLoad_ok {a : Addr} {n : Int} (hc : w.cell? a = some (.int .i64 n)) : cl Tryz.prog n_sync_atomic_Int64_Load #[.pointer (some a)] (.I .i64) w fun (r : Int) w' => r = n ∧ w = w' := by
  refine sync_atomic_Int64_Load.cl ?_
  unfold sync_atomic_Int64_Load
  exact ⟨n, _, run_call_load (P := Tryz.prog) b_sync_atomic_LoadInt64 (by kernel_rfl) (by kernel_rfl) (by kernel_rfl) .i64 (by kernel_rfl) hc, rfl, rfl⟩
/-- Bytes are handed on to that side. -/
theorem pass_lan {s : Sl} {d : List UInt8} (h : BbR w G F g b x l m) (hs : Bs w s d) (hd : d.length ≤ 1099511627776) (hl : b.lan.length ≤ 1073741824) :
    cl Tryz.prog n_box_Box_pass #[.pointer (some ⟨g, 0, none⟩), .pointer (some ⟨g, 14, none⟩), .slice s.a s.n s.c] (.tup .nil) w fun (_ : Unit) w' => BbTo w F w' G g { b with lan := b.lan ++ [d], pass := wr (b.pass + 1) } x := by
  refine box_Box_pass.cl (p2 := s) ?_
  unfold box_Box_pass
  intro n
  have f0 := Fr.drewN w n
  have h0 := h.fr f0
  have hs0 := hs.fr f0
  generalize w.drewN n = w1 at *
  show ld .L w1 ⟨g, 14, none⟩ _
  refine h0.l_lan ?_
  refine (Clone_byte_ok hs0 (by omega)).mono ?_
  rintro x4 w5 ⟨h4, f5⟩
  refine ⟨f5, ?_⟩
  refine nwI fun b6 w7 hb6 hs6 f7 hblk6 hr6 => ?_
  refine ⟨f7, ?_⟩
  have f17 := f5.trans f7
  have h7 := h0.fr f17
  dsimp only [nz]
  refine h7.push_lan (y := ⟨some ⟨b6, 0, none⟩, 1, 1⟩) (ms := [x4]) (bs := [d]) hr6 rfl ⟨?_, trivial⟩ (by simp; omega) fun w9 hto => ?_
  · refine Cb.own (h4.fr f7) fun k hk => ?_
    rcases hk with hk | hk
    · exact h0.gl k hk
    · exact h0.fl k hk
  obtain ⟨F9, l9, m9, h9, s9⟩ := hto
  obtain ⟨_, hc, rfl⟩ := h9.l_pass (K := fun n => n = b.pass) rfl
  refine aAdd_ok hc ?_
  refine h9.s_pass fun w10 h10 s10 => ?_
  exact ⟨F9, l9, m9, h10, (Stp.of_fr (f0.trans f17)).trans (s9.trans s10)⟩
/-- Bytes are handed on to that side. -/
theorem pass_wan {s : Sl} {d : List UInt8} (h : BbR w G F g b x l m) (hs : Bs w s d) (hd : d.length ≤ 1099511627776) (hl : b.wan.length ≤ 1073741824) :
    cl Tryz.prog n_box_Box_pass #[.pointer (some ⟨g, 0, none⟩), .pointer (some ⟨g, 15, none⟩), .slice s.a s.n s.c] (.tup .nil) w fun (_ : Unit) w' => BbTo w F w' G g { b with wan := b.wan ++ [d], pass := wr (b.pass + 1) } x := by
  refine box_Box_pass.cl (p2 := s) ?_
  unfold box_Box_pass
  intro n
  have f0 := Fr.drewN w n
  have h0 := h.fr f0
  have hs0 := hs.fr f0
  generalize w.drewN n = w1 at *
  show ld .L w1 ⟨g, 15, none⟩ _
  refine h0.l_wan ?_
  refine (Clone_byte_ok hs0 (by omega)).mono ?_
  rintro x4 w5 ⟨h4, f5⟩
  refine ⟨f5, ?_⟩
  refine nwI fun b6 w7 hb6 hs6 f7 hblk6 hr6 => ?_
  refine ⟨f7, ?_⟩
  have f17 := f5.trans f7
  have h7 := h0.fr f17
  dsimp only [nz]
  refine h7.push_wan (y := ⟨some ⟨b6, 0, none⟩, 1, 1⟩) (ms := [x4]) (bs := [d]) hr6 rfl ⟨?_, trivial⟩ (by simp; omega) fun w9 hto => ?_
  · refine Cb.own (h4.fr f7) fun k hk => ?_
    rcases hk with hk | hk
    · exact h0.gl k hk
    · exact h0.fl k hk
  obtain ⟨F9, l9, m9, h9, s9⟩ := hto
  obtain ⟨_, hc, rfl⟩ := h9.l_pass (K := fun n => n = b.pass) rfl
  refine aAdd_ok hc ?_
  refine h9.s_pass fun w10 h10 s10 => ?_
  exact ⟨F9, l9, m9, h10, (Stp.of_fr (f0.trans f17)).trans (s9.trans s10)⟩
end
end Go.Proofs.YtoglafmpllimgaaGreatDoor
namespace Go.Fl

/-- A slot. -/
structure SV where
  sum : List UInt8
  data : Sl
  pins : Int
  prev : Int
  next : Int
abbrev Slots := Nat → SV
def upS (f : Slots) (i : Nat) (v : SV) : Slots := fun j => if j = i then v else f j
theorem up_same (f : Slots) (i : Nat) (v : SV) : upS f i v i = v := if_pos rfl
theorem up_ne (f : Slots) {i j : Nat} (v : SV) (h : j ≠ i) : upS f i v j = f j := if_neg h
/-- Who stands ahead of the k-th, and behind it. -/
def pv (ids : List Nat) : Nat → Int
  | 0 => -1
  | k + 1 => match ids[k]? with
    | some j => (j : Int)
    | none => -1
def nx (ids : List Nat) (k : Nat) : Int := match ids[k]? with
  | some j => (j : Int)
  | none => -1
/-- The slots are linked in this order. -/
structure Chain (f : Slots) (ids : List Nat) (old young : Int) : Prop where
  nd : ids.Nodup
  old : old = nx ids 0
  young : young = pv ids ids.length
  prev : ∀ k i, ids[k]? = some i → (f i).prev = pv ids k
  next : ∀ k i, ids[k]? = some i → (f i).next = nx ids (k + 1)
section
variable {f : Slots} {ids : List Nat} {old young : Int}
theorem nd_get (h : ids.Nodup) {k j i : Nat} (h1 : ids[k]? = some i) (h2 : ids[j]? = some i) : k = j :=
  (List.getElem?_inj (List.getElem?_eq_some_iff.1 h1).1 h).1 (h1.trans h2.symm)
/-- What is not in the order may be anything; and a slot's sum, data and pins too. -/
theorem Chain.other (h : Chain f ids old young) {g : Slots} (hg : ∀ i ∈ ids, (g i).prev = (f i).prev ∧ (g i).next = (f i).next) : Chain g ids old young :=
  ⟨h.nd, h.old, h.young, fun k i hk => ((hg i (List.mem_of_getElem? hk)).1).trans (h.prev k i hk), fun k i hk => ((hg i (List.mem_of_getElem? hk)).2).trans (h.next k i hk)⟩
end
end Go.Fl
namespace Go.Fl

def slotV (s : SV) : List Value := u8s s.sum ++ [slV s.data, .int .i64 s.pins, .int .i64 s.prev, .int .i64 s.next]
theorem slotV_length {s : SV} (h : s.sum.length = 32) : (slotV s).length = 36 := by simp [slotV, u8s_length, h]
def slotsV (f : Slots) : Nat → List Value
  | 0 => []
  | n + 1 => slotsV f n ++ slotV (f n)
abbrev F32 (f : Slots) : Prop := ∀ i, (f i).sum.length = 32
theorem F32.upS {f : Slots} (h : F32 f) {i : Nat} {v : SV} (hv : v.sum.length = 32) : F32 (upS f i v) := fun j => by
  by_cases e : j = i
  · subst e; rw [up_same]; exact hv
  · rw [up_ne _ _ e]; exact h j
theorem slotsV_length {f : Slots} (h : F32 f) : ∀ n, (slotsV f n).length = 36 * n
  | 0 => rfl
  | n + 1 => by rw [slotsV, List.length_append, slotsV_length h n, slotV_length (h n)]; omega
theorem slotsV_up {f : Slots} {i : Nat} (v : SV) : ∀ {n}, n ≤ i → slotsV (upS f i v) n = slotsV f n
  | 0, _ => rfl
  | n + 1, hn => by rw [slotsV, slotsV, slotsV_up v (by omega), up_ne _ _ (by omega)]
theorem slotsV_split {f : Slots} (h : F32 f) {i : Nat} : ∀ {n}, i < n → ∃ post, slotsV f n = slotsV f i ++ slotV (f i) ++ post ∧ ∀ v, slotsV (upS f i v) n = slotsV f i ++ slotV v ++ post
  | n + 1, hn => by
    by_cases e : i = n
    · subst e
      refine ⟨[], by rw [List.append_nil]; rfl, fun v => ?_⟩
      rw [List.append_nil, slotsV, slotsV_up v (Nat.le_refl _), up_same]
    · obtain ⟨post, h1, h2⟩ := slotsV_split h (i := i) (n := n) (by omega)
      refine ⟨post ++ slotV (f n), by rw [slotsV, h1, List.append_assoc], fun v => ?_⟩
      rw [slotsV, h2 v, up_ne _ _ (by omega), List.append_assoc]
/-- The rows of slots in memory. -/
def SlR (w : World) (b : Nat) (f : Slots) (n : Nat) (t : TypeId) (post : List Value) : Prop := w.heap[b]? = some (.cells (slotsV f n ++ post).toArray t (0, 0))
section
variable {w : World} {b n : Nat} {f : Slots} {t : TypeId} {post : List Value} {i : Nat}
theorem SlR.at (_h : SlR w b f n t post) (h32 : F32 f) (hi : i < n) {o : Nat} (ho : o < 36) : (slotsV f n ++ post).toArray[36 * i + o]? = (slotV (f i))[o]? := by
  obtain ⟨q, h1, _⟩ := slotsV_split h32 hi
  rw [h1, List.getElem?_toArray, List.append_assoc, List.append_assoc, List.getElem?_append_right (by rw [slotsV_length h32]; omega), slotsV_length h32, Nat.add_sub_cancel_left,
    List.getElem?_append_left (by rw [slotV_length (h32 i)]; exact ho)]
theorem slot_tail (s : SV) (h : s.sum.length = 32) (o : Nat) : (slotV s)[32 + o]? = ([slV s.data, .int .i64 s.pins, .int .i64 s.prev, .int .i64 s.next] : List Value)[o]? := by
  unfold slotV
  rw [List.getElem?_append_right (by rw [u8s_length, h]; omega), u8s_length, h, Nat.add_sub_cancel_left]
theorem SlR.data (h : SlR w b f n t post) (h32 : F32 f) (hi : i < n) {K : Sl → Prop} (k : K (f i).data) : ld .L w ⟨b, 36 * i + 32, none⟩ K :=
  ldL0 h ((h.at h32 hi (by decide)).trans (slot_tail _ (h32 i) 0)) k
theorem SlR.pins (h : SlR w b f n t post) (h32 : F32 f) (hi : i < n) {K : Int → Prop} (k : K (f i).pins) : ld (.I .i64) w ⟨b, 36 * i + 33, none⟩ K :=
  ldI0 h ((h.at h32 hi (by decide)).trans (slot_tail _ (h32 i) 1)) k
theorem SlR.prev (h : SlR w b f n t post) (h32 : F32 f) (hi : i < n) {K : Int → Prop} (k : K (f i).prev) : ld (.I .i64) w ⟨b, 36 * i + 34, none⟩ K :=
  ldI0 h ((h.at h32 hi (by decide)).trans (slot_tail _ (h32 i) 2)) k
theorem SlR.next (h : SlR w b f n t post) (h32 : F32 f) (hi : i < n) {K : Int → Prop} (k : K (f i).next) : ld (.I .i64) w ⟨b, 36 * i + 35, none⟩ K :=
  ldI0 h ((h.at h32 hi (by decide)).trans (slot_tail _ (h32 i) 3)) k
theorem SlR.sum (h : SlR w b f n t post) (h32 : F32 f) (hi : i < n) {K : {l : List Value // l.length = 32} → Prop} (k : ∀ hh, K ⟨u8s (f i).sum, hh⟩) : ld (.row 32) w ⟨b, 36 * i, none⟩ K := by
  obtain ⟨q, h1, _⟩ := slotsV_split h32 hi
  refine ldRow (vs := u8s (f i).sum) h ?_ (by rw [u8s_length, h32 i]) (k _)
  rw [h1, ← slotsV_length h32 i, List.append_assoc, List.append_assoc, List.drop_left' rfl]
  unfold slotV
  rw [List.append_assoc, List.take_left' (by rw [u8s_length, h32 i])]
abbrev kSlot : Kd := .pair (.row 32) (.pair .L (.pair (.I .i64) (.pair (.I .i64) (.pair (.I .i64) .nil))))
/-- A slot as a value. -/
def slotT (s : SV) (h : s.sum.length = 32) : kSlot.T := (⟨u8s s.sum, by rw [u8s_length, h]⟩, s.data, s.pins, s.prev, s.next, ())
theorem slotT_cells (s : SV) (h : s.sum.length = 32) : (kSlot.av (slotT s h)).cells = slotV s := by
  simp [slotT, Kd.av, AV.cells, slotV, Value.cells]
/-- A slot as a whole: read, written. -/
theorem SlR.get (h : SlR w b f n t post) (h32 : F32 f) (hi : i < n) {K : kSlot.T → Prop} (k : K (slotT (f i) (h32 i))) : ld kSlot w ⟨b, 36 * i, none⟩ K := by
  obtain ⟨q, h1, _⟩ := slotsV_split h32 hi
  rw [← slotsV_length h32 i]
  refine ld_all kSlot (slotT (f i) (h32 i)) rfl (post := q ++ post) (t := t) (f := (0, 0)) ?_ k
  rw [slotT_cells, h, h1]
  simp
theorem SlR.put (h : SlR w b f n t post) (h32 : F32 f) (hi : i < n) (s : SV) (hs : s.sum.length = 32) {x : AV} (hx : x = kSlot.av (slotT s hs)) {K : World → Prop}
    (hk : ∀ w', SlR w' b (upS f i s) n t post → w.grownBy w' (some b) → w'.heap.size = w.heap.size → K w') : st w ⟨b, 36 * i, none⟩ x K := by
  obtain ⟨q, h1, h2⟩ := slotsV_split h32 hi
  rw [← slotsV_length h32 i]
  subst hx
  refine st_all _ ?_ (pre := slotsV f i) (q := slotV (f i)) (post := q ++ post) (t := t) ?_ (by rw [← AV.cells_length, slotT_cells, slotV_length hs, slotV_length (h32 i)]) fun w' hb hg hz => hk w' ?_ hg hz
  · simp only [slotT, Kd.av, AV.okSt, Bool.and_true, Bool.and_eq_true, List.all_eq_true]
    exact ⟨fun v hv => u8s_one _ v hv, rfl, rfl, rfl, rfl⟩
  · rw [h, h1]; simp
  · unfold SlR
    rw [hb, h2 s, slotT_cells]; simp
end
end Go.Fl
namespace Go.Proofs.YtoglafmpllimgaaGreatDoor
open Go.RowKit Go.Fl

/-- A store's memory. -/
structure M9 where
  sb : Nat
  sc : Nat
  n : Nat
  f : Slots
  post : List Value
  free : Sl
  old : Int
  young : Int
  m : Option Nat
  most : Int
  room : Int
  bytes : Int
def stC (x : M9) : y_store_Store := ((⟨some ⟨x.sb, 0, none⟩, x.n, x.sc⟩, x.free, x.old, x.young, ()), x.m, x.most, x.room, x.bytes, ())
abbrev stL9 (x : M9) : List Value := (Kd.av k_store_Store (stC x)).cells
structure Mem9 (w : World) (g : Nat) (x : M9) : Prop where
  st : w.heap[g]? = some (.cells (stL9 x).toArray t_store_Store (0, 0))
  row : SlR w x.sb x.f x.n t_store_slot x.post
  f32 : F32 x.f
section
variable {w : World} {g : Nat} {x : M9}
theorem Mem9.ne (h : Mem9 w g x) : g ≠ x.sb := by
  intro e
  have h1 := h.st
  rw [e] at h1
  have h2 := h.row
  unfold SlR at h2
  rw [h1] at h2
  simp only [Option.some.injEq, Obj.cells.injEq] at h2
  exact absurd h2.2.1 (by decide)
theorem Mem9.mv (h : Mem9 w g x) {F : Nat → Prop} {w' : World} (hm : Mv F w w') (hg : ¬F g) (hs : ¬F x.sb) : Mem9 w' g x := ⟨hm.heap h.st hg, hm.heap h.row hs, h.f32⟩
theorem Mem9.fr (h : Mem9 w g x) {w' : World} (hf : Fr w w') : Mem9 w' g x := ⟨hf.heap h.st, hf.heap h.row, h.f32⟩
/-- The slots turned. -/
theorem Mem9.setRow (h : Mem9 w g x) {w' : World} {f : Slots} (hr : SlR w' x.sb f x.n t_store_slot x.post) (hf : F32 f) (hg : w.grownBy w' (some x.sb)) : Mem9 w' g { x with f := f } :=
  ⟨(hg.block g (Array.getElem?_eq_some_iff.1 h.st).1 fun e => h.ne (Option.some.inj e)).trans h.st, hr, hf⟩
abbrev own9 (g : Nat) (x : M9) : Nat → Prop := fun k => k = g ∨ k = x.sb
end
end Go.Proofs.YtoglafmpllimgaaGreatDoor
namespace Go.Fl

/-- A chunk that is kept. -/
structure Ch where
  sum : List UInt8
  data : List UInt8
  pins : Nat
/-- A store: what rested longest stands first. -/
structure Sto where
  most : Nat
  room : Nat
  l : List Ch
def bytesL : List Ch → Nat
  | [] => 0
  | c :: l => c.data.length + bytesL l
def heldN : List Ch → Nat
  | [] => 0
  | c :: l => (if 0 < c.pins then 1 else 0) + heldN l
def heldB : List Ch → Nat
  | [] => 0
  | c :: l => (if 0 < c.pins then c.data.length else 0) + heldB l
def looseI : List Ch → Nat
  | [] => 0
  | c :: l => if 0 < c.pins then looseI l + 1 else 0
def findI (d : List UInt8) : List Ch → Option Nat
  | [] => none
  | c :: l => if c.sum = d then some 0 else (findI d l).map (· + 1)
def fitsL (most room n : Nat) (l : List Ch) : Prop := l.length < most ∧ n + bytesL l ≤ room
instance {most room n : Nat} {l : List Ch} : Decidable (fitsL most room n l) := inferInstanceAs (Decidable (_ ∧ _))
def shrinkL (most room n : Nat) : Nat → List Ch → List Ch
  | 0, l => l
  | k + 1, l => if fitsL most room n l then l else shrinkL most room n k (l.eraseIdx (looseI l))
/-- To the young end. -/
def useL (l : List Ch) (k : Nat) : List Ch := l.eraseIdx k ++ (l[k]?).toList
def Sto.put (s : Sto) (d b : List UInt8) : Sto × Int := match findI d s.l with
  | some k => ({ s with l := useL s.l k }, 0)
  | none => if s.most ≤ heldN s.l ∨ s.room < b.length + heldB s.l then (s, 7)
    else ({ s with l := shrinkL s.most s.room b.length s.l.length s.l ++ [⟨d, b, 0⟩] }, 0)
def Sto.get (s : Sto) (d : List UInt8) : Sto × List UInt8 × Int := match findI d s.l with
  | some k => ({ s with l := useL s.l k }, ((s.l[k]?).map (·.data)).getD [], 0)
  | none => (s, [], 90)
theorem findI_some {d : List UInt8} : ∀ {l : List Ch} {k : Nat}, findI d l = some k → ∃ c, l[k]? = some c ∧ c.sum = d ∧ k < l.length
  | c :: l, k, h => by
    unfold findI at h
    split at h
    · cases h; exact ⟨c, rfl, by assumption, by simp⟩
    · obtain ⟨j, hj, rfl⟩ := Option.map_eq_some_iff.1 h
      obtain ⟨c', h1, h2, h3⟩ := findI_some hj
      exact ⟨c', by simpa using h1, h2, by simpa using h3⟩
theorem findI_none {d : List UInt8} : ∀ {l : List Ch}, findI d l = none → ∀ c ∈ l, c.sum ≠ d
  | [], _, _, h => by cases h
  | c :: l, h, c', hc => by
    unfold findI at h
    split at h
    · cases h
    · rename_i hne
      rcases List.mem_cons.1 hc with rfl | hc
      · exact hne
      · exact findI_none (Option.map_eq_none_iff.1 h) c' hc
/-- Rows of numbers. -/
abbrev natsV (l : List Nat) : List Value := l.map fun (i : Nat) => Value.int .i64 (i : Int)
end Go.Fl
namespace Go.Proofs.YtoglafmpllimgaaGreatDoor
open Go.RowKit Go.Fl

abbrev K32 := {l : List UInt8 // l.length = 32}
abbrev Zg (G F : Nat → Prop) : Nat → Prop := fun k => G k ∨ F k
structure Sx where
  m9 : M9
  ids : List Nat
  fr : List Nat
  mp : K32 → Option Nat
  mr : Nat
abbrev mapV (mp : K32 → Option Nat) : K32 → Option Value := fun k => (mp k).map fun (i : Nat) => Value.int .i64 (i : Int)
/-- A slot has this chunk. -/
def Slt (w : World) (Z : Nat → Prop) (f : Slots) (i : Nat) (c : Ch) : Prop := (f i).sum = c.sum ∧ Cb w Z (f i).data c.data ∧ (f i).pins = (c.pins : Int)
/-- A store in memory. G: what others may turn; F: what this one may. -/
structure Stor (w : World) (G F : Nat → Prop) (g : Nat) (s : Sto) (x : Sx) : Prop where
  mem : Mem9 w g x.m9
  en : x.m9.n = s.most
  em : x.m9.m = some x.mr
  emost : x.m9.most = (s.most : Int)
  eroom : x.m9.room = (s.room : Int)
  ebytes : x.m9.bytes = (bytesL s.l : Int)
  free : w.ownsRow 0 t_int 1 (.slice x.m9.free.a x.m9.free.n x.m9.free.c) x.m9.free.n (natsV x.fr)
  map : MapF (keyB (n := 32)) w x.mr (mapV x.mp)
  mp : ∀ k i, x.mp k = some i ↔ i ∈ x.ids ∧ (x.m9.f i).sum = k.1
  ch : Chain x.m9.f x.ids x.m9.old x.m9.young
  nd : (x.fr ++ x.ids).Nodup
  rg : ∀ i ∈ x.fr ++ x.ids, i < s.most
  ln : x.fr.length + x.ids.length = s.most
  all : All2 (Slt w (Zg G F) x.m9.f) x.ids s.l
  fg : F g
  fs : F x.m9.sb
  ff : ∀ ad, x.m9.free.a = some ad → F ad.block
  fm : F x.mr
  fl : ∀ k, F k → k < w.heap.size
  gl : ∀ k, G k → k < w.heap.size
  gf : ∀ k, G k → ¬F k
  sz : s.most ≤ 64 ∧ s.room ≤ 8192
  fit : bytesL s.l ≤ s.room
def StorTo (w w' : World) (G F : Nat → Prop) (g : Nat) (s' : Sto) : Prop := ∃ F' x', Stor w' G F' g s' x' ∧ Mv F w w' ∧ ∀ k, F' k → F k ∨ w.heap.size ≤ k
theorem StorTo.step {w w1 w2 : World} {G F F1 : Nat → Prop} {g : Nat} {t2 : Sto} (hm : Mv F w w1) (hF : ∀ k, F1 k → F k ∨ w.heap.size ≤ k) (h : StorTo w1 w2 G F1 g t2) : StorTo w w2 G F g t2 := by
  obtain ⟨F2, x2, h1, h2, h3⟩ := h
  refine ⟨F2, x2, h1, hm.trans h2 hF, fun k hk => ?_⟩
  rcases h3 k hk with h4 | h4
  · exact hF k h4
  · have := hm.size; right; omega
section
variable {w : World} {G F : Nat → Prop} {g : Nat} {s : Sto} {x : Sx}
theorem Stor.len (h : Stor w G F g s x) : x.ids.length = s.l.length := h.all.length
theorem Stor.slt (h : Stor w G F g s x) {k i : Nat} {c : Ch} (hi : x.ids[k]? = some i) (hc : s.l[k]? = some c) : Slt w (Zg G F) x.m9.f i c := by
  obtain ⟨h1, rfl⟩ := List.getElem?_eq_some_iff.1 hi
  obtain ⟨h2, rfl⟩ := List.getElem?_eq_some_iff.1 hc
  exact h.all.get h1 h2
/-- Where a digest is found. -/
theorem Stor.find (h : Stor w G F g s x) {d : List UInt8} (hd : d.length = 32) : (∃ k i c, findI d s.l = some k ∧ x.ids[k]? = some i ∧ s.l[k]? = some c ∧ c.sum = d ∧ x.mp ⟨d, hd⟩ = some i) ∨ (findI d s.l = none ∧ x.mp ⟨d, hd⟩ = none) := by
  cases hf : findI d s.l with
  | some k =>
    obtain ⟨c, h1, h2, h3⟩ := findI_some hf
    have hk : k < x.ids.length := by rw [h.len]; exact h3
    have hi : x.ids[k]? = some x.ids[k] := List.getElem?_eq_getElem hk
    refine .inl ⟨k, x.ids[k], c, rfl, hi, h1, h2, (h.mp _ _).2 ⟨List.getElem_mem hk, ?_⟩⟩
    rw [(h.slt hi h1).1, h2]
  | none =>
    refine .inr ⟨rfl, ?_⟩
    cases hm : x.mp ⟨d, hd⟩ with
    | none => rfl
    | some i =>
      obtain ⟨h1, h2⟩ := (h.mp _ _).1 hm
      obtain ⟨k, hk, rfl⟩ := List.mem_iff_getElem.1 h1
      have hk' : k < s.l.length := by rw [← h.len]; exact hk
      have := (h.slt (List.getElem?_eq_getElem hk) (List.getElem?_eq_getElem hk')).1
      exact absurd (this.symm.trans h2) (findI_none hf _ (List.getElem_mem hk'))
/-- Sums are unlike. -/
theorem Stor.inj (h : Stor w G F g s x) {j k a b : Nat} (ha : x.ids[j]? = some a) (hb : x.ids[k]? = some b) (e : (x.m9.f a).sum = (x.m9.f b).sum) : a = b := by
  have h1 := (h.mp ⟨_, h.mem.f32 a⟩ a).2 ⟨List.mem_of_getElem? ha, rfl⟩
  have h2 := (h.mp ⟨_, h.mem.f32 a⟩ b).2 ⟨List.mem_of_getElem? hb, e.symm⟩
  rw [h1] at h2
  exact Option.some.inj h2
theorem Slt.mv {Z Z' E : Nat → Prop} {w' : World} {f f' : Slots} {i : Nat} {c : Ch} (h : Slt w Z f i c) (hm : Mv E w w') (hE : ∀ k, E k → Z k ∨ w.heap.size ≤ k) (hZ : ∀ k, Z' k → Z k ∨ w.heap.size ≤ k)
    (h1 : (f' i).sum = (f i).sum) (h2 : (f' i).data = (f i).data) (h3 : (f' i).pins = (f i).pins) : Slt w' Z' f' i c :=
  ⟨h1.trans h.1, by rw [h2]; exact h.2.1.mv hm hE hZ, h3.trans h.2.2⟩
/-- A store, behind something that did not touch it. -/
theorem Stor.other {w' : World} {G' E : Nat → Prop} (h : Stor w G F g s x) (hm : Mv E w w') (hE : ∀ k, E k → (G k ∧ ¬F k) ∨ w.heap.size ≤ k) (hG : ∀ k, G' k → G k ∨ w.heap.size ≤ k) (hl : ∀ k, G' k → k < w'.heap.size) : Stor w' G' F g s x := by
  have hEZ : ∀ k, E k → Zg G F k ∨ w.heap.size ≤ k := fun k hk => (hE k hk).imp (fun h => .inl h.1) id
  have hZ : ∀ k, Zg G' F k → Zg G F k ∨ w.heap.size ≤ k := fun k hk => by
    rcases hk with hk | hk
    · exact (hG k hk).imp .inl id
    · exact .inl (.inr hk)
  have hEF : ∀ k, F k → ¬E k := fun k hf he => by
    rcases hE k he with h1 | h1
    · exact h1.2 hf
    · have := h.fl k hf; omega
  refine { h with mem := h.mem.mv hm (hEF _ h.fg) (hEF _ h.fs), free := own_kp h.free hm.kp fun ad ha => hEF _ (h.ff ad ha), map := h.map.sub (hm.block _ h.map.lt (hEF _ h.fm)), all := h.all.mono fun i c _ _ hr => hr.mv hm hEZ hZ rfl rfl rfl, fl := fun k hk => Nat.lt_of_lt_of_le (h.fl k hk) hm.size, gl := hl, gf := fun k hk hf => ?_ }
  rcases hG k hk with h1 | h1
  · exact h.gf k h1 hf
  · have := h.fl k hf; omega
theorem Stor.fr {w' : World} (h : Stor w G F g s x) (hf : Fr w w') : Stor w' G F g s x :=
  h.other (E := fun _ => False) (Mv.of_fr hf) (fun _ h => h.elim) (fun _ h => .inl h) fun k hk => Nat.lt_of_lt_of_le (h.gl k hk) hf.size
theorem Stor.refl (h : Stor w G F g s x) : StorTo w w G F g s := ⟨F, x, h, Mv.refl _ _, fun _ h => .inl h⟩
end
end Go.Proofs.YtoglafmpllimgaaGreatDoor
namespace Go.Proofs.YtoglafmpllimgaaGreatDoor
open Go.RowKit Go.Fl

/-- A store's parts. -/
structure Prt (w : World) (g : Nat) (x : M9) (fr : List Nat) (mr : Nat) (f : K32 → Option Value) : Prop where
  mem : Mem9 w g x
  free : w.ownsRow 0 t_int 1 (.slice x.free.a x.free.n x.free.c) x.free.n (natsV fr)
  map : MapF (keyB (n := 32)) w mr f
section
variable {w : World} {G F : Nat → Prop} {g : Nat} {s : Sto} {x : Sx}
theorem Stor.prt (h : Stor w G F g s x) : Prt w g x.m9 x.fr x.mr (mapV x.mp) := ⟨h.mem, h.free, h.map⟩
theorem ownT {w : World} {base : Nat} {e : TypeId} {sz : Nat} {s : Sl} {n : Nat} {xs : List Value} (h : w.ownsRow base e sz (.slice s.a s.n s.c) n xs) {ad : Addr} (ha : s.a = some ad) : ∃ cur, w.heap[ad.block]? = some (.cells cur e (0, 0)) := by
  rcases h.2 with ⟨hv, _⟩ | ⟨g, cap, cur, hv, _, hc, _⟩
  · injection hv with h1; rw [ha] at h1; cases h1
  · injection hv with h1; rw [ha] at h1; cases h1; exact ⟨cur, hc⟩
theorem Prt.nem {x : M9} {fr : List Nat} {mr : Nat} {f : K32 → Option Value} (h : Prt w g x fr mr f) : mr ≠ g ∧ mr ≠ x.sb := by
  obtain ⟨es, clock, h1, _⟩ := h.map.ex
  refine ⟨fun e => ?_, fun e => ?_⟩
  · have := h.mem.st; rw [← e, h1] at this; cases this
  · have := h.mem.row; unfold SlR at this; rw [← e, h1] at this; cases this
theorem Prt.nef {x : M9} {fr : List Nat} {mr : Nat} {f : K32 → Option Value} (h : Prt w g x fr mr f) {ad : Addr} (ha : x.free.a = some ad) : ad.block ≠ g ∧ ad.block ≠ x.sb ∧ ad.block ≠ mr := by
  obtain ⟨cur, hc⟩ := ownT h.free ha
  obtain ⟨es, clock, h1, _⟩ := h.map.ex
  refine ⟨fun e => ?_, fun e => ?_, fun e => ?_⟩
  · have h2 := h.mem.st
    rw [← e, hc] at h2
    simp only [Option.some.injEq, Obj.cells.injEq] at h2
    exact absurd h2.2.1 (by decide)
  · have h2 := h.mem.row
    unfold SlR at h2
    rw [← e, hc] at h2
    simp only [Option.some.injEq, Obj.cells.injEq] at h2
    exact absurd h2.2.1 (by decide)
  · rw [← e, hc] at h1; cases h1
theorem Prt.stepMem {x x' : M9} {fr : List Nat} {mr : Nat} {f : K32 → Option Value} (h : Prt w g x fr mr f) {w' : World} (hm : Mem9 w' g x') (hx : x'.free = x.free) (hv : Mv (own9 g x) w w') : Prt w' g x' fr mr f := by
  have hn := h.nem
  refine ⟨hm, ?_, h.map.sub (hv.block mr h.map.lt fun e => e.elim hn.1 hn.2)⟩
  rw [hx]
  exact own_kp h.free hv.kp fun ad ha => fun e => e.elim (h.nef ha).1 (h.nef ha).2.1
/-- Into a store again: the same blocks. -/
theorem Stor.upd {w' : World} {s' : Sto} {m' : M9} {ids' fr' : List Nat} {mp' : K32 → Option Nat} {F' : Nat → Prop} (h : Stor w G F g s x) (hp : Prt w' g m' fr' x.mr (mapV mp')) (hsb : m'.sb = x.m9.sb)
    (hF : ∀ k, F' k → F k ∨ w.heap.size ≤ k) (hFo : ∀ k, F k → F' k) (hFl : ∀ k, F' k → k < w'.heap.size) (hff : ∀ ad, m'.free.a = some ad → F' ad.block)
    (e1 : m'.n = x.m9.n) (e2 : m'.m = x.m9.m) (e3 : m'.most = x.m9.most) (e4 : m'.room = x.m9.room) (e5 : s'.most = s.most) (e6 : s'.room = s.room) (hmp : ∀ k i, mp' k = some i ↔ i ∈ ids' ∧ (m'.f i).sum = k.1)
    (hch : Chain m'.f ids' m'.old m'.young) (hnd : (fr' ++ ids').Nodup) (hrg : ∀ i ∈ fr' ++ ids', i < s.most) (hln : fr'.length + ids'.length = s.most) (hall : All2 (Slt w' (Zg G F') m'.f) ids' s'.l) (hb : m'.bytes = (bytesL s'.l : Int)) (hfit : bytesL s'.l ≤ s.room)
    (hsz : w.heap.size ≤ w'.heap.size) : Stor w' G F' g s' ⟨m', ids', fr', mp', x.mr⟩ where
  mem := hp.mem
  en := by rw [e5]; exact e1.trans h.en
  em := e2.trans h.em
  emost := by rw [e5]; exact e3.trans h.emost
  eroom := by rw [e6]; exact e4.trans h.eroom
  ebytes := hb
  free := hp.free
  map := hp.map
  mp := hmp
  ch := hch
  nd := hnd
  rg := by rw [e5]; exact hrg
  ln := by rw [e5]; exact hln
  all := hall
  fg := hFo _ h.fg
  fs := by show F' m'.sb; rw [hsb]; exact hFo _ h.fs
  ff := hff
  fm := hFo _ h.fm
  fl := hFl
  gl := fun k hk => Nat.lt_of_lt_of_le (h.gl k hk) hsz
  gf := fun k hk hf => by
    rcases hF k hf with h1 | h1
    · exact h.gf k hk h1
    · have := h.gl k hk; omega
  sz := by rw [e5, e6]; exact h.sz
  fit := by rw [e6]; exact hfit
/-- How far a place is from the end. -/
def far (ids : List Nat) (i : Int) : Nat := if i = -1 then 0 else ids.length - ids.findIdx (fun (j : Nat) => decide ((j : Int) = i))
end
end Go.Proofs.YtoglafmpllimgaaGreatDoor
namespace Go.Proofs.YtoglafmpllimgaaGreatDoor
open Go.RowKit Go.Fl

theorem slN : SlT Tryz.prog t_s_int t_int 1 8 := SlT.mk' (z := .int .i64 0) (by kernel_rfl) (by kernel_rfl) rfl (by decide)
def sv0 : SV := ⟨List.replicate 32 0, ⟨none, 0, 0⟩, 0, 0, 0⟩
theorem sv0_len : sv0.sum.length = 32 := rfl
theorem zrow_u8 (n : Nat) : (zrow n (.int .u8 0)) = ⟨u8s (List.replicate n 0), by simp [u8s_length]⟩ := Subtype.ext (by simp [zrow, u8s])
theorem slot0 : Kd.av k_store_slot ((zrow 32 (.int .u8 0)), (⟨none, 0, 0⟩, (0, (0, (0, ()))))) = kSlot.av (slotT sv0 sv0_len) := by
  rw [zrow_u8]; rfl
section
variable {w : World} {G F : Nat → Prop} {g : Nat} {s : Sto} {x : Sx}
end
end Go.Proofs.YtoglafmpllimgaaGreatDoor
namespace Go.Proofs.YtoglafmpllimgaaGreatDoor
open Go.RowKit Go.Fl

section
variable {w : World} {G F : Nat → Prop} {g : Nat} {s : Sto} {x : Sx}
theorem Stor.fn (h : Stor w G F g s x) : x.m9.free.n = x.fr.length := by have := h.free.1; rw [List.length_map] at this; omega
end
end Go.Proofs.YtoglafmpllimgaaGreatDoor
namespace Go.Proofs.YtoglafmpllimgaaGreatDoor
open Go.RowKit Go.Fl

/-- A store that went on; its blocks are the same. -/
def StorIn (w w' : World) (G F : Nat → Prop) (g : Nat) (s' : Sto) : Prop := ∃ x', Stor w' G F g s' x' ∧ Mv F w w'
section
variable {w : World} {G F : Nat → Prop} {g : Nat} {s : Sto} {x : Sx}
theorem StorIn.to {w' : World} {s' : Sto} (h : StorIn w w' G F g s') : StorTo w w' G F g s' := by
  obtain ⟨x', h1, h2⟩ := h
  exact ⟨F, x', h1, h2, fun _ h => .inl h⟩
theorem StorIn.pre {w1 w' : World} {s' : Sto} (hf : Fr w w1) (h : StorIn w1 w' G F g s') : StorIn w w' G F g s' := by
  obtain ⟨x', h1, h2⟩ := h
  exact ⟨x', h1, (Mv.of_fr (F := F) hf).trans h2 fun j hj => .inl hj⟩
theorem All2.modify {α β : Type} {R S : α → β → Prop} {f : β → β} : ∀ {l : List α} {m : List β} {k : Nat}, All2 R l m → (∀ (j : Nat) (a : α) (b : β), l[j]? = some a → m[j]? = some b → j ≠ k → R a b → S a b) → (∀ a b, l[k]? = some a → m[k]? = some b → R a b → S a (f b)) → All2 S l (m.modify k f)
  | [], [], k, _, _, _ => by cases k <;> exact trivial
  | a :: l, b :: m, 0, h, h1, h2 => by
    rw [List.modify_zero_cons]
    refine ⟨h2 a b rfl rfl h.1, ?_⟩
    have key : ∀ {l : List α} {m : List β}, All2 R l m → (∀ (j : Nat) (a : α) (b : β), l[j]? = some a → m[j]? = some b → R a b → S a b) → All2 S l m := by
      intro l
      induction l with
      | nil => intro m h _; cases m with
        | nil => trivial
        | cons => exact h.elim
      | cons a l ih => intro m h h'; cases m with
        | nil => exact h.elim
        | cons b m => exact ⟨h' 0 a b rfl rfl h.1, ih h.2 fun j a b ha hb => h' (j + 1) a b (by simpa using ha) (by simpa using hb)⟩
    exact key h.2 fun j a' b' ha hb hr => h1 (j + 1) a' b' (by simpa using ha) (by simpa using hb) (by omega) hr
  | a :: l, b :: m, k + 1, h, h1, h2 => by
    rw [List.modify_succ_cons]
    exact ⟨h1 0 a b rfl rfl (by omega) h.1, All2.modify h.2 (fun j a b ha hb hj => h1 (j + 1) a b (by simpa using ha) (by simpa using hb) (by omega)) fun a b ha hb => h2 a b (by simpa using ha) (by simpa using hb)⟩
  | [], _ :: _, _, h, _, _ => h.elim
  | _ :: _, [], _, h, _, _ => h.elim
theorem bytesL_modify (v : Nat → Nat) : ∀ (l : List Ch) (k : Nat), bytesL (l.modify k fun c => { c with pins := v c.pins }) = bytesL l
  | [], k => by cases k <;> rfl
  | c :: l, 0 => by rw [List.modify_zero_cons]; rfl
  | c :: l, k + 1 => by rw [List.modify_succ_cons]; simp only [bytesL]; rw [bytesL_modify v l k]
/-- A chunk's pins are others. -/
theorem Stor.pins {w' : World} {k i : Nat} {v : Nat → Nat} {n : Int} (h : Stor w G F g s x) (hi : x.ids[k]? = some i) (hc : ∀ c, s.l[k]? = some c → n = (v c.pins : Int))
    (hr : SlR w' x.m9.sb (upS x.m9.f i { x.m9.f i with pins := n }) x.m9.n t_store_slot x.m9.post) (hg : w.grownBy w' (some x.m9.sb)) : StorIn w w' G F g { s with l := s.l.modify k fun c => { c with pins := v c.pins } } := by
  have hv : Mv (own9 g x.m9) w w' := Mv.of_grown hg (.inr rfl)
  have hvF : Mv F w w' := Mv.of_grown hg h.fs
  have m' := h.mem.setRow hr (h.mem.f32.upS (h.mem.f32 i)) hg
  have p' := h.prt.stepMem m' rfl hv
  have hsum : ∀ j, (upS x.m9.f i { x.m9.f i with pins := n } j).sum = (x.m9.f j).sum ∧ (upS x.m9.f i { x.m9.f i with pins := n } j).data = (x.m9.f j).data := fun j => by
    by_cases e : j = i
    · subst e; rw [up_same]; exact ⟨rfl, rfl⟩
    · rw [up_ne _ _ e]; exact ⟨rfl, rfl⟩
  refine ⟨⟨_, x.ids, x.fr, x.mp, x.mr⟩, h.upd (F' := F) (s' := { s with l := s.l.modify k fun c => { c with pins := v c.pins } }) p' rfl (fun k hk => .inl hk) (fun _ h => h) (fun k hk => Nat.lt_of_lt_of_le (h.fl k hk) hv.size) h.ff rfl rfl rfl rfl rfl rfl (fun q j => ?_) ?_ h.nd h.rg h.ln ?_ ?_ ?_ hv.size, hvF⟩
  · rw [(hsum j).1]; exact h.mp q j
  · refine h.ch.other fun j hj => ?_
    show (upS _ _ _ j).prev = _ ∧ (upS _ _ _ j).next = _
    by_cases e : j = i
    · subst e; rw [up_same]; exact ⟨rfl, rfl⟩
    · rw [up_ne _ _ e]; exact ⟨rfl, rfl⟩
  · refine All2.modify h.all (fun j a b ha hb hj hrr => ?_) fun a b ha hb hrr => ?_
    · have hai : a ≠ i := fun e => hj (nd_get h.ch.nd ha (e ▸ hi))
      refine hrr.mv hvF (fun q hq => .inl (.inr hq)) (fun _ h => .inl h) (hsum a).1 (hsum a).2 ?_
      show (upS _ _ _ a).pins = _
      rw [up_ne _ _ hai]
    · have hai : a = i := by rw [ha] at hi; exact Option.some.inj hi
      subst hai
      refine ⟨(hsum a).1.trans hrr.1, ?_, ?_⟩
      · rw [(hsum a).2]
        exact hrr.2.1.mv hvF (fun q hq => .inl (.inr hq)) (fun _ h => .inl h)
      · show (upS _ _ _ a).pins = _
        rw [up_same]
        exact hc b hb
  · rw [bytesL_modify v]; exact h.ebytes
  · rw [bytesL_modify v]; exact h.fit
end
end Go.Proofs.YtoglafmpllimgaaGreatDoor
namespace Go.Proofs.YtoglafmpllimgaaGreatDoor
open Go.RowKit Go.Fl

theorem slSlot : SlT Tryz.prog t_s_store_slot t_store_slot 36 80 := SlT.mk' (z := .agg (slotV sv0).toArray) (by kernel_rfl) (by kernel_rfl) rfl (by decide)
theorem own_ne {w : World} {base base' : Nat} {e e' : TypeId} {sz sz' : Nat} {s s' : Sl} {n n' : Nat} {xs xs' : List Value} (h : w.ownsRow base e sz (.slice s.a s.n s.c) n xs) (h' : w.ownsRow base' e' sz' (.slice s'.a s'.n s'.c) n' xs') (he : e ≠ e')
    {ad ad' : Addr} (ha : s.a = some ad) (ha' : s'.a = some ad') : ad.block ≠ ad'.block := by
  obtain ⟨c, hc⟩ := ownT h ha
  obtain ⟨c', hc'⟩ := ownT h' ha'
  intro e1
  rw [e1, hc'] at hc
  simp only [Option.some.injEq, Obj.cells.injEq] at hc
  exact he hc.2.1.symm
theorem own_neC {w : World} {base : Nat} {e t : TypeId} {sz : Nat} {s : Sl} {n g : Nat} {xs : List Value} {cs : Array Value} {f : Nat × Nat} (h : w.ownsRow base e sz (.slice s.a s.n s.c) n xs) (h' : w.heap[g]? = some (.cells cs t f)) (he : e ≠ t)
    {ad : Addr} (ha : s.a = some ad) : ad.block ≠ g := by
  obtain ⟨c, hc⟩ := ownT h ha
  intro e1
  rw [e1, h'] at hc
  simp only [Option.some.injEq, Obj.cells.injEq] at hc
  exact he hc.2.1.symm
theorem own_neM {w : World} {base : Nat} {e : TypeId} {sz : Nat} {s : Sl} {n m : Nat} {xs : List Value} {κ : Type} {key : κ → Value} {f : κ → Option Value} (h : w.ownsRow base e sz (.slice s.a s.n s.c) n xs) (h' : MapF key w m f)
    {ad : Addr} (ha : s.a = some ad) : ad.block ≠ m := by
  obtain ⟨c, hc⟩ := ownT h ha
  obtain ⟨es, clock, h1, _⟩ := h'.ex
  intro e1
  rw [e1, h1] at hc
  cases hc
/-- Only the row's own block turned. -/
theorem mv_own {w w' : World} {s : Sl} (hg : w.grownBy w' (Value.slice s.a s.n s.c).ownBlock) : Mv (fun q => ∃ ad, s.a = some ad ∧ ad.block = q) w w' := by
  refine ⟨hg.os, hg.tape, hg.output, hg.size, fun q hq hn => hg.block q hq fun e => ?_⟩
  cases hfa : s.a with
  | none => rw [hfa] at e; cases e
  | some ad => rw [hfa] at e; exact hn ⟨ad, hfa, (Option.some.inj e).symm⟩
/-- A store that is being made. -/
structure New9 (w0 v : World) (g m : Nat) (p0 p1 : Int) (n : Nat) (sl fr : Sl) : Prop where
  cells : v.heap[g]? = some (.cells (Kd.av k_store_Store ((sl, fr, -1, -1, ()), some m, p0, p1, 0, ())).cells.toArray t_store_Store (0, 0))
  row : v.ownsRow w0.heap.size t_store_slot 36 (.slice sl.a sl.n sl.c) sl.n (slotsV (fun _ => sv0) n)
  free : v.ownsRow w0.heap.size t_int 1 (.slice fr.a fr.n fr.c) fr.n (natsV ((List.range n).map fun i => p0.toNat - 1 - i))
  map : MapF (keyB (n := 32)) v m (fun _ => none)
  gl : w0.heap.size ≤ g
  ml : w0.heap.size ≤ m
  fr0 : Fr w0 v
theorem New_ok9 {w : World} {G : Nat → Prop} {p0 p1 : Int} (h0 : 1 ≤ p0 ∧ p0 ≤ 64) (h1 : 1 ≤ p1 ∧ p1 ≤ 8192) (hG : ∀ k, G k → k < w.heap.size) :
    cl Tryz.prog n_store_New #[.int .i64 p0, .int .i64 p1] (.tup (.pair .P (.pair (.I .i64) .nil))) w fun (r : Option Addr × Int × Unit) w' => ∃ g F x, r = (some ⟨g, 0, none⟩, 0, ()) ∧ Stor w' G F g ⟨p0.toNat, p1.toNat, []⟩ x ∧ Fr w w' ∧ ∀ k, F k → w.heap.size ≤ k := by
  refine store_New.cl ?_
  unfold store_New
  refine bN (by omega) (bN (by omega) (bN (by omega) (bN (by omega) ?_)))
  refine rnNewM (key := keyB (n := 32)) fun m w2 hm hmp hf2 hs2 => ?_
  refine nwI fun g w4 hg hs4 hf4 hb4 _ => ?_
  have hn0 : New9 w w4 g m p0 p1 0 ⟨none, 0, 0⟩ ⟨none, 0, 0⟩ := ⟨hb4, World.ownsRow_nil _ _ _ _, World.ownsRow_nil _ _ _ _, hmp.sub (hf4.block m (by omega)), by omega, by omega, hf2.trans hf4⟩
  refine lpI (fun (s' : Int × Unit) v => ∃ (n : Nat) (sl fr : Sl), s'.1 = (n : Int) ∧ (n : Int) ≤ p0 ∧ New9 w v g m p0 p1 n sl fr) (fun s' _ => (p0 - s'.1).toNat) ⟨0, _, _, rfl, by omega, hn0⟩ ?_
  rintro D ⟨i', ⟨⟩⟩ v ⟨n, sl, fr, e, hnp, hN⟩
  dsimp -zeta only at e ⊢
  subst e
  have hsn : sl.n = n := by
    have := hN.row.1
    rw [slotsV_length (fun _ => sv0_len)] at this; omega
  have hfn : fr.n = n := by have := hN.free.1; simp only [natsV, List.length_map, List.length_range] at this; omega
  refine bD ?_ ?_ <;> intro hlt
  · refine ldL0 (s := sl) hN.cells rfl ?_
    rw [slot0, slotT_cells, List.append_nil]
    refine nwI fun b10 w11 hb10 hs11 hf11 hblk hr11 => ?_
    have hc11 := hf11.heap hN.cells
    have hr := own_kept hN.row hf11
    have hfr := own_kept hN.free hf11
    have hmp11 := hN.map.sub (hf11.block m hN.map.lt)
    refine app_own slSlot (base := w.heap.size) (news := slotV sv0) hr hr11 (slotV_length sv0_len) (fun u hu => by
      simp only [slotV, List.mem_append] at hu
      rcases hu with hu | hu
      · exact u8s_one _ u hu
      · simp only [List.mem_cons, List.not_mem_nil, or_false] at hu
        rcases hu with rfl | rfl | rfl | rfl <;> rfl) (by dsimp only; omega) (by dsimp only; omega) (by have := hN.fr0.size; have := hf11.size; omega) fun r12 w13 hrn ho hg13 hat => ?_
    have v13 := mv_own hg13
    have hc13 := v13.heap hc11 fun ⟨ad, ha, e⟩ => own_neC hr hc11 (by decide) ha e
    have hfr13 := own_kp hfr v13.kp fun ad ha => fun ⟨ad', ha', e⟩ => own_ne hr hfr (by decide) ha' ha e
    have hmp13 := hmp11.sub (v13.block m hmp11.lt fun ⟨ad, ha, e⟩ => own_neM hr hmp11 ha e)
    have f13 : Fr w w13 := by
      have hf := hN.fr0.trans hf11
      exact hf.on ((Below.refl _ _).grown hg13 hf.size fun q hq => (World.ownsRow.lt hr q hq).1)
    refine st0 hc13 (by show 0 < 8; decide) fun w14 hb14 g14 s14 => ?_
    have hc14 : w14.heap[g]? = some (.cells (Kd.av k_store_Store ((r12, fr, -1, -1, ()), some m, p0, p1, 0, ())).cells.toArray t_store_Store (0, 0)) := hb14
    have v14 : Mv (fun q => q = g) w13 w14 := Mv.of_grown g14 rfl
    have ho14 := own_kp ho v14.kp fun ad ha => own_neC ho hc13 (by decide) ha
    have hfr14 := own_kp hfr13 v14.kp fun ad ha => own_neC hfr13 hc13 (by decide) ha
    have hmg : m ≠ g := by omega
    have hmp14 := hmp13.sub (v14.block m hmp13.lt hmg)
    have f14 : Fr w w14 := Mv.on f13 v14 fun j hj => by have := hN.gl; omega
    rw [addOff]
    refine ldL0 (s := fr) hc14 rfl ?_
    rw [i64w (n := p0 - 1) (by omega) (by omega), i64w (by omega) (by omega)]
    refine nwI fun b16 w17 hb16 hs17 hf17 hblk17 hr17 => ?_
    have hc17 := hf17.heap hc14
    have ho17 := own_kept ho14 hf17
    have hfr17 := own_kept hfr14 hf17
    have hmp17 := hmp14.sub (hf17.block m hmp14.lt)
    have f17 := f14.trans hf17
    refine app_own slN (base := w.heap.size) (news := [.int .i64 (p0 - 1 - n)]) hfr17 hr17 rfl (fun u hu => by rw [List.mem_singleton] at hu; rw [hu]; rfl) (by dsimp only; omega) (by dsimp only; omega) f17.size fun r18 w19 hrn18 ho18 hg18 hat18 => ?_
    have v19 := mv_own hg18
    have hc19 := v19.heap hc17 fun ⟨ad, ha, e⟩ => own_neC hfr17 hc17 (by decide) ha e
    have ho19 := own_kp ho17 v19.kp fun ad ha => fun ⟨ad', ha', e⟩ => own_ne hfr17 ho17 (by decide) ha' ha e
    have hmp19 := hmp17.sub (v19.block m hmp17.lt fun ⟨ad, ha, e⟩ => own_neM hfr17 hmp17 ha e)
    have f19 : Fr w w19 := f17.on ((Below.refl _ _).grown hg18 f17.size fun q hq => (World.ownsRow.lt hfr17 q hq).1)
    refine st0 hc19 (by show 1 < 8; decide) fun w20 hb20 g20 s20 => ?_
    have hc20 : w20.heap[g]? = some (.cells (Kd.av k_store_Store ((r12, r18, -1, -1, ()), some m, p0, p1, 0, ())).cells.toArray t_store_Store (0, 0)) := hb20
    have v20 : Mv (fun q => q = g) w19 w20 := Mv.of_grown g20 rfl
    have ho20 := own_kp ho19 v20.kp fun ad ha => own_neC ho19 hc19 (by decide) ha
    have hfr20 := own_kp ho18 v20.kp fun ad ha => own_neC ho18 hc19 (by decide) ha
    have hmp20 := hmp19.sub (v20.block m hmp19.lt hmg)
    have f20 : Fr w w20 := Mv.on f19 v20 fun j hj => by have := hN.gl; omega
    rw [i64w (by omega) (by omega)]
    refine ⟨⟨n + 1, r12, r18, by push_cast; rfl, by push_cast; omega, hc20, ho20, ?_, hmp20, hN.gl, hN.ml, f20⟩, by omega⟩
    have e : natsV ((List.range (n + 1)).map fun i => p0.toNat - 1 - i) = natsV ((List.range n).map fun i => p0.toNat - 1 - i) ++ [.int .i64 (p0 - 1 - n)] := by
      rw [List.range_succ, List.map_append, natsV, List.map_append]
      simp only [List.map_cons, List.map_nil]
      congr 3
      omega
    rw [e]
    exact hfr20
  · have hn : n = p0.toNat := by omega
    subst hn
    obtain ⟨hrl, hr2⟩ := hN.row
    rcases hr2 with ⟨_, hz⟩ | ⟨sb, cap, cur, hv, hsb, hcur, hnc, hcm, hsz, htk⟩
    · omega
    · injection hv with e1 e2 e3
      have hcell : sl = ⟨some ⟨sb, 0, none⟩, p0.toNat, cap⟩ := by cases sl; simp_all
      subst hcell
      have hcurE : cur = (slotsV (fun _ => sv0) p0.toNat ++ cur.toList.drop (p0.toNat * 36)).toArray := by
        rw [← htk, List.take_append_drop]
      refine ⟨g, fun k => k = g ∨ k = sb ∨ (∃ ad, fr.a = some ad ∧ ad.block = k) ∨ k = m, ⟨⟨sb, cap, p0.toNat, fun _ => sv0, cur.toList.drop (p0.toNat * 36), fr, -1, -1, some m, p0, p1, 0⟩, [], (List.range p0.toNat).map fun i => p0.toNat - 1 - i, fun _ => none, m⟩, rfl, ?_, hN.fr0, ?_⟩
      · have hnd : ((List.range p0.toNat).map fun i => p0.toNat - 1 - i).Nodup := by
          refine List.pairwise_map.2 (List.Pairwise.imp_of_mem ?_ List.pairwise_lt_range)
          intro a b ha hb hab
          have := List.mem_range.1 ha
          have := List.mem_range.1 hb
          omega
        have hFlt : ∀ k, (k = g ∨ k = sb ∨ (∃ ad, fr.a = some ad ∧ ad.block = k) ∨ k = m) → w.heap.size ≤ k ∧ k < v.heap.size := fun k hk => by
          rcases hk with rfl | rfl | ⟨ad, ha, rfl⟩ | rfl
          · exact ⟨hN.gl, (Array.getElem?_eq_some_iff.1 hN.cells).1⟩
          · exact ⟨hsb, (Array.getElem?_eq_some_iff.1 hcur).1⟩
          · exact World.ownsRow.lt hN.free ad.block (by rw [ha]; rfl)
          · exact ⟨hN.ml, hN.map.lt⟩
        refine { mem := ⟨hN.cells, ?_, fun _ => sv0_len⟩, en := rfl, em := rfl, emost := by dsimp only; omega, eroom := by dsimp only; omega, ebytes := rfl, free := ?_, map := hN.map, mp := fun k i => by simp, ch := ⟨List.nodup_nil, rfl, rfl, fun k i hk => by simp at hk, fun k i hk => by simp at hk⟩, nd := by simpa using hnd, rg := ?_, ln := by simp, all := trivial, fg := .inl rfl, fs := .inr (.inl rfl), ff := fun ad ha => .inr (.inr (.inl ⟨ad, ha, rfl⟩)), fm := .inr (.inr (.inr rfl)), fl := fun k hk => (hFlt k hk).2, gl := fun k hk => Nat.lt_of_lt_of_le (hG k hk) hN.fr0.size, gf := fun k hk hf => by have := hG k hk; have := (hFlt k hf).1; omega, sz := by dsimp only; omega, fit := Nat.zero_le _ }
        · show v.heap[sb]? = _
          rw [hcur]
          congr 2
        · refine ⟨hN.free.1, ?_⟩
          rcases hN.free.2 with h | ⟨g', cap', cur', a1, a2, a3⟩
          · exact .inl h
          · exact .inr ⟨g', cap', cur', a1, Nat.zero_le _, a3⟩
        · intro i hi
          rw [List.append_nil] at hi
          obtain ⟨j, hj, rfl⟩ := List.mem_map.1 hi
          have := List.mem_range.1 hj
          dsimp only; omega
      · intro k hk
        rcases hk with rfl | rfl | ⟨ad, ha, rfl⟩ | rfl
        · exact hN.gl
        · exact hsb
        · exact (World.ownsRow.lt hN.free ad.block (by rw [ha]; rfl)).1
        · exact hN.ml
end Go.Proofs.YtoglafmpllimgaaGreatDoor
namespace Go.Proofs.YtoglafmpllimgaaGreatDoor
open Go.RowKit Go.Fl

/-- A box that has no flows. -/
structure Nb (w : World) (G FB FT : Nat → Prop) (g gt : Nat) (b : Bb) (t : Tn) (x : BxP) (l m : Sl) (y : Shp) : Prop where
  bb : BbR w (fun k => G k ∨ FT k) FB g b x l m
  tn : Tun w (fun k => G k ∨ FB k) FT gt t y
  xt : x.t = some ⟨gt, 0, none⟩
  fl0 : x.fl.n = 0
  lt0 : x.lt.n = 0
/-- It is there; it went on. -/
def NbIs (w : World) (G F : Nat → Prop) (g : Nat) (b : Bb) (t : Tn) : Prop := ∃ FB FT gt x l m y, Nb w G FB FT g gt b t x l m y ∧ F = fun k => FB k ∨ FT k
def NbTo (w : World) (F : Nat → Prop) (w' : World) (G : Nat → Prop) (g : Nat) (b : Bb) (t : Tn) : Prop := ∃ F', NbIs w' G F' g b t ∧ Stp w F w' F'
section
variable {w w' : World} {G FB FT F : Nat → Prop} {g gt : Nat} {b : Bb} {t : Tn} {x : BxP} {l m : Sl} {y : Shp}
theorem Nb.to (h : Nb w G FB FT g gt b t x l m y) : NbTo w (fun k => FB k ∨ FT k) w G g b t := ⟨_, ⟨_, _, _, _, _, _, _, h, rfl⟩, Stp.refl _ _⟩
theorem NbTo.pre {F0 : Nat → Prop} {w0 : World} (s : Stp w0 F0 w F) (h : NbTo w F w' G g b t) : NbTo w0 F0 w' G g b t := by
  obtain ⟨F', h1, h2⟩ := h
  exact ⟨F', h1, s.trans h2⟩
theorem Nb.stepB {FB' : Nat → Prop} {b' : Bb} {x' : BxP} {l' m' : Sl} (h : Nb w G FB FT g gt b t x l m y) (hb : BbR w' (fun k => G k ∨ FT k) FB' g b' x' l' m') (s : Stp w FB w' FB') (e1 : x'.t = x.t) (e2 : x'.fl.n = 0) (e3 : x'.lt.n = 0) :
    Nb w' G FB' FT g gt b' t x' l' m' y ∧ Stp w (fun k => FB k ∨ FT k) w' (fun k => FB' k ∨ FT k) := by
  refine ⟨⟨hb, h.tn.other s.mv (fun k hk => .inl ⟨.inr hk, fun ht => h.bb.gf k (.inr ht) hk⟩) (fun k hk => ?_) fun k hk => ?_, e1.trans h.xt, e2, e3⟩, s.mv.mono fun k hk => .inl (.inl hk), fun k hk => ?_⟩
  · rcases hk with hk | hk
    · exact .inl (.inl hk)
    · exact (s.sub k hk).imp .inr id
  · rcases hk with hk | hk
    · exact hb.gl k (.inl hk)
    · exact hb.fl k hk
  · rcases hk with hk | hk
    · exact (s.sub k hk).imp .inl id
    · exact .inl (.inr hk)
theorem Nb.stepT {FT' : Nat → Prop} {t' : Tn} {y' : Shp} (h : Nb w G FB FT g gt b t x l m y) (ht : Tun w' (fun k => G k ∨ FB k) FT' gt t' y') (hm : Mv FT w w') (hF : ∀ k, FT' k → FT k ∨ w.heap.size ≤ k) :
    Nb w' G FB FT' g gt b t' x l m y' ∧ Stp w (fun k => FB k ∨ FT k) w' (fun k => FB k ∨ FT' k) := by
  refine ⟨⟨h.bb.other hm (fun k hk => .inl ⟨.inr hk, fun hb => h.tn.gf k (.inr hb) hk⟩) (fun k hk => ?_) fun k hk => ?_, ht, h.xt, h.fl0, h.lt0⟩, hm.mono fun k hk => .inl (.inr hk), fun k hk => ?_⟩
  · rcases hk with hk | hk
    · exact .inl (.inl hk)
    · exact (hF k hk).imp .inr id
  · rcases hk with hk | hk
    · exact ht.gl k (.inl hk)
    · exact ht.fl k hk
  · rcases hk with hk | hk
    · exact .inl (.inl hk)
    · exact (hF k hk).imp .inr id
theorem Nb.fr (h : Nb w G FB FT g gt b t x l m y) (hf : Fr w w') : Nb w' G FB FT g gt b t x l m y := ⟨h.bb.fr hf, h.tn.fr hf, h.xt, h.fl0, h.lt0⟩
theorem Nb.other {G' E : Nat → Prop} (h : Nb w G FB FT g gt b t x l m y) (hm : Mv E w w') (hE : ∀ k, E k → (G k ∧ ¬FB k ∧ ¬FT k) ∨ w.heap.size ≤ k) (hG : ∀ k, G' k → G k ∨ w.heap.size ≤ k) (hl : ∀ k, G' k → k < w'.heap.size) : Nb w' G' FB FT g gt b t x l m y := by
  refine ⟨h.bb.other hm (fun k hk => (hE k hk).imp (fun h => ⟨.inl h.1, h.2.1⟩) id) (fun k hk => ?_) (fun k hk => ?_), h.tn.other hm (fun k hk => (hE k hk).imp (fun h => ⟨.inl h.1, h.2.2⟩) id) (fun k hk => ?_) (fun k hk => ?_), h.xt, h.fl0, h.lt0⟩
  · rcases hk with hk | hk
    · exact (hG k hk).imp .inl id
    · exact .inl (.inr hk)
  · rcases hk with hk | hk
    · exact hl k hk
    · have := h.tn.fl k hk; have := hm.size; omega
  · rcases hk with hk | hk
    · exact (hG k hk).imp .inl id
    · exact .inl (.inr hk)
  · rcases hk with hk | hk
    · exact hl k hk
    · have := h.bb.fl k hk; have := hm.size; omega
theorem bNew_ok {side boot iss : Int} (hd : Crc w) (hs : side = 3 ∨ side = 4) (hb : 0 ≤ boot ∧ boot ≤ 40) (hG : ∀ k, G k → k < w.heap.size) (hG0 : ¬G g_sums_nibbles) :
    cl Tryz.prog n_box_New #[.int .i64 side, .int .i64 boot, .int .u32 iss] (.tup (.pair .P (.pair (.I .i64) .nil))) w fun (r : Option Addr × Int × Unit) w' => ∃ g FB FT gt x y, r = (some ⟨g, 0, none⟩, 0, ()) ∧ Nb w' G FB FT g gt (bb0 side boot iss) (tn0 (boot * 1048576 + 1)) x ⟨none, 0, 0⟩ ⟨none, 0, 0⟩ y ∧ Fr w w' ∧ ∀ k, FB k ∨ FT k → w.heap.size ≤ k := by
  refine box_New.cl ?_
  unfold box_New
  intro j1
  have J1 : j1 w := by
    unfold j1
    refine nwI fun g w14 hg hs14 f14 hb14 _ => ?_
    have z14 := f14.size
    have h14 : BbR w14 G (fun k => k = g) g (bb0 side boot iss) ⟨none, none, none, ⟨none, 0, 0⟩, ⟨none, 0, 0⟩⟩ ⟨none, 0, 0⟩ ⟨none, 0, 0⟩ :=
      ⟨hb14, RowB.nil _ _, RowB.nil _ _, fun k ⟨_, h, _⟩ => (by cases h), fun k ⟨_, h, _⟩ => (by cases h), fun k ⟨_, h, _⟩ => (by cases h), rfl, fun k hk => by omega, fun k hk => by have := hG k hk; omega, fun k hk he => by have := hG k hk; omega⟩
    refine (New_ok9 (G := fun _ => False) (p0 := 64) (p1 := 8192) (by decide) (by decide) fun _ h => h.elim).mono ?_
    rintro _ w16 ⟨gs, _, _, rfl, _, f16, _⟩
    rw [addOff]
    refine (h14.fr f16).s_s fun w17 h17 s17 => ?_
    have f17 : Fr w w17 := Mv.on (F := fun k => k = g) (f14.trans f16) s17.mv fun k hk => by omega
    have z17 := f17.size
    have e1 : IntKind.i64.wrap (IntKind.i64.wrap (boot * 2 ^ (min 20 64)) + 1) = boot * 1048576 + 1 := by
      rw [show (2 : Int) ^ (min 20 64) = 1048576 from by decide, i64w (n := boot * 1048576) (by omega) (by omega), i64w (by omega) (by omega)]
    rw [e1]
    have hg17 : g < w17.heap.size := h17.gt
    refine (tNew_ok (G := fun k => G k ∨ k = g) (hd.fr f17) (fun k hk => by rcases hk with hk | hk; exact h17.gl k hk; omega) fun h => by rcases h with h | h; exact hG0 h; have := hd.lt; omega).mono ?_
    rintro r w19 ⟨hr, f19⟩
    rw [if_pos (by omega)] at hr
    obtain ⟨gt, y, rfl, hgt, ht⟩ := hr
    have z19 := f19.size
    rw [addOff]
    have hgtl := tun_lt ht
    have h19 : BbR w19 (fun k => G k ∨ k = gt) (fun k => k = g) g (bb0 side boot iss) ⟨some ⟨gs, 0, none⟩, none, none, ⟨none, 0, 0⟩, ⟨none, 0, 0⟩⟩ ⟨none, 0, 0⟩ ⟨none, 0, 0⟩ :=
      h17.other (E := fun _ => False) (Mv.of_fr f19) (fun _ h => h.elim) (fun k hk => hk.imp id fun h => by omega) fun k hk => by rcases hk with hk | hk; have := h17.gl k hk; omega; omega
    refine h19.s_t fun w20 h20 s20 => ?_
    have tmv : ∀ {u v : World}, Tun u (fun k => G k ∨ k = g) (fun k => k = gt) gt (tn0 (boot * 1048576 + 1)) y → Mv (fun k => k = g) u v → Tun v (fun k => G k ∨ k = g) (fun k => k = gt) gt (tn0 (boot * 1048576 + 1)) y := fun {u v} h hm =>
      h.other hm (fun k hk => .inl ⟨.inr hk, fun e => by omega⟩) (fun k hk => .inl hk) fun k hk => by have := h.gl k hk; have := hm.size; omega
    have ht20 := tmv ht s20.mv
    refine tabNew_ok.mono ?_
    rintro _ w22 ⟨rfl, _, _, f22⟩
    rw [addOff]
    refine (h20.fr f22).s_table fun w23 h23 s23 => ?_
    have ht23 := tmv (ht20.fr f22) s23.mv
    have f20 : Fr w w20 := Mv.on (F := fun k => k = g) (f17.trans f19) s20.mv fun k hk => by omega
    have f23 : Fr w w23 := Mv.on (F := fun k => k = g) (f20.trans f22) s23.mv fun k hk => by omega
    exact ⟨g, _, _, gt, _, y, rfl, ⟨h23, ht23, rfl, rfl, rfl⟩, f23, fun k hk => by omega⟩
  clear_value j1
  refine bNe ?_ ?_ <;> intro h3
  · refine bNe (fun h4 => (hs.elim h3 h4).elim) fun _ => bN (by omega) (bN (by omega) J1)
  · exact bN (by omega) (bN (by omega) J1)
theorem q_of {P : Program} {f : FuncId} {args : Array Value} {k : Kd} {z : k.T} {K : k.T → Prop} (h : ∀ n, cl P f args k (w.drewN n) fun y u => y = z ∧ w.drewN n = u) (hk : K z) : qcl P f args k w K :=
  ⟨z, fun n => (h n).mono fun _ _ ⟨h1, h2⟩ => ⟨h1, n, h2.symm⟩, hk⟩
theorem bEnds_ok (h : Nb w G FB FT g gt b t x l m y) (hs : b.side ≠ 0) (hme : 1 ≤ t.me) : cl Tryz.prog n_box_Box_Ends #[.pointer (some ⟨g, 0, none⟩)] (.tup (.pair (.I .i64) (.pair (.I .i64) (.pair (.I .i64) (.pair .B .nil))))) w fun (r : Int × Int × Int × Bool × Unit) w' => r = (t.me, t.you, t.epoch, t.up, ()) ∧ Fr w w' := by
  refine box_Box_Ends.cl ?_
  unfold box_Box_Ends
  refine (bmade_ok h.bb).mono ?_
  rintro _ _ ⟨rfl, rfl⟩
  refine bF (by simp [hs]) ?_
  rw [nz, addOff]
  refine h.bb.l_t ?_
  rw [h.xt]
  refine q_of (fun n => tMe_ok (h.tn.fr (Fr.drewN w n)) hme) ?_
  rw [nz, addOff]
  refine h.bb.l_t ?_
  rw [h.xt]
  refine q_of (fun n => tYou_ok (h.tn.fr (Fr.drewN w n)) hme) ?_
  rw [nz, addOff]
  refine h.bb.l_t ?_
  rw [h.xt]
  refine q_of (fun n => tEpoch_ok (h.tn.fr (Fr.drewN w n)) hme) ?_
  rw [nz, addOff]
  refine h.bb.l_t ?_
  rw [h.xt]
  refine q_of (fun n => tUp_ok (h.tn.fr (Fr.drewN w n)) hme) ?_
  intro n
  exact ⟨rfl, Fr.drewN w n⟩
theorem bCount_ok (h : Nb w G FB FT g gt b t x l m y) (hs : b.side ≠ 0) (hme : 1 ≤ t.me) : cl Tryz.prog n_box_Box_Count #[.pointer (some ⟨g, 0, none⟩)] k_api_Count w fun (r : y_api_Count) w' => r = (b.pass, b.refs, b.lits, b.miss, b.brok, t.epoch, ()) ∧ Fr w w' := by
  refine box_Box_Count.cl ?_
  unfold box_Box_Count
  refine nwI fun a w2 ha hs2 f2 hb2 _ => ?_
  have z2 := f2.size
  refine (bmade_ok (h.fr f2).bb).mono ?_
  rintro _ _ ⟨rfl, rfl⟩
  refine bF (by simp [hs]) ?_
  intro n
  have f7 := Fr.drewN w2 n
  have h7 := h.fr (f2.trans f7)
  have hb7 := f7.heap hb2
  generalize w2.drewN n = w7 at *
  rw [nz, nz, nz, nz, nz, nz, addOff, addOff, addOff, addOff, addOff]
  refine h7.bb.l_t ?_
  rw [h7.xt]
  obtain ⟨_, c0, rfl⟩ := h7.bb.l_pass (K := fun n => n = b.pass) rfl
  obtain ⟨_, c1, rfl⟩ := h7.bb.l_refs (K := fun n => n = b.refs) rfl
  obtain ⟨_, c2, rfl⟩ := h7.bb.l_lits (K := fun n => n = b.lits) rfl
  obtain ⟨_, c3, rfl⟩ := h7.bb.l_miss (K := fun n => n = b.miss) rfl
  obtain ⟨_, c4, rfl⟩ := h7.bb.l_brok (K := fun n => n = b.brok) rfl
  refine (aLoad_ok c0).mono ?_
  rintro _ _ ⟨rfl, rfl⟩
  refine ⟨Fr.refl _, (aLoad_ok c1).mono ?_⟩
  rintro _ _ ⟨rfl, rfl⟩
  refine ⟨Fr.refl _, (aLoad_ok c2).mono ?_⟩
  rintro _ _ ⟨rfl, rfl⟩
  refine ⟨Fr.refl _, (aLoad_ok c3).mono ?_⟩
  rintro _ _ ⟨rfl, rfl⟩
  refine ⟨Fr.refl _, (aLoad_ok c4).mono ?_⟩
  rintro _ _ ⟨rfl, rfl⟩
  refine ⟨Fr.refl _, (tEpoch_ok h7.tn hme).mono ?_⟩
  rintro _ _ ⟨rfl, rfl⟩
  refine stW (Kd.av k_api_Count (b.pass, b.refs, b.lits, b.miss, b.brok, t.epoch, ())) rfl hb7 rfl fun v hbv hgv hsv => ?_
  refine ldW (x := (b.pass, b.refs, b.lits, b.miss, b.brok, t.epoch, ())) hbv rfl ⟨rfl, ?_⟩
  exact Mv.on (F := fun k => k = a) (f2.trans f7) (Mv.of_grown hgv rfl) fun j hj => by omega
theorem bFlows_ok (h : Nb w G FB FT g gt b t x l m y) (hs : b.side ≠ 0) : cl Tryz.prog n_box_Box_Flows #[.pointer (some ⟨g, 0, none⟩)] .L w fun (r : Sl) w' => r = ⟨none, 0, 0⟩ ∧ w = w' := by
  refine box_Box_Flows.cl ?_
  unfold box_Box_Flows
  refine (bmade_ok h.bb).mono ?_
  rintro _ _ ⟨rfl, rfl⟩
  refine bF (by simp [hs]) ?_
  rw [nz, addOff]
  refine h.bb.l_fl ?_
  refine lpI (fun (s : Sl × Int × Unit) v => s = (⟨none, 0, 0⟩, 0, ()) ∧ w = v) (fun _ _ => 0) ⟨rfl, rfl⟩ ?_
  rintro D _ _ ⟨rfl, rfl⟩
  exact bN (by have := h.fl0; dsimp only; omega) ⟨rfl, rfl⟩
theorem bOut_ok (h : Nb w G FB FT g gt b t x l m y) (hs : b.side ≠ 0) (hme : 1 ≤ t.me) (hlen : b.wan.length + t.out.length ≤ 1099511627776) :
    cl Tryz.prog n_box_Box_Out #[.pointer (some ⟨g, 0, none⟩)] (.tup (.pair .L (.pair .L .nil))) w fun (r : Sl × Sl × Unit) w' => ∃ FB' FT' y', Nb w' G FB' FT' g gt { b with lan := [], wan := [] } t.clear x ⟨none, 0, 0⟩ ⟨none, 0, 0⟩ y' ∧ Stp w (fun k => FB k ∨ FT k) w' (fun k => FB' k ∨ FT' k) ∧
      RowB w' (Zt G (fun k => FB' k ∨ FT' k)) r.1 b.lan ∧ RowB w' (Zt G (fun k => FB' k ∨ FT' k)) r.2.1 (b.wan ++ t.out) ∧ ∀ k, BK r.1 k ∨ BK r.2.1 k → ¬Zt G (fun k => FB' k ∨ FT' k) k := by
  refine box_Box_Out.cl ?_
  unfold box_Box_Out
  refine (bmade_ok h.bb).mono ?_
  rintro _ _ ⟨rfl, rfl⟩
  refine bF (by simp [hs]) ?_
  intro j1
  have J1 : ∀ (w9 : World) (r8 : Sl) (FT' : Nat → Prop) (y' : Shp) (hs8 : List Sl), Nb w9 G FB FT' g gt b t.clear x l m y' → Stp w (fun k => FB k ∨ FT k) w9 (fun k => FB k ∨ FT' k) → OwS w9 0 t_s_uint8 r8 hs8 → All2 (Cb w9 (Zt (fun k => G k ∨ FB k) FT')) hs8 t.out →
      app Tryz.prog t_s_s_uint8 t_s_s_uint8 m r8 w9 fun r10 w11 => j1 r10 w11 := by
    intro w9 r8 FT' y' hs8 h9 s9 ho8 ha8
    have hle := ha8.length
    refine h9.bb.wan.app (fun k hk => .inr (h9.bb.wanf k hk).1) ho8.rd (by rw [ho8.len]) (ha8.mono fun a c _ _ hr => hr.anti fun k hk => ?_) hlen fun r10 w11 hr10 hm11 hat => ?_
    · rcases hk with (hk | hk) | hk
      · exact .inl (.inl hk)
      · exact .inr hk
      · exact .inl (.inr hk)
    unfold j1
    have hgl := h9.bb.gt
    have hz11 := hm11.size
    have hc11 := hm11.heap h9.bb.cells fun hk => (h9.bb.wanf _ hk).2 rfl
    rw [nz, addOff]
    refine ldL0 (s := l) hc11 rfl ?_
    rw [nz, addOff]
    refine st0 hc11 (by show 14 < 16; decide) fun w12 hb12 hg12 hs12 => ?_
    rw [nz, addOff]
    refine st0 hb12 (by show 15 < 16; decide) fun w13 hb13 hg13 hs13 => ?_
    have hmg : Mv (fun k => k = g) w11 w13 := (Mv.of_grown (F := fun k => k = g) hg12 rfl).trans (Mv.of_grown (F := fun k => k = g) hg13 rfl) fun k hk => .inl hk
    have hmE : Mv (fun k => BK m k ∨ k = g) w9 w13 := (hm11.mono fun k hk => .inl (.inl hk)).trans (hmg.mono fun k hk => .inl (.inr hk)) fun k hk => .inl hk
    have hEF : ∀ k, (BK m k ∨ k = g) → FB k := fun k hk => hk.elim (fun h1 => (h9.bb.wanf k h1).1) fun h1 => h1 ▸ h9.bb.fg
    have hmF : Mv FB w9 w13 := hmE.mono fun k hk => .inl (hEF k hk)
    obtain ⟨FB', hFB⟩ : ∃ FB' : Nat → Prop, FB' = fun k => FB k ∧ ¬BK l k ∧ ¬BK m k ∧ ¬BK r10 k := ⟨_, rfl⟩
    have hFF : ∀ k, FB' k → FB k := fun k hk => by rw [hFB] at hk; exact hk.1
    have hrg : ∀ k, BK r10 k → k ≠ g := fun k hk e => by
      rcases hat k hk with h1 | ⟨h1, _⟩
      · exact (h9.bb.wanf k h1).2 e
      · omega
    have hg' : FB' g := by rw [hFB]; exact ⟨h9.bb.fg, fun hk => (h9.bb.lanf g hk).2 rfl, fun hk => (h9.bb.wanf g hk).2 rfl, fun hk => hrg g hk rfl⟩
    obtain ⟨h13, s13⟩ := h9.bb.rows (F' := FB') (b' := { b with lan := [], wan := [] }) (l' := ⟨none, 0, 0⟩) (m' := ⟨none, 0, 0⟩) hb13 (RowB.nil _ _) (RowB.nil _ _) (fun k ⟨_, h, _⟩ => (by cases h)) (fun k ⟨_, h, _⟩ => (by cases h)) (fun k ⟨_, h, _⟩ => (by cases h)) hg' (fun k hk => .inl (hFF k hk)) hmF
    obtain ⟨n13, s13'⟩ := h9.stepB h13 s13 rfl h9.fl0 h9.lt0
    have hZ : ∀ k, Zt G (fun k => FB' k ∨ FT' k) k → Zt (fun k => G k ∨ FT' k) FB k := fun k hk => by
      rcases hk with hk | hk | hk
      · exact .inl (.inl hk)
      · exact .inr (hFF k hk)
      · exact .inl (.inr hk)
    refine ⟨FB', FT', y', n13, s9.trans s13', ?_, ?_, ?_⟩
    · exact h9.bb.lan.mv hmE (fun k hk => .inl (.inr (hEF k hk))) (fun k hk => .inl (hZ k hk)) fun k hk he => he.elim (h9.bb.sep k hk) (h9.bb.lanf k hk).2
    · exact hr10.mv hmg (fun k hk => .inl (.inl (.inr (hk ▸ h9.bb.fg)))) (fun k hk => .inl (.inl (hZ k hk))) hrg
    · rintro k hk hz
      have hnB : ¬FB' k := fun hf => by rw [hFB] at hf; exact hk.elim hf.2.1 hf.2.2.2
      have old : FB k ∨ (k = w9.heap.size ∧ w9.heap.size < w11.heap.size) := by
        rcases hk with hk | hk
        · exact .inl (h9.bb.lanf k hk).1
        · exact (hat k hk).imp (fun h1 => (h9.bb.wanf k h1).1) id
      rcases hz with hz | hz | hz
      · rcases old with ho | ho
        · exact h9.bb.gf k (.inl hz) ho
        · have := h9.bb.gl k (.inl hz); omega
      · exact hnB hz
      · rcases old with ho | ho
        · exact h9.bb.gf k (.inr hz) ho
        · have := h9.bb.gl k (.inr hz); omega
  clear_value j1
  intro n
  have f3 := Fr.drewN w n
  have h3 := h.fr f3
  generalize w.drewN n = w3 at *
  rw [nz, nz, addOff, addOff]
  have out : ∀ {K : Sl → World → Prop}, (∀ r8 w9, (∃ FT' y' hs8, Nb w9 G FB FT' g gt b t.clear x l m y' ∧ Stp w (fun k => FB k ∨ FT k) w9 (fun k => FB k ∨ FT' k) ∧ OwS w9 0 t_s_uint8 r8 hs8 ∧ All2 (Cb w9 (Zt (fun k => G k ∨ FB k) FT')) hs8 t.out) → K r8 w9) → cl Tryz.prog n_tunnel_Tunnel_Out #[.pointer (some ⟨gt, 0, none⟩)] .L w3 K := by
    intro K hK
    refine (tOut_ok h3.tn hme).mono ?_
    rintro r8 w9 ⟨FT', y', hs8, ht, hm, hF, ho, ha, _⟩
    obtain ⟨n9, s9⟩ := h3.stepT ht hm fun k hk => .inl (hF k hk)
    exact hK r8 w9 ⟨FT', y', hs8, n9, (Stp.of_fr f3).trans s9, ho, ha⟩
  refine ⟨h3.bb.l_wan (h3.bb.l_t ?_), h3.bb.l_t ⟨h3.bb.l_wan ?_, ?_⟩⟩
  · rw [h3.xt]
    refine out fun r8 w9 ⟨FT', y', hs8, n9, s9, ho, ha⟩ => J1 w9 r8 FT' y' hs8 n9 s9 ho ha
  · rw [h3.xt]
    refine out fun r8 w9 ⟨FT', y', hs8, n9, s9, ho, ha⟩ => J1 w9 r8 FT' y' hs8 n9 s9 ho ha
  · rw [h3.xt]
    refine out fun r8 w9 ⟨FT', y', hs8, n9, s9, ho, ha⟩ => n9.bb.l_wan (J1 w9 r8 FT' y' hs8 n9 s9 ho ha)
end
end Go.Proofs.YtoglafmpllimgaaGreatDoor
namespace Go.Fl
open Go.RowKit

theorem b8_nat (n : Int) : ((b8 n).toNat : Int) = n % 256 := by
  unfold b8
  rw [UInt8.toNat_ofNat']
  omega
theorem g2_be {l : List UInt8} {i : Nat} {n : Int} (h0 : l.getD i 0 = b8 (n / 256)) (h1 : l.getD (i + 1) 0 = b8 n) (hn : 0 ≤ n ∧ n < 65536) : g2 l i = n := by
  unfold g2
  rw [h0, h1, b8_nat, b8_nat]
  omega
theorem g4_be {l : List UInt8} {i : Nat} {n : Int} (h0 : l.getD i 0 = b8 (n / 16777216)) (h1 : l.getD (i + 1) 0 = b8 (n / 65536)) (h2 : l.getD (i + 2) 0 = b8 (n / 256)) (h3 : l.getD (i + 2 + 1) 0 = b8 n) (hn : 0 ≤ n ∧ n < 4294967296) : g4 l i = n := by
  unfold g4 g2
  rw [h0, h1, h2, h3, b8_nat, b8_nat, b8_nat, b8_nat]
  omega
theorem g4_mod {l : List UInt8} {i : Nat} {n : Int} (h0 : l.getD i 0 = b8 (n / 16777216)) (h1 : l.getD (i + 1) 0 = b8 (n / 65536)) (h2 : l.getD (i + 2) 0 = b8 (n / 256)) (h3 : l.getD (i + 2 + 1) 0 = b8 n) : g4 l i = n % 4294967296 := by
  unfold g4 g2
  rw [h0, h1, h2, h3, b8_nat, b8_nat, b8_nat, b8_nat]
  omega
theorem probe8_be {n : Int} (hn : 0 ≤ n ∧ n ≤ 1099511627776) (r : List UInt8) : probe8 ([1, 10] ++ be4 (n / 4294967296) ++ be4 n ++ r) = n := by
  unfold probe8
  rw [g4_mod (n := n / 4294967296) rfl rfl rfl rfl, g4_mod (n := n) rfl rfl rfl rfl, i64w (by omega) (by omega)]
  omega
/-- The options are read back. -/
theorem readO_opt {p q : Pk} (hp : 0 ≤ p.probe ∧ p.probe ≤ 1099511627776) (ho : 0 ≤ p.origin ∧ p.origin ≤ 65535) (h1 : q.probe = 0) (h2 : q.origin = 0) : readO q (optP p) = { q with probe := p.probe, origin := p.origin } := by
  have org : ∀ q : Pk, q.origin = 0 → optB q (if p.origin > 0 then [2, 4] ++ be2 p.origin else []) = { q with origin := p.origin } := fun q hq => by
    unfold optB
    by_cases h : p.origin > 0
    · rw [if_pos h]
      rw [if_pos ⟨by show 4 ≤ 4; omega, rfl⟩]
      rw [g2_be (n := p.origin) (i := 2) rfl rfl (by omega)]
    · rw [if_neg h, if_neg (by show ¬(4 ≤ 0 ∧ _); omega)]
      have : p.origin = 0 := by omega
      rw [this, ← hq]
  by_cases h : p.probe > 0
  · have e : optP p = [1, 10] ++ be4 (p.probe / 4294967296) ++ be4 p.probe ++ (if p.origin > 0 then [2, 4] ++ be2 p.origin else []) := by unfold optP; rw [if_pos h]
    rw [e, readO_yes ⟨by simp [be4], rfl⟩, probe8_be hp]
    exact org _ h2
  · have e : optP p = (if p.origin > 0 then [2, 4] ++ be2 p.origin else []) := by unfold optP; rw [if_neg h]; rfl
    rw [e, readO_no (by split <;> simp [be2]), org _ h2]
    have : p.probe = 0 := by omega
    rw [this, ← h1]
/-- What was put is got. -/
theorem parseP_put {p : Pk} (hk : p.ok) (hq : p.q) : parseP (bytesP p) = p := by
  obtain ⟨k1, k2, k3, k4, k5, k6, k7, k8, k9, k10⟩ := hk
  obtain ⟨q1, q2⟩ := hq
  have hlen := optP_len p
  have h20 : ((bytesP p).getD 20 0).toNat = (optP p).length := by
    rw [show (bytesP p).getD 20 0 = b8 (optP p).length from rfl]
    have := b8_nat ((optP p).length : Int)
    omega
  obtain ⟨F, hF, hFl⟩ : ∃ F, bytesP p = F ++ (optP p ++ p.data) ∧ F.length = 22 := by
    refine ⟨frontP p ++ be2 (inetN (frontP p ++ [0, 0] ++ tailP p)) ++ [b8 (optP p).length, 0], ?_, by rfl⟩
    unfold bytesP
    conv => lhs; arg 2; unfold tailP
    simp only [List.append_assoc]
  have ho : ((bytesP p).take (22 + (optP p).length)).drop 22 = optP p := by
    rw [hF, ← hFl, List.take_length_add_append, List.drop_left, List.take_left]
  have hd : (bytesP p).drop (22 + (optP p).length) = p.data := by
    rw [hF, ← hFl, List.drop_length_add_append, List.drop_left]
  unfold parseP
  dsimp only
  rw [h20, ho, hd, readO_opt k8 k9 rfl rfl]
  have e1 : (((bytesP p).getD 1 0).toNat : Int) = p.src := by
    rw [show (bytesP p).getD 1 0 = b8 p.src from rfl, b8_nat]; omega
  have e2 : (((bytesP p).getD 2 0).toNat : Int) = p.dst := by
    rw [show (bytesP p).getD 2 0 = b8 p.dst from rfl, b8_nat]; omega
  have e3 : (((bytesP p).getD 3 0).toNat : Int) = p.flags := by
    rw [show (bytesP p).getD 3 0 = b8 p.flags from rfl, b8_nat]; omega
  rw [e1, e2, e3, g2_be (n := p.sport) (i := 4) rfl rfl (by omega), g2_be (n := p.dport) (i := 6) rfl rfl (by omega), g2_be (n := p.window) (i := 16) rfl rfl (by omega),
    g4_be (n := p.seq) (i := 8) rfl rfl rfl rfl q1, g4_be (n := p.ack) (i := 12) rfl rfl rfl rfl q2]
theorem bytesP_len (p : Pk) : (bytesP p).length = 22 + (optP p).length + p.data.length := by
  unfold bytesP tailP
  simp only [List.length_append, frontP_len, List.length_cons, List.length_nil]
  show 18 + 2 + _ = _
  omega
theorem getP_put {p : Pk} (hk : p.ok) (hq : p.q) : getP (bytesP p) = some p := by
  have hl := bytesP_len p
  have hol := optP_len p
  have h20 : ((bytesP p).getD 20 0).toNat = (optP p).length := by
    rw [show (bytesP p).getD 20 0 = b8 (optP p).length from rfl]
    have := b8_nat ((optP p).length : Int)
    omega
  unfold getP
  rw [parseP_put hk hq, if_pos ⟨by omega, by omega, by unfold putP; rw [if_pos hk]⟩]
end Go.Fl
namespace Go.Proofs.YtoglafmpllimgaaGreatDoor
open Go.RowKit Go.Fl

section
variable {w w' : World} {G FB FT F : Nat → Prop} {g gt : Nat} {b : Bb} {t : Tn} {x : BxP} {l m : Sl} {y : Shp}
theorem drainF (h : Nb w G FB FT g gt b t x l m y) {Q : Unit → World → Prop} (k : Q () w) : box_Box_drain (some ⟨g, 0, none⟩) Q w := by
  unfold box_Box_drain
  refine lpI (fun _ v => w = v) (fun _ _ => 0) rfl ?_
  rintro D ⟨⟩ _ rfl
  rw [nz, addOff]
  refine h.bb.l_lt ?_
  exact bN (by have := h.lt0; omega) k
theorem pumpF (h : Nb w G FB FT g gt b t x l m y) {Q : Unit → World → Prop} (k : Q () w) : box_Box_pump (some ⟨g, 0, none⟩) Q w := by
  unfold box_Box_pump
  refine box_Box_drain.cl (drainF h ?_)
  rw [nz, addOff]
  refine h.bb.l_fl ?_
  refine lpI (fun s v => s = (0, ()) ∧ w = v) (fun _ _ => 0) ⟨rfl, rfl⟩ ?_
  rintro D _ _ ⟨rfl, rfl⟩
  exact bN (by have := h.fl0; dsimp only; omega) k
theorem pump_ok (h : Nb w G FB FT g gt b t x l m y) {K : Unit → World → Prop} (k : K () w) : cl Tryz.prog n_box_Box_pump #[.pointer (some ⟨g, 0, none⟩)] (.tup .nil) w K := box_Box_pump.cl (pumpF h k)
theorem pump_d (h : Nb w G FB FT g gt b t x l m y) {K : World → Prop} (k : K w) : dcl Tryz.prog n_box_Box_pump #[.pointer (some ⟨g, 0, none⟩)] w K := box_Box_pump.dcl (pumpF h (Q := fun _ w' => K w') k)
theorem find0 (h : Nb w G FB FT g gt b t x l m y) (f : Value) : cl Tryz.prog n_box_Box_find #[.pointer (some ⟨g, 0, none⟩), f] .P w fun (r : Option Addr) w' => r = none ∧ w = w' := by
  refine box_Box_find.cl ?_
  unfold box_Box_find
  rw [nz, addOff]
  refine h.bb.l_fl ?_
  refine slices_IndexFunc_box_flow_box_flow.cl (p0 := x.fl) ?_
  unfold slices_IndexFunc_box_flow_box_flow
  refine lpI (fun s v => s = (0, ()) ∧ w = v) (fun _ _ => 0) ⟨rfl, rfl⟩ ?_
  rintro D _ _ ⟨rfl, rfl⟩
  refine bN (by have := h.fl0; dsimp only; omega) ?_
  exact bT (by decide) ⟨rfl, rfl⟩
/-- A step of its own block, as one of the box. -/
theorem Nb.viaB {b' : Bb} (h : Nb w G FB FT g gt b t x l m y) (k : BbTo w FB w' (fun k => G k ∨ FT k) g b' x) : NbTo w (fun k => FB k ∨ FT k) w' G g b' t := by
  obtain ⟨F', l', m', h1, s1⟩ := k
  obtain ⟨h2, s2⟩ := h.stepB h1 s1 rfl h.fl0 h.lt0
  exact ⟨_, ⟨_, _, _, _, _, _, _, h2, rfl⟩, s2⟩
theorem asked0 {p : Pk} {s sx : Sl} {d : List UInt8} (h : Nb w G FB FT g gt b t x l m y) (hup : t.up = false) (hme : 1 ≤ t.me) (hx : Bs w sx d) (hd : d.length ≤ 1048576) (hgp : getP d = some p) (hl : b.wan.length ≤ 1073741824) :
    cl Tryz.prog n_box_Box_asked #[.pointer (some ⟨g, 0, none⟩), pkV p s, .slice sx.a sx.n sx.c] (.tup .nil) w fun (_ : Unit) w' => NbTo w (fun k => FB k ∨ FT k) w' G g { b with wan := b.wan ++ [if p.flags = 1 then (putP { p with probe := t.me }).1 else d], pass := wr (b.pass + 1) } t := by
  refine box_Box_asked.cl (p1 := pkT p s) (p2 := sx) ?_
  unfold box_Box_asked
  refine newPk p s fun a w2 ha f2 hb2 => ?_
  have h2 := h.fr f2
  have hx2 := hx.fr f2
  refine (find0 h2 _).mono ?_
  rintro _ _ ⟨rfl, rfl⟩
  refine bF rfl ?_
  intro j2
  have J2 : j2 false w2 := by
    unfold j2
    refine bF rfl ?_
    intro j3
    have out : ∀ {u : World} {sy : Sl} {e : List UInt8}, Fr w2 u → Bs u sy e → e.length ≤ 1099511627776 → e = (if p.flags = 1 then (putP { p with probe := t.me }).1 else d) → cl Tryz.prog n_box_Box_pass #[.pointer (some ⟨g, 0, none⟩), .pointer (some ⟨g, 15, none⟩), .slice sy.a sy.n sy.c] (.tup .nil) u fun (_ : Unit) w' => NbTo w (fun k => FB k ∨ FT k) w' G g { b with wan := b.wan ++ [if p.flags = 1 then (putP { p with probe := t.me }).1 else d], pass := wr (b.pass + 1) } t := by
      rintro u sy e fu hy he rfl
      have hu := h2.fr fu
      exact (pass_wan hu.bb hy he hl).mono fun _ w' hto => NbTo.pre (Stp.of_fr (f2.trans fu)) (hu.viaB hto)
    have hput : ((putP { p with probe := t.me }).1).length ≤ 1099511627776 := by
      have := getP_len hgp
      have := optP_len { p with probe := t.me }
      unfold putP
      split
      · rw [bytesP_len]; dsimp only; omega
      · simp
    have J3f : p.flags ≠ 1 → j3 false w2 := by
      intro hf
      unfold j3
      refine bF rfl ?_
      rw [nz, addOff]
      exact out (Fr.refl _) hx2 (by omega) (if_neg hf).symm
    have J3t : p.flags = 1 → j3 true w2 := by
      intro hf
      unfold j3
      refine bT rfl ?_
      rw [nz, addOff]
      refine h2.bb.l_t ?_
      rw [h2.xt]
      refine (tMe_ok h2.tn hme).mono ?_
      rintro _ _ ⟨rfl, rfl⟩
      refine (probed_ok hx2 hd).mono ?_
      rintro ⟨r1, r2, ⟨⟩⟩ w3 ⟨hk, f3⟩
      rw [hgp] at hk
      obtain ⟨ho, _⟩ := hk
      rw [nz, addOff]
      exact out f3 ho.bs hput (if_pos hf).symm
    clear_value j3
    rw [addOff]
    refine ldI0 (n := p.flags) hb2 rfl ?_
    refine bE ?_ ?_ <;> intro hf
    · rw [nz, addOff]
      refine h2.bb.l_t ?_
      rw [h2.xt]
      refine (tUp_ok h2.tn hme).mono ?_
      rintro _ _ ⟨rfl, rfl⟩
      rw [hup]
      exact J3t hf
    · exact J3f hf
  clear_value j2
  rw [addOff]
  refine ldI0 (n := p.flags) hb2 rfl ?_
  refine bE ?_ ?_ <;> intro hf
  · rw [nz, addOff]
    refine h2.bb.l_t ?_
    rw [h2.xt]
    refine (tUp_ok h2.tn hme).mono ?_
    rintro _ _ ⟨rfl, rfl⟩
    rw [hup]
    exact bF rfl J2
  · exact J2
/-- A packet of the left host comes over the wide side to the right box. -/
theorem overR {p : Pk} {s sx : Sl} {d : List UInt8} (h : Nb w G FB FT g gt b t x l m y) (hside : b.side = 4) (hsrc : p.src = 1) (hdst : p.dst = 2) (hme : 1 ≤ t.me) (hx : Cb w (Zt G (fun k => FB k ∨ FT k)) sx d) (hd : d.length ≤ 1048576) (hgp : getP d = some p) (hl : b.lan.length ≤ 1073741824) (ho : t.out.length ≤ 1073741824) :
    cl Tryz.prog n_box_Box_over #[.pointer (some ⟨g, 0, none⟩), pkV p s, .slice sx.a sx.n sx.c] (.tup .nil) w fun (_ : Unit) w' => NbTo w (fun k => FB k ∨ FT k) w' G g { b with lan := b.lan ++ [if p.probe > 0 then (putP { p with probe := 0 }).1 else d], pass := wr (b.pass + 1) } (if p.probe > 0 then t.hint p.probe else t) := by
  refine box_Box_over.cl (p1 := pkT p s) (p2 := sx) ?_
  unfold box_Box_over
  refine newPk p s fun a w2 ha f2 hb2 => ?_
  have h2 := h.fr f2
  have hx2 : Cb w2 _ sx d := hx.mv (F := fun _ => False) (Mv.of_fr f2) (fun _ h => h.elim) fun _ h => .inl h
  intro j2
  have J2 : j2 false w2 := by
    unfold j2
    refine bF rfl ?_
    intro j3
    have J3 : j3 true w2 := by
      unfold j3
      refine bT rfl ?_
      rw [addOff]
      refine ldI0 (n := p.probe) hb2 rfl ?_
      refine bD ?_ ?_ <;> intro hp
      · rw [if_pos hp, if_pos hp]
        intro n
        have f3 := Fr.drewN w2 n
        have h3 := h2.fr f3
        have hx3 : Cb (w2.drewN n) _ sx d := hx2.mv (F := fun _ => False) (Mv.of_fr f3) (fun _ h => h.elim) fun _ h => .inl h
        have hb3 := f3.heap hb2
        generalize w2.drewN n = w3 at *
        rw [nz, addOff]
        refine h3.bb.l_t ?_
        rw [h3.xt]
        refine ldI0 (n := p.probe) hb3 rfl ?_
        refine (hint_ok h3.tn hme ho).mono ?_
        rintro _ w4 ⟨FT4, y4, t4, m4, hF4⟩
        obtain ⟨h4, s4⟩ := h3.stepT t4 m4 hF4
        have hx4 : Cb w4 _ sx d := hx3.mv m4 (fun k hk => .inl (.inr (.inr hk))) fun _ h => .inl h
        refine (probed_ok hx4.bs hd).mono ?_
        rintro ⟨r1, r2, ⟨⟩⟩ w5 ⟨hk, f5⟩
        rw [hgp] at hk
        obtain ⟨ho5, _⟩ := hk
        rw [nz, addOff]
        have h5 := h4.fr f5
        have hput : ((putP { p with probe := 0 }).1).length ≤ 1099511627776 := by
          have := getP_len hgp
          have := optP_len { p with probe := 0 }
          unfold putP
          split
          · rw [bytesP_len]; dsimp only; omega
          · simp
        exact (pass_lan h5.bb ho5.bs hput hl).mono fun _ w' hto => NbTo.pre (((Stp.of_fr (f2.trans f3)).trans s4).fr f5) (h5.viaB hto)
      · rw [if_neg hp, if_neg hp, nz, addOff]
        exact (pass_lan h2.bb hx2.bs (by omega) hl).mono fun _ w' hto => NbTo.pre (Stp.of_fr f2) (h2.viaB hto)
    clear_value j3
    rw [nz, addOff]
    refine h2.bb.l_side ?_
    refine bT (by rw [hside]; rfl) ?_
    refine ldI0 (n := p.src) hb2 rfl (bT (by rw [hsrc]; rfl) ?_)
    rw [addOff]
    refine ldI0 (n := p.dst) hb2 rfl ?_
    rw [hdst]
    exact J3
  clear_value j2
  rw [nz, addOff]
  refine h2.bb.l_side ?_
  exact bF (by rw [hside]; rfl) J2
/-- A packet of the right host comes over the wide side to the left box. -/
theorem overL {p : Pk} {s sx : Sl} {d : List UInt8} (h : Nb w G FB FT g gt b t x l m y) (hside : b.side = 3) (hsrc : p.src = 2) (hdst : p.dst = 1) (hx : Bs w sx d) (hd : d.length ≤ 1048576) (hl : b.lan.length ≤ 1073741824) :
    cl Tryz.prog n_box_Box_over #[.pointer (some ⟨g, 0, none⟩), pkV p s, .slice sx.a sx.n sx.c] (.tup .nil) w fun (_ : Unit) w' => NbTo w (fun k => FB k ∨ FT k) w' G g { b with lan := b.lan ++ [d], pass := wr (b.pass + 1) } t := by
  refine box_Box_over.cl (p1 := pkT p s) (p2 := sx) ?_
  unfold box_Box_over
  refine newPk p s fun a w2 ha f2 hb2 => ?_
  have h2 := h.fr f2
  have hx2 := hx.fr f2
  intro j2
  have J2 : j2 true w2 := by
    unfold j2
    refine bT rfl ?_
    refine (find0 h2 _).mono ?_
    rintro _ _ ⟨rfl, rfl⟩
    refine bT rfl ?_
    rw [nz, addOff]
    exact (pass_lan h2.bb hx2 (by omega) hl).mono fun _ w' hto => NbTo.pre (Stp.of_fr f2) (h2.viaB hto)
  clear_value j2
  rw [nz, addOff]
  refine h2.bb.l_side ?_
  refine bT (by rw [hside]; rfl) ?_
  refine ldI0 (n := p.src) hb2 rfl (bT (by rw [hsrc]; rfl) ?_)
  rw [addOff]
  refine ldI0 (n := p.dst) hb2 rfl ?_
  rw [hdst]
  exact J2
/-- A packet is read and laid in a variable. -/
theorem gotP {sx : Sl} {d : List UInt8} {p : Pk} (hx : Bs w sx d) (hd : d.length ≤ 1048576) (hgp : getP d = some p) {K : y_api_Packet × Int × Unit → World → Prop} (hk : ∀ s w2, Fr w w2 → K (pkT p s, 0, ()) w2) :
    cl Tryz.prog n_packet_Get #[.slice sx.a sx.n sx.c] (.tup (.pair k_api_Packet (.pair (.I .i64) .nil))) w K := by
  refine (pGet_ok hx (by omega)).mono ?_
  rintro r w2 ⟨hg, f2⟩
  rw [hgp] at hg
  obtain ⟨s, rfl, _⟩ := hg
  exact hk s w2 f2
theorem lanL {sx : Sl} {d : List UInt8} {p : Pk} (h : Nb w G FB FT g gt b t x l m y) (hside : b.side = 3) (hsrc : p.src = 1) (hdst : p.dst = 2) (hup : t.up = false) (hme : 1 ≤ t.me) (hx : Bs w sx d) (hd : d.length ≤ 1048576) (hgp : getP d = some p) (hl : b.wan.length ≤ 1073741824) :
    cl Tryz.prog n_box_Box_Lan #[.pointer (some ⟨g, 0, none⟩), .slice sx.a sx.n sx.c] (.tup .nil) w fun (_ : Unit) w' => NbTo w (fun k => FB k ∨ FT k) w' G g { b with wan := b.wan ++ [if p.flags = 1 then (putP { p with probe := t.me }).1 else d], pass := wr (b.pass + 1) } t := by
  refine box_Box_Lan.cl (p1 := sx) ?_
  unfold box_Box_Lan
  refine gotP hx hd hgp fun s w2 f2 => ?_
  refine newPk pk0 ⟨none, 0, 0⟩ fun a w4 ha f4 hb4 => ?_
  have z2 := f2.size
  refine stPk p s hb4 fun w5 hb5 hg5 hs5 => ?_
  have f5 : Fr w w5 := Mv.on (F := fun k => k = a) (f2.trans f4) (Mv.of_grown hg5 rfl) fun k hk => by omega
  have h5 := h.fr f5
  intro j8
  have J8 : ∀ u, NbTo w (fun k => FB k ∨ FT k) u G g { b with wan := b.wan ++ [if p.flags = 1 then (putP { p with probe := t.me }).1 else d], pass := wr (b.pass + 1) } t → j8 u := by
    rintro u ⟨F', ⟨_, _, _, _, _, _, _, hu, rfl⟩, su⟩
    unfold j8
    exact pump_ok hu ⟨_, ⟨_, _, _, _, _, _, _, hu, rfl⟩, su⟩
  clear_value j8
  refine (bmade_ok h5.bb).mono ?_
  rintro _ _ ⟨rfl, rfl⟩
  refine bF (by rw [hside]; rfl) ?_
  refine bF rfl ?_
  intro j4
  have J4 : j4 true w5 := by
    unfold j4
    refine bT rfl ?_
    refine ldPk hb5 ?_
    exact (asked0 h5 hup hme (hx.fr f5) hd hgp hl).mono fun _ u hto => J8 u (NbTo.pre (Stp.of_fr f5) hto)
  clear_value j4
  rw [nz, addOff]
  refine h5.bb.l_side ?_
  refine bT (by rw [hside]; rfl) ?_
  refine ldI0 (n := p.src) hb5 rfl (bT (by rw [hsrc]; rfl) ?_)
  rw [addOff]
  refine ldI0 (n := p.dst) hb5 rfl ?_
  rw [hdst]
  exact J4
theorem lanR {sx : Sl} {d : List UInt8} {p : Pk} (h : Nb w G FB FT g gt b t x l m y) (hside : b.side = 4) (hsrc : p.src = 2) (hdst : p.dst = 1) (hx : Bs w sx d) (hd : d.length ≤ 1048576) (hgp : getP d = some p) (hl : b.wan.length ≤ 1073741824) :
    cl Tryz.prog n_box_Box_Lan #[.pointer (some ⟨g, 0, none⟩), .slice sx.a sx.n sx.c] (.tup .nil) w fun (_ : Unit) w' => NbTo w (fun k => FB k ∨ FT k) w' G g { b with wan := b.wan ++ [d], pass := wr (b.pass + 1) } t := by
  refine box_Box_Lan.cl (p1 := sx) ?_
  unfold box_Box_Lan
  refine gotP hx hd hgp fun s w2 f2 => ?_
  refine newPk pk0 ⟨none, 0, 0⟩ fun a w4 ha f4 hb4 => ?_
  have z2 := f2.size
  refine stPk p s hb4 fun w5 hb5 hg5 hs5 => ?_
  have f5 : Fr w w5 := Mv.on (F := fun k => k = a) (f2.trans f4) (Mv.of_grown hg5 rfl) fun k hk => by omega
  have h5 := h.fr f5
  intro j8
  have J8 : ∀ u, NbTo w (fun k => FB k ∨ FT k) u G g { b with wan := b.wan ++ [d], pass := wr (b.pass + 1) } t → j8 u := by
    rintro u ⟨F', ⟨_, _, _, _, _, _, _, hu, rfl⟩, su⟩
    unfold j8
    exact pump_ok hu ⟨_, ⟨_, _, _, _, _, _, _, hu, rfl⟩, su⟩
  clear_value j8
  refine (bmade_ok h5.bb).mono ?_
  rintro _ _ ⟨rfl, rfl⟩
  refine bF (by rw [hside]; rfl) ?_
  refine bF rfl ?_
  intro j4
  have J4 : j4 false w5 := by
    unfold j4
    refine bF rfl ?_
    intro j6
    have J6 : j6 false w5 := by
      unfold j6
      refine bF rfl ?_
      intro j7
      have J7 : j7 true w5 := by
        unfold j7
        refine bT rfl ?_
        rw [nz, addOff]
        exact (pass_wan h5.bb (hx.fr f5) (by omega) hl).mono fun _ u hto => J8 u (NbTo.pre (Stp.of_fr f5) (h5.viaB hto))
      clear_value j7
      rw [nz, addOff]
      refine h5.bb.l_side ?_
      refine bT (by rw [hside]; rfl) ?_
      refine ldI0 (n := p.src) hb5 rfl (bT (by rw [hsrc]; rfl) ?_)
      rw [addOff]
      refine ldI0 (n := p.dst) hb5 rfl ?_
      rw [hdst]
      exact J7
    clear_value j6
    rw [nz, addOff]
    refine h5.bb.l_side ?_
    refine bT (by rw [hside]; rfl) ?_
    refine ldI0 (n := p.src) hb5 rfl (bT (by rw [hsrc]; rfl) ?_)
    rw [addOff]
    refine ldI0 (n := p.dst) hb5 rfl ?_
    rw [hdst]
    exact J6
  clear_value j4
  rw [nz, addOff]
  refine h5.bb.l_side ?_
  exact bF (by rw [hside]; rfl) J4
/-- A packet comes over the wide side. -/
theorem wanP {sx : Sl} {d : List UInt8} {p : Pk} {b' : Bb} {t' : Tn} (h : Nb w G FB FT g gt b t x l m y) (hside : b.side ≠ 0) (hx : Cb w (Zt G (fun k => FB k ∨ FT k)) sx d) (hd : d.length ≤ 1048576) (hgp : getP d = some p)
    (hov : ∀ {u : World} {s : Sl}, Nb u G FB FT g gt b t x l m y → Cb u (Zt G (fun k => FB k ∨ FT k)) sx d → cl Tryz.prog n_box_Box_over #[.pointer (some ⟨g, 0, none⟩), pkV p s, .slice sx.a sx.n sx.c] (.tup .nil) u fun (_ : Unit) w' => NbTo u (fun k => FB k ∨ FT k) w' G g b' t') :
    cl Tryz.prog n_box_Box_Wan #[.pointer (some ⟨g, 0, none⟩), .slice sx.a sx.n sx.c] (.tup .nil) w fun (_ : Unit) w' => NbTo w (fun k => FB k ∨ FT k) w' G g b' t' := by
  refine box_Box_Wan.cl (p1 := sx) ?_
  unfold box_Box_Wan
  refine (bmade_ok h.bb).mono ?_
  rintro _ _ ⟨rfl, rfl⟩
  refine bF (by simp [hside]) ?_
  refine gotP hx.bs hd hgp fun s w2 f2 => ?_
  refine newPk pk0 ⟨none, 0, 0⟩ fun a w4 ha f4 hb4 => ?_
  have z2 := f2.size
  refine stPk p s hb4 fun w5 hb5 hg5 hs5 => ?_
  have f5 : Fr w w5 := Mv.on (F := fun k => k = a) (f2.trans f4) (Mv.of_grown hg5 rfl) fun k hk => by omega
  refine bT rfl ?_
  refine ldPk hb5 ?_
  refine (hov (h.fr f5) (hx.mv (F := fun _ => False) (Mv.of_fr f5) (fun _ h => h.elim) fun _ h => .inl h)).mono ?_
  rintro _ w6 ⟨F', ⟨_, _, _, _, _, _, _, hu, rfl⟩, su⟩
  exact pump_d hu ⟨_, ⟨_, _, _, _, _, _, _, hu, rfl⟩, (Stp.of_fr f5).trans su⟩
theorem anew0 (h : Nb w G FB FT g gt b t x l m y) : cl Tryz.prog n_box_Box_anew #[.pointer (some ⟨g, 0, none⟩)] (.tup .nil) w fun (_ : Unit) w' => NbTo w (fun k => FB k ∨ FT k) w' G g b t := by
  refine box_Box_anew.cl ?_
  unfold box_Box_anew
  rw [nz, addOff]
  refine h.bb.s_lt (v := ⟨none, 0, 0⟩) fun w2 h2 s2 => ?_
  obtain ⟨n2, s2'⟩ := h.stepB h2 s2 rfl h.fl0 rfl
  rw [nz, addOff]
  refine n2.bb.l_fl ?_
  refine lpI (fun s v => s = (0, ()) ∧ w2 = v) (fun _ _ => 0) ⟨rfl, rfl⟩ ?_
  rintro D _ _ ⟨rfl, rfl⟩
  exact bN (by have := n2.fl0; dsimp only at this ⊢; omega) ⟨_, ⟨_, _, _, _, _, _, _, n2, rfl⟩, s2'⟩
/-- A datagram of the other box that tells nothing. -/
theorem wanD {sx : Sl} {d : List UInt8} (h : Nb w G FB FT g gt b t x l m y) (hside : b.side ≠ 0) (hi : t.inv) (hx : Bs w sx d) (hd : d.length ≤ 1048576) (hgp : getP d = none) (ht : (t.take d).2.1 = []) (hi' : 1 ≤ (t.take d).1.me) (ho : t.out.length ≤ 1073741000) :
    cl Tryz.prog n_box_Box_Wan #[.pointer (some ⟨g, 0, none⟩), .slice sx.a sx.n sx.c] (.tup .nil) w fun (_ : Unit) w' => NbTo w (fun k => FB k ∨ FT k) w' G g b (t.take d).1 := by
  refine box_Box_Wan.cl (p1 := sx) ?_
  unfold box_Box_Wan
  refine (bmade_ok h.bb).mono ?_
  rintro _ _ ⟨rfl, rfl⟩
  refine bF (by simp [hside]) ?_
  refine (pGet_ok hx (by omega)).mono ?_
  rintro ⟨r1, r2, ⟨⟩⟩ w2 ⟨hg, f2⟩
  rw [hgp] at hg
  obtain ⟨h1, h2⟩ := hg
  dsimp only at h1 h2
  subst h1
  refine newPk pk0 ⟨none, 0, 0⟩ fun a w4 ha f4 hb4 => ?_
  have z2 := f2.size
  refine stPk pk0 ⟨none, 0, 0⟩ hb4 fun w5 hb5 hg5 hs5 => ?_
  have f5 : Fr w w5 := Mv.on (F := fun k => k = a) (f2.trans f4) (Mv.of_grown hg5 rfl) fun k hk => by omega
  have h5 := h.fr f5
  refine bF (beq_eq_false_iff_ne.2 h2) ?_
  rw [nz, addOff]
  refine h5.bb.l_t ?_
  rw [h5.xt]
  refine (tEpoch_ok h5.tn hi.me.1).mono ?_
  rintro _ _ ⟨rfl, rfl⟩
  rw [nz, addOff]
  refine h5.bb.l_t ?_
  rw [h5.xt]
  refine (take_ok h5.tn hi (hx.fr f5) (by omega) ho).mono ?_
  rintro ⟨r18, r19, ⟨⟩⟩ w19 ⟨_, hT⟩
  rw [ht] at hT
  obtain ⟨FT', y', hs, t1, m1, hF1, ho1, ha1, _⟩ := hT
  have hs0 : hs = [] := List.eq_nil_of_length_eq_zero (by rw [ha1.length]; rfl)
  subst hs0
  have hn0 : r18.n = 0 := ho1.len
  have t1 := t1.anti (G' := fun k => G k ∨ FB k) fun k hk => .inl hk
  obtain ⟨h19, s19⟩ := h5.stepT t1 m1 hF1
  intro j1
  have J1 : ∀ u, NbTo w (fun k => FB k ∨ FT k) u G g b (t.take d).1 → j1 u := by
    rintro u ⟨F', ⟨_, _, _, _, _, _, _, hu, rfl⟩, su⟩
    unfold j1
    refine lpI (fun s v => s = (0, ()) ∧ u = v) (fun _ _ => 0) ⟨rfl, rfl⟩ ?_
    rintro D _ _ ⟨rfl, rfl⟩
    refine bN (by dsimp only; omega) ?_
    exact pump_d hu ⟨_, ⟨_, _, _, _, _, _, _, hu, rfl⟩, su⟩
  clear_value j1
  rw [nz, addOff]
  refine h19.bb.l_t ?_
  rw [h19.xt]
  refine (tEpoch_ok h19.tn hi').mono ?_
  rintro _ _ ⟨rfl, rfl⟩
  refine bNe ?_ ?_ <;> intro he
  · exact (anew0 h19).mono fun _ u hto => J1 u (NbTo.pre ((Stp.of_fr f5).trans s19) hto)
  · exact J1 _ ⟨_, ⟨_, _, _, _, _, _, _, h19, rfl⟩, (Stp.of_fr f5).trans s19⟩
end
end Go.Proofs.YtoglafmpllimgaaGreatDoor
namespace Go.Proofs.YtoglafmpllimgaaGreatDoor
open Go.RowKit Go.Fl

def wordsL : List UInt8 → List Int
  | [] => []
  | [x] => [256 * (x.toNat : Int)]
  | x :: y :: l => (256 * (x.toNat : Int) + y.toNat) :: wordsL l
theorem wordsL_sum : ∀ b, (wordsL b).sum = (wordsN true b : Int)
  | [] => rfl
  | [x] => by show 256 * (x.toNat : Int) + 0 = ((x.toNat * 256 + 0 : Nat) : Int); omega
  | x :: y :: l => by
    have := wordsL_sum l
    show 256 * (x.toNat : Int) + y.toNat + (wordsL l).sum = ((x.toNat * 256 + (y.toNat + wordsN true l) : Nat) : Int)
    rw [this]; omega
theorem wordsL_in : ∀ b, ∀ x ∈ wordsL b, 0 ≤ x ∧ x ≤ 65535
  | [], x, h => by cases h
  | [a], x, h => by
    have := a.toNat_lt
    simp only [wordsL, List.mem_singleton] at h
    omega
  | a :: c :: l, x, h => by
    have := a.toNat_lt
    have := c.toNat_lt
    simp only [wordsL, List.mem_cons] at h
    rcases h with h | h
    · omega
    · exact wordsL_in l x h
theorem wordsL_len : ∀ b, (wordsL b).length ≤ b.length
  | [] => Nat.le_refl _
  | [_] => Nat.le_refl _
  | _ :: _ :: l => by have := wordsL_len l; simp only [wordsL, List.length_cons]; omega
abbrev i64s (l : List Int) : List Value := l.map (Value.int .i64)
theorem i64s_one (l : List Int) : ∀ v ∈ i64s l, v.oneCell' = true := fun v hv => by obtain ⟨x, _, rfl⟩ := List.mem_map.1 hv; rfl
abbrev OwI (w : World) (base : Nat) (s : Sl) (l : List Int) : Prop := w.ownsRow base t_int 1 (.slice s.a s.n s.c) s.n (i64s l)
theorem slInt : SlT Tryz.prog t_s_int t_int 1 8 := SlT.mk' (z := .int .i64 0) (by kernel_rfl) (by kernel_rfl) rfl (by decide)
theorem OwI.len {w : World} {base : Nat} {s : Sl} {l : List Int} (h : OwI w base s l) : s.n = l.length := by
  have := h.1; rw [List.length_map] at this; omega
section
variable {w : World}
theorem rWords_ok {x : Sl} {b : List UInt8} (hx : Bs w x b) (hl : b.length ≤ 1099511627776) : cl Tryz.prog n_flumeref01_Words #[.slice x.a x.n x.c] .L w fun (r : Sl) w' => OwI w' w.heap.size r (wordsL b) ∧ Fr w w' := by
  refine flumeref01_Words.cl (p0 := x) ?_
  unfold flumeref01_Words
  have hn := hx.len
  refine lpI (fun (s : Sl × Int × Unit) v => ∃ i : Nat, s.2.1 = (i : Int) ∧ i ≤ b.length + 1 ∧ (∃ done, done ++ wordsL (b.drop i) = wordsL b ∧ OwI v w.heap.size s.1 done ∧ done.length ≤ i) ∧ Fr w v) (fun s _ => b.length + 1 - s.2.1.toNat)
    ⟨0, rfl, by omega, ⟨[], rfl, World.ownsRow_nil _ _ _ _, Nat.le_refl _⟩, Fr.refl w⟩ ?_
  rintro D ⟨s, _, ⟨⟩⟩ v ⟨i, rfl, hi, ⟨done, hd, ho, hdl⟩, hf⟩
  dsimp -zeta only at ho ⊢
  have hs := hf.size
  have hon := ho.len
  refine bD ?_ ?_ <;> intro hlt
  · have hib : i < b.length := by omega
    obtain ⟨y, l, hy⟩ : ∃ y l, b.drop i = y :: l := ⟨b[i], b.drop (i + 1), (List.drop_eq_getElem_cons hib)⟩
    have hy0 : b[i]? = some y := by
      have := congrArg (fun l => l[0]?) hy
      simpa using this
    have ylt := y.toNat_lt
    refine ixBc hx.rd hn (by omega) (c := y) (by simpa using hy0) hf ?_
    rw [i64w (n := (y.toNat : Int)) (by omega) (by omega), i64w (n := 256 * (y.toNat : Int)) (by omega) (by omega), i64w (n := (i : Int) + 1) (by omega) (by omega), i64w (n := (i : Int) + 2) (by omega) (by omega)]
    have step : ∀ (z : Int) (v1 : World) (bl : Nat), Fr w v1 → OwI v1 w.heap.size s done → Rd v1 (some ⟨bl, 0, none⟩) [.int .i64 z] → (∃ l', wordsL (b.drop i) = z :: wordsL l' ∧ l' = b.drop (i + 2)) → i + 2 ≤ b.length + 1 →
        app Tryz.prog t_s_int t_s_int s ⟨some ⟨bl, 0, none⟩, 1, 1⟩ v1 fun r u => (∃ i' : Nat, ((i : Int) + 2) = (i' : Int) ∧ i' ≤ b.length + 1 ∧ (∃ done, done ++ wordsL (b.drop i') = wordsL b ∧ OwI u w.heap.size r done ∧ done.length ≤ i') ∧ Fr w u) ∧ b.length + 1 - ((i : Int) + 2).toNat < b.length + 1 - (i : Int).toNat := by
      rintro z v1 bl hf1 ho1 hr ⟨l', e1, rfl⟩ hi2
      refine app_own slInt ho1 hr rfl (i64s_one [z]) (by dsimp only; omega) (by dsimp only; omega) hf1.size fun r u hr2 ho2 hg2 hat => ?_
      refine ⟨⟨i + 2, by omega, hi2, ⟨done ++ [z], ?_, ?_, by simp; omega⟩, hf1.on ((Below.refl _ _).grown hg2 hf1.size fun q hq => (World.ownsRow.lt ho1 q hq).1)⟩, by omega⟩
      · rw [List.append_assoc, ← hd, e1]; rfl
      · show World.ownsRow _ _ _ _ _ _ (i64s (done ++ [z]))
        rw [show i64s (done ++ [z]) = i64s done ++ [.int .i64 z] from List.map_append]
        exact ho2
    refine bD ?_ ?_ <;> intro hlt2
    · have hib2 : i + 1 < b.length := by omega
      obtain ⟨y2, l2, hy2⟩ : ∃ y2 l2, l = y2 :: l2 := by
        cases l with
        | nil => have := congrArg List.length hy; simp at this; omega
        | cons a l => exact ⟨a, l, rfl⟩
      subst hy2
      have hy3 : b[i + 1]? = some y2 := by
        have := congrArg (fun l => l[1]?) hy
        simpa using this
      have y2lt := y2.toNat_lt
      refine ixBc hx.rd hn (by omega) (c := y2) (by rw [show ((i : Int) + 1).toNat = i + 1 from by omega]; exact hy3) hf ?_
      rw [i64w (n := (y2.toNat : Int)) (by omega) (by omega), i64w (by omega) (by omega)]
      refine nwI fun bl v1 hbl hs1 hf1 hb1 hr1 => ?_
      refine step _ v1 bl (hf.trans hf1) (own_kept ho hf1) hr1 ⟨l2, by rw [hy]; rfl, ?_⟩ (by omega)
      have := congrArg (List.drop 2) hy
      rw [List.drop_drop] at this
      exact this.symm
    · have hl0 : l = [] := by
        have := congrArg List.length hy
        rw [List.length_drop, List.length_cons] at this
        exact List.eq_nil_of_length_eq_zero (by omega)
      subst hl0
      refine nwI fun bl v1 hbl hs1 hf1 hb1 hr1 => ?_
      refine step _ v1 bl (hf.trans hf1) (own_kept ho hf1) hr1 ⟨[], by rw [hy]; rfl, (List.drop_eq_nil_of_le (by omega)).symm⟩ (by omega)
  · refine ⟨?_, hf⟩
    have e : b.drop i = [] := List.drop_eq_nil_of_le (by omega)
    rw [e] at hd
    rw [← hd]
    simpa [wordsL] using ho
theorem rAdd_ok {x : Sl} {l : List Int} {S : Nat} (hx : Rd w x.a (i64s l)) (hn : x.n = l.length) (hl : l.length ≤ 1099511627776) (hin : ∀ y ∈ l, 0 ≤ y ∧ y ≤ 65535) (hS : l.sum = (S : Int)) : cl Tryz.prog n_flumeref01_Add #[.slice x.a x.n x.c] (.I .i64) w fun (r : Int) w' => r = (foldN S : Nat) ∧ w = w' := by
  refine flumeref01_Add.cl (p0 := x) ?_
  unfold flumeref01_Add
  have hsum : ∀ l : List Int, (∀ y ∈ l, 0 ≤ y ∧ y ≤ 65535) → 0 ≤ l.sum ∧ l.sum ≤ 65535 * l.length := by
    intro l
    induction l with
    | nil => intro _; simp
    | cons a l ih =>
      intro h
      have h1 := h a List.mem_cons_self
      have h2 := ih fun y hy => h y (List.mem_cons_of_mem _ hy)
      rw [List.sum_cons, List.length_cons]
      omega
  refine lpI (fun (s : Int × Int × Unit) v => ∃ i : Nat, s.2.1 = (i : Int) ∧ i ≤ l.length ∧ s.1 = (l.take i).sum ∧ w = v) (fun s _ => l.length - s.2.1.toNat) ⟨0, rfl, Nat.zero_le _, rfl, rfl⟩ ?_
  rintro D ⟨_, _, ⟨⟩⟩ _ ⟨i, rfl, hi, rfl, rfl⟩
  dsimp -zeta only
  refine bD ?_ ?_ <;> intro hlt
  · have hil : i < l.length := by omega
    obtain ⟨ad, ha, hc⟩ := hx i (.int .i64 l[i]) (by simp [hil])
    refine ⟨by omega, hlt, ?_⟩
    rw [ha]
    show ld (.I .i64) w (atOff ad _ 1) _
    have e : atOff ad (i : Int) 1 = ad.add i := by rw [atOff_eq]; simp
    rw [e]
    refine ⟨l[i], hc, ?_⟩
    have h1 := hin l[i] (List.getElem_mem hil)
    have h2 := hsum (l.take i) fun y hy => hin y (List.mem_of_mem_take hy)
    have h3 : (l.take i).length ≤ l.length := List.length_take_le' _ _
    rw [i64w (n := (i : Int) + 1) (by omega) (by omega)]
    dsimp only
    rw [i64w (by omega) (by omega)]
    refine ⟨⟨i + 1, by omega, by omega, ?_, rfl⟩, by omega⟩
    rw [List.take_succ_eq_append_getElem hil, List.sum_append, List.sum_singleton]
  · have hil : i = l.length := by omega
    subst hil
    rw [List.take_length, hS]
    have h2 := hsum l hin
    rw [hS] at h2
    have hlt64 : S < 18446744073709551616 := by omega
    have hF := foldN_le hlt64
    refine lpI (fun (s : Int × Unit) v => ∃ k m : Nat, s.1 = (m : Int) ∧ foldF k m = foldN S ∧ m ≤ S ∧ w = v) (fun s _ => s.1.toNat) ⟨8, S, rfl, rfl, Nat.le_refl _, rfl⟩ ?_
    rintro D ⟨_, ⟨⟩⟩ _ ⟨k, m, rfl, hk, hm, rfl⟩
    dsimp -zeta only
    refine bD ?_ ?_ <;> intro hgt
    · cases k with
      | zero => unfold foldF at hk; omega
      | succ k =>
        rw [foldF, if_neg (by omega)] at hk
        have e : IntKind.i64.wrap (IntKind.i64.wrap (Int.tdiv (m : Int) 65536) + Int.tmod (m : Int) 65536) = ((m / 65536 + m % 65536 : Nat) : Int) := by
          rw [Int.tdiv_eq_ediv_of_nonneg (by omega), Int.tmod_eq_emod_of_nonneg (by omega), i64w (n := (m : Int) / 65536) (by omega) (by omega), i64w (by omega) (by omega)]
          omega
        rw [e]
        exact ⟨⟨k, _, rfl, hk, by omega, rfl⟩, by omega⟩
    · refine ⟨?_, rfl⟩
      rw [← hk]
      cases k with
      | zero => rfl
      | succ k => rw [foldF, if_pos (by omega)]
theorem rInet_ok {x : Sl} {b : List UInt8} {a : Nat} (ha : w.heap[a]? = some (.cells #[.slice x.a x.n x.c] t_s_uint8 (0, 0))) (hx : Bs w x b) (hl : b.length ≤ 1073741824) :
    cl Tryz.prog n_flumeref01_Inet #[.slice (some ⟨a, 0, none⟩) 1 1] (.I .u16) w fun (r : Int) w' => r = (inetN b : Nat) ∧ inetN b ≤ 65535 ∧ Fr w w' := by
  refine flumeref01_Inet.cl (p0 := ⟨some ⟨a, 0, none⟩, 1, 1⟩) ?_
  unfold flumeref01_Inet
  have hW : wordsN true b < 18446744073709551616 := by have := wordsN_le true b; omega
  have h1 := foldN_le hW
  have hff : foldN (foldN (wordsN true b)) = foldN (wordsN true b) :=
    (show ∀ m, m ≤ 65535 → foldN m = m from fun m h => by unfold foldN foldF; rw [if_pos h]) _ h1
  refine lpI (fun (s : Sl × Int × Unit) v => ((s.2.1 = 0 ∧ OwI v w.heap.size s.1 []) ∨ (s.2.1 = 1 ∧ OwI v w.heap.size s.1 (wordsL b))) ∧ Fr w v) (fun s _ => (1 - s.2.1).toNat) ⟨.inl ⟨rfl, World.ownsRow_nil _ _ _ _⟩, Fr.refl w⟩ ?_
  rintro D ⟨s, i, ⟨⟩⟩ v ⟨h, hf⟩
  dsimp -zeta only at h ⊢
  rcases h with ⟨rfl, ho⟩ | ⟨rfl, ho⟩
  · refine bP (by decide) ?_
    refine ⟨by decide, by decide, ?_⟩
    show ld .L v (atOff _ _ _) _
    rw [atH]
    refine ldL0 (s := x) (hf.heap ha) rfl ?_
    refine (rWords_ok (hx.fr hf) (by omega)).mono ?_
    rintro r v2 ⟨ho2, hf2⟩
    have hlen := wordsL_len b
    have hn2 := ho2.len
    have ho' := own_kept ho hf2
    have hn0 : s.n = 0 := by have := ho.1; simpa using this.symm
    refine app_own slInt ho' (Rd.of_own ho2) (by rw [List.length_map, hn2, Nat.mul_one]) (i64s_one _) (by omega) (by omega) (by have := hf.size; have := hf2.size; omega) fun r3 u hr3 ho3 hg3 hat => ?_
    rw [i64w (by decide) (by decide)]
    exact ⟨⟨.inr ⟨rfl, by simpa using ho3⟩, (hf.trans hf2).on ((Below.refl _ _).grown hg3 (by have := hf.size; have := hf2.size; omega) fun q hq => (World.ownsRow.lt ho' q hq).1)⟩, by decide⟩
  · refine bN (by decide) ?_
    have hn := ho.len
    have hlen := wordsL_len b
    refine (rAdd_ok (Rd.of_own ho) hn (by omega) (wordsL_in b) (wordsL_sum b)).mono ?_
    rintro _ _ ⟨rfl, rfl⟩
    have e : IntKind.u16.wrap (IntKind.i64.wrap (65535 - ((foldN (wordsN true b) : Nat) : Int))) = ((inetN b : Nat) : Int) := by
      unfold inetN
      rw [hff, i64w (by omega) (by omega)]
      rw [IntKind.wrap_u16]
      omega
    exact ⟨e, by unfold inetN; omega, hf⟩
/-- A number's lowest bytes, the highest one first. -/
def bigL : Int → Nat → List UInt8
  | _, 0 => []
  | n, k + 1 => bigL (n / 256) k ++ [b8 n]
theorem big_len (n : Int) : ∀ k, (bigL n k).length = k := fun k => by
  induction k generalizing n with
  | zero => rfl
  | succ k ih => rw [bigL, List.length_append, ih]; rfl
theorem big4 (n : Int) : bigL n 4 = be4 n := by
  show [b8 (n / 256 / 256 / 256), b8 (n / 256 / 256), b8 (n / 256), b8 n] = _
  unfold be4
  have e1 : n / 256 / 256 / 256 = n / 16777216 := by omega
  have e2 : n / 256 / 256 = n / 65536 := by omega
  rw [e1, e2]
theorem big8 (n : Int) : bigL n 8 = be4 (n / 4294967296) ++ be4 n := by
  show [b8 (n / 256 / 256 / 256 / 256 / 256 / 256 / 256), b8 (n / 256 / 256 / 256 / 256 / 256 / 256), b8 (n / 256 / 256 / 256 / 256 / 256), b8 (n / 256 / 256 / 256 / 256), b8 (n / 256 / 256 / 256), b8 (n / 256 / 256), b8 (n / 256), b8 n] = [b8 (n / 4294967296 / 16777216), b8 (n / 4294967296 / 65536), b8 (n / 4294967296 / 256), b8 (n / 4294967296), b8 (n / 16777216), b8 (n / 65536), b8 (n / 256), b8 n]
  have e1 : n / 256 / 256 / 256 = n / 16777216 := by omega
  have e2 : n / 256 / 256 = n / 65536 := by omega
  have e3 : n / 16777216 / 256 = n / 4294967296 := by omega
  have e4 : n / 4294967296 / 256 / 256 / 256 = n / 4294967296 / 16777216 := by omega
  have e5 : n / 4294967296 / 256 / 256 = n / 4294967296 / 65536 := by omega
  rw [e1, e2, e3, e4, e5]
theorem big_ok {n : Int} {k : Nat} (hn : 0 ≤ n ∧ n ≤ 4611686018427387904) (hk : k ≤ 8) : cl Tryz.prog n_flumeref04_big #[.int .i64 n, .int .i64 (k : Int)] .L w fun (r : Sl) w' => OwB w' w.heap.size t_uint8 r (bigL n k) ∧ Fr w w' := by
  refine flumeref04_big.cl ?_
  unfold flumeref04_big
  refine lpI (fun (s : Int × Sl × Int × Unit) v => ∃ (i : Nat) (acc : List UInt8), s.2.2.1 = (i : Int) ∧ i ≤ k ∧ 0 ≤ s.1 ∧ s.1 ≤ 4611686018427387904 ∧ bigL s.1 (k - i) ++ acc = bigL n k ∧ acc.length = i ∧ OwB v w.heap.size t_uint8 s.2.1 acc ∧ Fr w v) (fun s _ => k - s.2.2.1.toNat)
    ⟨0, [], rfl, Nat.zero_le _, hn.1, hn.2, by simp, rfl, OwB.nil _ _ _, Fr.refl w⟩ ?_
  rintro D ⟨m, s, _, ⟨⟩⟩ v ⟨i, acc, rfl, hi, hm0, hm1, hacc, hal, ho, hf⟩
  dsimp -zeta only at hm0 hm1 hacc ho ⊢
  have hz := hf.size
  refine bD ?_ ?_ <;> intro hlt
  · refine nwI fun b v1 hb hs1 hf1 hb1 hr1 => ?_
    have hv1 : OwB v1 w.heap.size t_uint8 ⟨some ⟨b, 0, none⟩, 1, 1⟩ [b8 m] := by
      refine ⟨rfl, .inr ⟨b, 1, #[.int .u8 (IntKind.u8.wrap (Int.tmod m 256))], rfl, by omega, hb1, Nat.le_refl _, by decide, rfl, ?_⟩⟩
      show [Value.int .u8 _] = [Value.int .u8 _]
      rw [u8w, Int.tmod_eq_emod_of_nonneg hm0, b8_nat]
      congr 2
      omega
    have ho1 := ho.fr hf1
    have hn1 := ho1.len
    refine app_B slB hv1 ho1.rd (by rw [hn1]) (by simp; omega) (by have := hf1.size; omega) fun r u ho2 hb2 _ hat => ?_
    rw [i64w (n := (i : Int) + 1) (by omega) (by omega), Int.tdiv_eq_ediv_of_nonneg hm0, i64w (by omega) (by omega)]
    refine ⟨⟨i + 1, b8 m :: acc, by omega, by omega, by omega, by omega, ?_, by simp [hal], ho2, (hf.trans hf1).on hb2⟩, by omega⟩
    rw [← hacc]
    have e : k - i = (k - (i + 1)) + 1 := by omega
    rw [e, bigL, List.append_assoc]
    rfl
  · have e : i = k := by omega
    subst e
    rw [Nat.sub_self] at hacc
    exact ⟨hacc ▸ ho, hf⟩
end
end Go.Proofs.YtoglafmpllimgaaGreatDoor
namespace Go.Proofs.YtoglafmpllimgaaGreatDoor
open Go.RowKit Go.Fl

theorem build3 (a b c : Int) (w : World) : (Instr.build t_3_int #[(0, .int .i64 a), (1, .int .i64 b), (2, .int .i64 c)]).run Tryz.prog w = .ok (.agg #[.int .i64 a, .int .i64 b, .int .i64 c]) w := by
  simp [Instr.build, run_underlying u_3_int, Instr.fill, Value.cells]
def triV (r : Int × Int × Int) : List Value := [.int .i64 r.1, .int .i64 r.2.1, .int .i64 r.2.2]
theorem qn3 {w : World} {a b c : Int} {K : {l : List Value // l.length = 3} → Prop} (k : K ⟨triV (a, b, c), rfl⟩) : qn Tryz.prog (Instr.build t_3_int #[(0, .int .i64 a), (1, .int .i64 b), (2, .int .i64 c)]) (.row 3) w K := ⟨⟨triV (a, b, c), rfl⟩, fun w' _ => build3 a b c w', k⟩
def chkL (p : Pk) : List (Int × Int × Int) := [(p.src, 1, 4), (p.dst, 1, 4), (p.sport, 1, 65535), (p.dport, 1, 65535), (p.flags, 0, 15), (p.window, 0, 65535), (p.probe, 0, 1099511627776), (p.origin, 0, 65535)]
theorem chkL_iff (p : Pk) (n : Nat) : okPk p.src p.dst p.sport p.dport p.flags p.window p.probe p.origin n ↔ (∀ r ∈ chkL p, r.2.1 ≤ r.1 ∧ r.1 ≤ r.2.2) ∧ p.src ≠ p.dst ∧ n ≤ 128 := by
  unfold okPk chkL
  simp only [List.mem_cons, List.not_mem_nil, or_false, forall_eq_or_imp, forall_eq]
  omega
section
variable {w : World}
theorem rpCheck_ok {p : Pk} {s : Sl} : cl Tryz.prog n_flumeref04_Check #[pkV p s] (.I .i64) w fun (r : Int) w' => r = (if okPk p.src p.dst p.sport p.dport p.flags p.window p.probe p.origin s.n then 0 else 40) ∧ Fr w w' := by
  refine flumeref04_Check.cl (p0 := pkT p s) ?_
  unfold flumeref04_Check
  refine newPk p s fun a1 w2 ha1 hf2 hb => ?_
  simp only [addOff, Nat.zero_add]
  refine ldI0 (n := p.src) hb rfl (qn3 ?_)
  refine ldI0 (n := p.dst) hb rfl (qn3 ?_)
  refine ldI0 (n := p.sport) hb rfl (qn3 ?_)
  refine ldI0 (n := p.dport) hb rfl (qn3 ?_)
  refine ldI0 (n := p.flags) hb rfl (qn3 ?_)
  refine ldI0 (n := p.window) hb rfl (qn3 ?_)
  refine ldI0 (n := p.probe) hb rfl (qn3 ?_)
  refine ldI0 (n := p.origin) hb rfl (qn3 ?_)
  refine nwI fun b w20 hb20 hs20 hf20 hblk hrd => ?_
  have hz2 := hf2.size
  have hf20' := hf2.trans hf20
  have no : ∀ {u : World}, Fr w u → ¬okPk p.src p.dst p.sport p.dport p.flags p.window p.probe p.origin s.n → 40 = (if okPk p.src p.dst p.sport p.dport p.flags p.window p.probe p.origin s.n then 0 else 40 : Int) ∧ Fr w u := fun hu h => ⟨(if_neg h).symm, hu⟩
  have hl8 : (chkL p).length = 8 := rfl
  refine lpI (fun (s' : Int × Unit) v => ∃ i : Nat, s'.1 = (i : Int) ∧ i ≤ 8 ∧ (∀ r ∈ (chkL p).take i, r.2.1 ≤ r.1 ∧ r.1 ≤ r.2.2) ∧ Fr w20 v) (fun s' _ => 8 - s'.1.toNat) ⟨0, rfl, by decide, fun r hr => (by cases hr), Fr.refl _⟩ ?_
  rintro D ⟨_, ⟨⟩⟩ v ⟨i, rfl, hi, hok, hf⟩
  dsimp -zeta only
  refine bD ?_ ?_ <;> intro hlt
  · have hi8 : i < (chkL p).length := by omega
    refine ixE (f := triV) (sz := 3) (fun _ => rfl) (s := ⟨some ⟨b, 0, none⟩, 8, 8⟩) (xs := chkL p) (Rd.below hrd hf) rfl hi8 (by decide) fun a hcell => ?_
    have hfw := hf20'.trans hf
    refine ⟨⟨triV (chkL p)[i], rfl⟩, fun j hj => hcell j _ (List.getElem?_eq_getElem hj), ?_⟩
    refine nwI fun c v1 hc hs1 hf1 hc1 hr1 => ?_
    have hz20 := hf20'.size
    have hzv := hf.size
    refine stL_row (cs := [.int .i64 0, .int .i64 0, .int .i64 0]) hc1 (by show 0 + 3 ≤ 3; decide) (fun x hx => by simp only [triV, List.mem_cons, List.not_mem_nil, or_false] at hx; rcases hx with rfl | rfl | rfl <;> rfl) fun v2 hc2 hg2 hs2 => ?_
    have hf2' : Fr w20 v2 := Mv.on (F := fun k => k = c) (hf.trans hf1) (Mv.of_grown hg2 rfl) fun j hj => by omega
    have hc3 : v2.heap[c]? = some (.cells (triV (chkL p)[i]).toArray t_3_int (0, 0)) := hc2
    generalize hrow : (chkL p)[i] = row at *
    have hmem : row ∈ chkL p := hrow ▸ List.getElem_mem hi8
    have bad : ¬(row.2.1 ≤ row.1 ∧ row.1 ≤ row.2.2) → ¬okPk p.src p.dst p.sport p.dport p.flags p.window p.probe p.origin s.n := fun h h' => h (((chkL_iff p s.n).1 h').1 row hmem)
    refine ixH (i := 0) hc3 (by decide) (by decide) (v := row.1) rfl ?_
    refine ixH (i := 1) hc3 (by decide) (by decide) (v := row.2.1) rfl ?_
    refine bD ?_ ?_ <;> intro h1
    · exact no (hf20'.trans hf2') (bad fun h => by omega)
    refine ixH (i := 0) hc3 (by decide) (by decide) (v := row.1) rfl ?_
    refine ixH (i := 2) hc3 (by decide) (by decide) (v := row.2.2) rfl ?_
    refine bD ?_ ?_ <;> intro h2
    · exact no (hf20'.trans hf2') (bad fun h => by omega)
    rw [i64w (by omega) (by omega)]
    refine ⟨⟨i + 1, by omega, by omega, fun r hr => ?_, hf2'⟩, by omega⟩
    rw [List.take_succ_eq_append_getElem hi8, List.mem_append, List.mem_singleton] at hr
    rcases hr with hr | hr
    · exact hok r hr
    · rw [hr, hrow]; omega
  · have e : i = 8 := by omega
    subst e
    have hok : ∀ r ∈ chkL p, r.2.1 ≤ r.1 ∧ r.1 ≤ r.2.2 := hok
    have hbv : PkB v a1 p s := (hf20.trans hf).heap hb
    have hfw := hf20'.trans hf
    refine ldI0 (n := p.src) hbv rfl (ldI0 (n := p.dst) hbv rfl ?_)
    refine bE ?_ ?_ <;> intro h1
    · exact no hfw fun h => ((chkL_iff p s.n).1 h).2.1 h1
    refine ldL0 (s := s) hbv rfl ?_
    refine bD ?_ ?_ <;> intro h2
    · exact no hfw fun h => by have := ((chkL_iff p s.n).1 h).2.2; omega
    · exact ⟨(if_pos ((chkL_iff p s.n).2 ⟨hok, h1, by omega⟩)).symm, hfw⟩
theorem u8b (n : Int) : Value.int .u8 (IntKind.u8.wrap n) = .int .u8 ((b8 n).toNat : Int) := by rw [u8w, b8_nat]
/-- A new row of bytes. -/
theorem nwB {w : World} {cs : List Value} {l : List UInt8} {K : Addr → World → Prop} (hcs : cs = u8s l) (hl : l.length ≤ 1000) (hk : ∀ b v, b = w.heap.size → OwB v w.heap.size t_uint8 ⟨some ⟨b, 0, none⟩, l.length, l.length⟩ l → Fr w v → K ⟨b, 0, none⟩ v) : nw w cs t_uint8 K := by
  subst hcs
  refine nwI fun b v hb hs hf hblk hr => hk b v hb ?_ hf
  refine ⟨by rw [u8s_length, Nat.mul_one], .inr ⟨b, l.length, (u8s l).toArray, rfl, by omega, hblk, Nat.le_refl _, ?_, ?_, ?_⟩⟩
  · simp only [maxLen]; omega
  · simp [u8s_length]
  · rw [Nat.mul_one, List.take_of_length_le (by simp [u8s_length])]
/-- A packet in a block, and a row of bytes that grows. -/
structure Cx (w : World) (a : Nat) (p : Pk) (s : Sl) (u : World) (y : Sl) (l : List UInt8) : Prop where
  pk : PkB u a p s
  fr : Fr w u
  own : OwB u w.heap.size t_uint8 y l
theorem Cx.to {a : Nat} {p : Pk} {s : Sl} {u v : World} {y : Sl} {l : List UInt8} (h : Cx w a p s u y l) (hf : Fr u v) : Cx w a p s v y l := ⟨hf.heap h.pk, h.fr.trans hf, h.own.fr hf⟩
theorem Cx.app {a : Nat} {p : Pk} {s : Sl} {u : World} {y x : Sl} {l m : List UInt8} (h : Cx w a p s u y l) (hx : Rd u x.a (u8s m)) (hm : m.length = x.n) (hl : l.length + m.length ≤ 140737488355328) {K : Sl → World → Prop} (hk : ∀ r v, Cx w a p s v r (l ++ m) → K r v) : app Tryz.prog t_s_uint8 t_s_uint8 y x u K := by
  refine app_B slB h.own hx hm hl h.fr.size fun r v ho hb hkeep _ => hk r v ⟨?_, h.fr.on hb, ho⟩
  show v.heap[a]? = _
  rw [hkeep a (Array.getElem?_eq_some_iff.1 h.pk).1 fun e => ?_]
  · exact h.pk
  · rw [ownB_slice'] at e
    cases hya : y.a with
    | none => rw [hya] at e; cases e
    | some ad => rw [hya] at e; exact own_neC h.own h.pk (by decide) hya (Option.some.inj e)
theorem Cx.appB {a : Nat} {p : Pk} {s : Sl} {u : World} {y x : Sl} {l m : List UInt8} {base : Nat} (h : Cx w a p s u y l) (hx : OwB u base t_uint8 x m) (hl : l.length + m.length ≤ 140737488355328) {K : Sl → World → Prop} (hk : ∀ r v, Cx w a p s v r (l ++ m) → K r v) : Go.Fl.app Tryz.prog t_s_uint8 t_s_uint8 y x u K :=
  h.app hx.rd hx.len.symm hl hk
theorem Cx.agr {a : Nat} {p : Pk} {s : Sl} {u v : World} {y : Sl} {l : List UInt8} {X : Nat → Prop} (h : Cx w a p s v y l) (_hu : PkB u a p s) (hX : ∀ k, X k → k = a) : Agr X u v := fun k o hk ho => by
  obtain rfl := hX k hk
  have h1 : u.heap[k]? = some (.cells (pkL p s).toArray t_api_Packet (0, 0)) := _hu
  have h2 : v.heap[k]? = some (.cells (pkL p s).toArray t_api_Packet (0, 0)) := h.pk
  rw [ho] at h1
  rw [h2, ← h1]
theorem rpPut_ok {p : Pk} {s : Sl} (hs : Bs w s p.data) (hq : p.q) : cl Tryz.prog n_flumeref04_Put #[pkV p s] (.tup (.pair .L (.pair (.I .i64) .nil))) w fun (r : Sl × Int × Unit) w' => OwB w' w.heap.size t_uint8 r.1 (putP p).1 ∧ r.2 = ((putP p).2, ()) ∧ Fr w w' := by
  refine flumeref04_Put.cl (p0 := pkT p s) ?_
  unfold flumeref04_Put
  have hsn := hs.len
  refine newPk p s fun a w2 ha hf2 hb2 => ?_
  refine ldPk hb2 ?_
  refine rpCheck_ok.mono ?_
  rintro _ w5 ⟨rfl, hf5⟩
  rw [hsn]
  by_cases hk : p.ok
  rotate_left
  · rw [show (if okPk p.src p.dst p.sport p.dport p.flags p.window p.probe p.origin p.data.length then (0 : Int) else 40) = 40 from if_neg hk]
    refine bT rfl ⟨?_, ?_, hf2.trans hf5⟩
    · rw [putP, if_neg hk]; exact OwB.nil _ _ _
    · rw [putP, if_neg hk]
  rw [show (if okPk p.src p.dst p.sport p.dport p.flags p.window p.probe p.origin p.data.length then (0 : Int) else 40) = 0 from if_pos hk]
  refine bF rfl ?_
  have ePut : putP p = (bytesP p, 0) := by rw [putP, if_pos hk]
  rw [ePut]
  obtain ⟨k1, k2, k3, k4, k5, k6, k7, k8, k9, k10⟩ := hk
  obtain ⟨q1, q2⟩ := hq
  have hz2 := hf2.size
  have hol := optP_len p
  have hX : ∀ k, k = a → k = a := fun k h => h
  intro j2
  have J2 : ∀ y u, Cx w a p s u y (if p.probe > 0 then [1, 10] ++ be4 (p.probe / 4294967296) ++ be4 p.probe else []) → j2 y u := by
    intro y u hy
    unfold j2
    intro j3
    have J3 : ∀ y u, Cx w a p s u y (optP p) → j3 y u := by
      intro y u hy
      unfold j3
      refine nwB (l := [0x46]) rfl (by decide) fun b v1 hb hv1 hf1 => ?_
      have c1 : Cx u a p s v1 ⟨some ⟨b, 0, none⟩, 1, 1⟩ [0x46] := ⟨hf1.heap hy.pk, hf1, hv1⟩
      rw [addOff, addOff]
      refine ldI0 (n := p.src) c1.pk rfl (ldI0 (n := p.dst) c1.pk rfl (ldI0 (n := p.flags) c1.pk rfl ?_))
      refine nwB (l := [b8 p.src, b8 p.dst, b8 p.flags]) (by rw [u8b, u8b, u8b]; rfl) (by show 3 ≤ 1000; decide) fun b2 v2 hb2 hv2 hf2 => ?_
      refine (c1.to hf2).appB hv2 (by simp) fun r3 v3 c3 => ?_
      intro n
      have c3 := c3.to (Fr.drewN v3 n)
      generalize v3.drewN n = v3 at *
      rw [addOff, addOff]
      refine ⟨(· = a), rfl, ldI0 (n := p.sport) c3.pk rfl ⟨rfl, ldI0 (n := p.dport) c3.pk rfl ?_⟩⟩
      refine (big_ok (k := 2) (by omega) (by decide)).mono ?_
      rintro x4 v4 ⟨o4, f4⟩
      have c4 := c3.to f4
      refine ⟨c4.agr c3.pk hX, c4.appB o4 (by simp [big_len]) fun r5 v5 c5 => ⟨c5.agr c4.pk hX, ?_⟩⟩
      refine (big_ok (k := 2) (by omega) (by decide)).mono ?_
      rintro x6 v6 ⟨o6, f6⟩
      refine (c5.to f6).appB o6 (by simp [big_len]) fun r7 v7 c7 => ?_
      intro n
      have c7 := c7.to (Fr.drewN v7 n)
      generalize v7.drewN n = v7 at *
      rw [addOff, addOff]
      refine ⟨(· = a), rfl, ldI0 (n := p.seq) c7.pk rfl ⟨rfl, ldI0 (n := p.ack) c7.pk rfl ?_⟩⟩
      rw [i64w (n := p.seq) (by omega) (by omega)]
      refine (big_ok (k := 4) (by omega) (by decide)).mono ?_
      rintro x8 v8 ⟨o8, f8⟩
      have c8 := c7.to f8
      refine ⟨c8.agr c7.pk hX, c8.appB o8 (by simp [big_len]) fun r9 v9 c9 => ⟨c9.agr c8.pk hX, ?_⟩⟩
      rw [i64w (n := p.ack) (by omega) (by omega)]
      refine (big_ok (k := 4) (by omega) (by decide)).mono ?_
      rintro x10 v10 ⟨o10, f10⟩
      refine (c9.to f10).appB o10 (by simp [big_len]) fun r11 v5 c5 => ?_
      rw [addOff]
      refine ldI0 (n := p.window) c5.pk rfl ?_
      refine (big_ok (k := 2) (by omega) (by decide)).mono ?_
      rintro x6 v6 ⟨o6, f6⟩
      refine (c5.to f6).appB o6 (by simp [big_len]) fun r7 v7 c7 => ?_
      have hfr : [0x46] ++ [b8 p.src, b8 p.dst, b8 p.flags] ++ bigL p.sport 2 ++ bigL p.dport 2 ++ bigL p.seq 4 ++ bigL p.ack 4 ++ bigL p.window 2 = frontP p := by rw [big4, big4]; rfl
      rw [hfr] at c7
      have fy7 : Fr u v7 := c7.fr
      have hyn := hy.own.len
      refine nwB (l := [b8 (optP p).length, 0]) (by rw [hyn, u8b]; rfl) (by show 2 ≤ 1000; decide) fun b8' v8 hb8 hv8 hf8 => ?_
      have c8 : Cx v7 a p s v8 ⟨some ⟨b8', 0, none⟩, 2, 2⟩ [b8 (optP p).length, 0] := ⟨hf8.heap c7.pk, hf8, hv8⟩
      have oy8 := hy.own.fr (fy7.trans hf8)
      refine c8.appB oy8 (by simp; omega) fun r9 v9 c9 => ?_
      rw [addOff]
      refine ldL0 (s := s) c9.pk rfl ?_
      have hs9 := hs.fr (hy.fr.trans (fy7.trans c9.fr))
      refine c9.app hs9.rd hs9.len.symm (by simp; omega) fun r10 v10 c10 => ?_
      have c10 : Cx v7 a p s v10 r10 (tailP p) := c10
      have o7 : OwB v10 u.heap.size t_uint8 r7 (frontP p) := c7.own.fr c10.fr
      refine copyB slB o7.bs (by rw [frontP_len]; decide) fun r11 v11 o11 f11 => ?_
      refine nwB (l := [0, 0]) rfl (by decide) fun b12 v12 hb12 hv12 hf12 => ?_
      have c12 : Cx v10 a p s v12 r11 (frontP p) := ⟨(f11.trans hf12).heap c10.pk, f11.trans hf12, o11.fr hf12⟩
      refine c12.appB hv12 (by rw [frontP_len]; simp) fun r13 v13 c13 => ?_
      have ht13 := c10.own.fr c13.fr
      have htl : (tailP p).length ≤ 200 := by unfold tailP; simp only [List.length_append, List.length_cons, List.length_nil]; omega
      refine c13.appB ht13 (by rw [List.length_append, frontP_len]; simp; omega) fun r14 v14 c14 => ?_
      refine nwI fun b15 v15 hb15 hs15 hf15 hblk15 _ => ?_
      refine (rInet_ok hblk15 (c14.own.fr hf15).bs (by simp only [List.length_append, frontP_len, List.length_cons, List.length_nil]; omega)).mono ?_
      rintro _ v16 ⟨rfl, hI, hf16⟩
      rw [i64w (by omega) (by omega)]
      refine (big_ok (k := 2) (by omega) (by decide)).mono ?_
      rintro x17 v17 ⟨o17, f17⟩
      have f10 : Fr v7 v17 := ((c10.fr.trans c14.fr).trans hf15).trans (hf16.trans f17)
      have c17 : Cx u a p s v17 r7 (frontP p) := c7.to f10
      have ht17 : OwB v17 v7.heap.size t_uint8 r10 (tailP p) := c10.own.fr ((c14.fr.trans hf15).trans (hf16.trans f17))
      have hlt7 := c7.own.own
      refine app_B slB c17.own o17.rd o17.len.symm (by rw [frontP_len, big_len]; decide) c17.fr.size fun r18 v18 o18 hb18 hk18 hat18 => ?_
      have ht18 : OwB v18 v7.heap.size t_uint8 r10 (tailP p) := by
        refine ht17.kp (S := fun k => ∀ ad, r7.a = some ad → ad.block ≠ k) (fun k hk hn => hk18 k hk fun e => ?_) fun ad had ad' had' => ?_
        · rw [ownB_slice'] at e
          cases h7 : r7.a with
          | none => rw [h7] at e; cases e
          | some ad => rw [h7] at e; exact hn ad h7 (Option.some.inj e)
        · have := (ht17.own ad had).1
          have := (hlt7 ad' had').2
          omega
      have hz18 := c17.fr.size
      refine app_B slB o18 ht18.rd ht18.len.symm (by rw [List.length_append, frontP_len, big_len]; omega) (by have := hb18.size; omega) fun r19 v19 o19 hb19 _ _ => ?_
      have hu := hy.fr.size
      refine ⟨?_, rfl, hy.fr.trans ((c17.fr.on hb18).on hb19)⟩
      have e : frontP p ++ bigL ((inetN (frontP p ++ [0, 0] ++ tailP p) : Nat) : Int) 2 ++ tailP p = bytesP p := rfl
      rw [← e]
      exact o19.mono hu
    clear_value j3
    rw [addOff]
    refine ldI0 (n := p.origin) hy.pk rfl ?_
    refine bNe ?_ ?_ <;> intro ho
    · have eo : optP p = (if p.probe > 0 then [1, 10] ++ be4 (p.probe / 4294967296) ++ be4 p.probe else []) ++ ([2, 4] ++ be2 p.origin) := by unfold optP; rw [if_pos (show p.origin > 0 by omega)]
      have hpl : (if p.probe > 0 then [1, 10] ++ be4 (p.probe / 4294967296) ++ be4 p.probe else [] : List UInt8).length ≤ 10 := by split <;> simp [be4]
      intro n
      have c := hy.to (Fr.drewN u n)
      generalize u.drewN n = u at *
      generalize hPP : (if p.probe > 0 then [1, 10] ++ be4 (p.probe / 4294967296) ++ be4 p.probe else [] : List UInt8) = PP at *
      refine ⟨(· = a), rfl, ldI0 (n := p.origin) c.pk rfl ?_⟩
      refine nwB (l := [2, 4]) rfl (by decide) fun b v hb ho hf => ?_
      have c2 := c.to hf
      refine ⟨c2.agr c.pk hX, c2.appB ho (by simp; omega) fun r3 v3 c3 => ⟨c3.agr c2.pk hX, ?_⟩⟩
      refine (big_ok (k := 2) (by omega) (by decide)).mono fun x v' ⟨o, f⟩ => ?_
      exact (c3.to f).appB o (by simp [big_len]; omega) fun r v'' c' => J3 r v'' (by rw [eo, ← List.append_assoc]; exact c')
    · have eo : optP p = (if p.probe > 0 then [1, 10] ++ be4 (p.probe / 4294967296) ++ be4 p.probe else []) := by unfold optP; rw [if_neg (show ¬p.origin > 0 by omega), List.append_nil]
      exact J3 y u (by rw [eo]; exact hy)
  clear_value j2
  have c0 : Cx w a p s w5 ⟨none, 0, 0⟩ [] := ⟨hf5.heap hb2, hf2.trans hf5, OwB.nil _ _ _⟩
  rw [addOff]
  refine ldI0 (n := p.probe) c0.pk rfl ?_
  refine bNe ?_ ?_ <;> intro ho
  · have eo : (if p.probe > 0 then [1, 10] ++ be4 (p.probe / 4294967296) ++ be4 p.probe else [] : List UInt8) = [] ++ [1, 10] ++ bigL p.probe 8 := by rw [if_pos (show p.probe > 0 by omega), big8, List.append_assoc]; rfl
    intro n
    have c := c0.to (Fr.drewN w5 n)
    generalize w5.drewN n = u at *
    refine ⟨(· = a), rfl, ldI0 (n := p.probe) c.pk rfl ?_⟩
    refine nwB (l := [1, 10]) rfl (by decide) fun b v hb ho hf => ?_
    have c2 := c.to hf
    refine ⟨c2.agr c.pk hX, c2.appB ho (by simp) fun r3 v3 c3 => ⟨c3.agr c2.pk hX, ?_⟩⟩
    refine (big_ok (k := 8) (by omega) (by decide)).mono fun x v' ⟨o, f⟩ => ?_
    exact (c3.to f).appB o (by simp [big_len]) fun r v'' c' => J2 r v'' (by rw [eo]; exact c')
  · exact J2 _ _ (by rw [if_neg (show ¬p.probe > 0 by omega)]; exact c0)
end
end Go.Proofs.YtoglafmpllimgaaGreatDoor
