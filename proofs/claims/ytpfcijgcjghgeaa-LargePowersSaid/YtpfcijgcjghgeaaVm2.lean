/- The machine over pure values and the model's world: when the one stands for the other; that this stays so. (Own work of this repo.) -/
import Derived.Test.YtpfcijgcjghgeaaVm1
import Derived.Laws.World
import Derived.Laws.Sem
set_option linter.unusedVariables false
set_option linter.unusedSimpArgs false
namespace Vm
open Go

structure Cx where
  H : Heap
  /-- where a row of the heap lies in the world -/
  at_ : Nat → Nat
  /-- blocks that stand outside: of the callers' heaps -/
  F : Nat → Prop
  /-- numbers that have been given -/
  B : Nat → Prop
  w : World

def Cx.own (C : Cx) (b : Nat) : Prop := ∃ i blk, C.H i = some blk ∧ blk.fz = false ∧ C.at_ i = b
def Cx.wr (C : Cx) (b : Nat) : Prop := C.F b ∨ C.own b

inductive Rep (C : Cx) : Value → AV → Prop
  | int (k n) : Rep C (.int k n) (.int k n)
  | bool (b) : Rep C (.bool b) (.bool b)
  | str (s) : Rep C (.string s) (.str s)
  | lnil : Rep C (.slice none 0 0) (.lst true [])
  | lst (a : Addr) (cap esz : Nat) (xs : List AV) (u : Nat → Nat → Value) (hc : xs.length ≤ cap) (hz : ∀ x ∈ xs, x.cells.length = esz)
      (hm : xs ≠ [] → a.spot = none ∧ a.block < C.w.heap.size ∧ ¬ C.wr a.block)
      (hu : ∀ (i : Nat) (x : AV), xs[i]? = some x → ∀ (j : Nat) (c : AV), x.cells[j]? = some c → C.w.cell? ⟨a.block, a.off + (i * esz + j), none⟩ = some (u i j))
      (ho : ∀ (i : Nat) (x : AV), xs[i]? = some x → ∀ (j : Nat) (c : AV), x.cells[j]? = some c → (u i j).oneCell' = true)
      (hr : ∀ (i : Nat) (x : AV), xs[i]? = some x → ∀ (j : Nat) (c : AV), x.cells[j]? = some c → Rep C (u i j) c) : Rep C (.slice (some a) xs.length cap) (.lst false xs)
  | ref (v : Value) (id off len : Nat) (h1 : v.oneCell' = true) (hB : C.B id)
      (h : ∀ blk, C.H id = some blk → ∃ cap, v = .slice (some ⟨C.at_ id, off, none⟩) len cap ∧ len ≤ cap ∧ ∃ cs t fz, C.w.heap[C.at_ id]? = some (.cells cs t fz) ∧ off + cap * blk.esz ≤ cs.size) : Rep C v (.ref id off len)
  | ptr (v : Value) (id off : Nat) (h1 : v.oneCell' = true) (hB : C.B id) (h : ∀ blk, C.H id = some blk → v = .pointer (some ⟨C.at_ id, off, none⟩)) : Rep C v (.ptr id off)
  | imm (a : Addr) (cs : List AV) (u : Nat → Value) (hm : cs ≠ [] → a.spot = none ∧ a.block < C.w.heap.size ∧ ¬ C.wr a.block)
      (hu : ∀ (j : Nat) (c : AV), cs[j]? = some c → C.w.cell? ⟨a.block, a.off + j, none⟩ = some (u j)) (hr : ∀ (j : Nat) (c : AV), cs[j]? = some c → Rep C (u j) c) : Rep C (.pointer (some a)) (.imm cs)
  | nilp : Rep C (.pointer none) .nilp
  | fn (f) (fi ca : Array Value) (l m : List AV) (h1 : fi.size = l.length) (h2 : ca.size = m.length) (r1 : ∀ (j : Nat) (v : Value) (x : AV), fi[j]? = some v → l[j]? = some x → Rep C v x)
      (r2 : ∀ (j : Nat) (v : Value) (x : AV), ca[j]? = some v → m[j]? = some x → Rep C v x) : Rep C (.func (.func f) fi ca) (.fn f l m)
  | nilf : Rep C .nilFunc .nilf
  | iface (t) (v : Value) (x : AV) (h : Rep C v x) : Rep C (.iface t v) (.iface t x)
  | nili : Rep C .nilIface .nili
  | agg (vs : Array Value) (cs : List AV) (h : vs.size = cs.length) (r : ∀ (j : Nat) (v : Value) (x : AV), vs[j]? = some v → cs[j]? = some x → Rep C v x) : Rep C (.agg vs) (.agg cs)
  | tup (vs : Array Value) (cs : List AV) (h : vs.size = cs.length) (r : ∀ (j : Nat) (v : Value) (x : AV), vs[j]? = some v → cs[j]? = some x → Rep C v x) : Rep C (.tuple vs) (.tup cs)

/-- What the machine's own steps leave alone. -/
def Alike (w w' : World) : Prop := w'.os = w.os ∧ w'.tape = w.tape ∧ w'.output = w.output
/-- What stays when the world goes on. -/
structure Cx.Le (C C' : Cx) : Prop where
  mem : ∀ b, b < C.w.heap.size → ¬ C.own b → C'.w.heap[b]? = C.w.heap[b]?
  owns : ∀ b, b < C.w.heap.size → C'.own b → C.own b
  out : C'.F = C.F
  live : ∀ i blk', C.B i → C'.H i = some blk' → ∃ blk, C.H i = some blk ∧ blk.esz = blk'.esz ∧ C'.at_ i = C.at_ i
  born : ∀ i, C.B i → C'.B i
  shape : ∀ (b : Nat) (cs : Array Value) (t : TypeId) (fz : Nat × Nat), C.w.heap[b]? = some (Obj.cells cs t fz) → ∃ cs' : Array Value, C'.w.heap[b]? = some (Obj.cells cs' t fz) ∧ cs'.size = cs.size
  size : C.w.heap.size ≤ C'.w.heap.size
  env : Alike C.w C'.w

theorem Cx.Le.refl (C : Cx) : C.Le C := ⟨fun _ _ _ => rfl, fun _ _ h => h, rfl, fun _ b _ h => ⟨b, h, rfl, rfl⟩, fun _ h => h, fun _ cs _ _ h => ⟨cs, h, rfl⟩, Nat.le_refl _, rfl, rfl, rfl⟩

theorem cell_congr {w w' : World} {b : Nat} (h : w'.heap[b]? = w.heap[b]?) (o : Nat) : w'.cell? ⟨b, o, none⟩ = w.cell? ⟨b, o, none⟩ := by
  simp only [World.cell?, h]

theorem Cx.Le.wr {C C' : Cx} (h : C.Le C') : ∀ b, b < C.w.heap.size → C'.wr b → C.wr b := fun b hb hw => by
  rcases hw with hF | hO
  · exact .inl (by rw [← h.out]; exact hF)
  · exact .inr (h.owns b hb hO)
theorem Cx.wr_own {C : Cx} {b : Nat} (h : ¬ C.wr b) : ¬ C.own b := fun g => h (.inr g)

/-- Both ways on: of values without addresses it is asked only what may be written. -/
theorem Rep.on {C C' : Cx} (mem : ∀ b, b < C.w.heap.size → ¬ C.wr b → C'.w.heap[b]? = C.w.heap[b]?) (hwr : ∀ b, b < C.w.heap.size → C'.wr b → C.wr b) (size : C.w.heap.size ≤ C'.w.heap.size)
    (ids : Prop) (live : ids → ∀ i blk', C.B i → C'.H i = some blk' → ∃ blk, C.H i = some blk ∧ blk.esz = blk'.esz ∧ C'.at_ i = C.at_ i) (born : ids → ∀ i, C.B i → C'.B i)
    (shape : ids → ∀ (b : Nat) (cs : Array Value) (t : TypeId) (fz : Nat × Nat), C.w.heap[b]? = some (Obj.cells cs t fz) → ∃ cs' : Array Value, C'.w.heap[b]? = some (Obj.cells cs' t fz) ∧ cs'.size = cs.size)
    {v : Value} {x : AV} (h : Rep C v x) (hp : ids ∨ x.pure = true) : Rep C' v x := by
  have pl : ∀ (l : List AV), AV.pureL l = true → ∀ x ∈ l, x.pure = true := by
    intro l
    induction l with
    | nil => intro _ x hx; cases hx
    | cons y ys ih =>
      intro h x hx
      simp only [AV.pureL, Bool.and_eq_true] at h
      rcases List.mem_cons.1 hx with rfl | hx
      · exact h.1
      · exact ih h.2 x hx
  have pc : ∀ (x c : AV), x.pure = true → c ∈ x.cells → c.pure = true := by
    intro x c hx hc
    cases x with
    | agg cs => simp only [AV.pure] at hx; exact pl _ hx c hc
    | _ => simp only [AV.cells, List.mem_singleton] at hc; subst hc; exact hx
  induction h with
  | int k n => exact .int k n
  | bool b => exact .bool b
  | str s => exact .str s
  | lnil => exact .lnil
  | lst a cap esz xs u hc hz hm hu ho hr ih =>
    refine .lst a cap esz xs u hc hz (fun hne => ?_) (fun i x hx j c hj => ?_) ho (fun i x hx j c hj => ih i x hx j c hj ?_)
    · obtain ⟨h1, h2, h3⟩ := hm hne
      exact ⟨h1, Nat.lt_of_lt_of_le h2 size, fun h => h3 (hwr _ h2 h)⟩
    · have hne : xs ≠ [] := by intro e; rw [e] at hx; simp at hx
      obtain ⟨h1, h2, h3⟩ := hm hne
      rw [cell_congr (mem _ h2 h3)]
      exact hu i x hx j c hj
    · rcases hp with hp | hp
      · exact .inl hp
      · simp only [AV.pure] at hp
        exact .inr (pc x c (pl _ hp x (List.mem_of_getElem? hx)) (List.mem_of_getElem? hj))
  | ref v id off len h1 hB h =>
    rcases hp with hp | hp
    · refine .ref v id off len h1 (born hp _ hB) fun blk' hb' => ?_
      obtain ⟨blk, hb, he, ha⟩ := live hp id blk' hB hb'
      obtain ⟨cap, hv, hl, cs, t, fz, hh, hs⟩ := h blk hb
      obtain ⟨cs', hh', hs'⟩ := shape hp _ cs t fz hh
      exact ⟨cap, by rw [ha]; exact hv, hl, cs', t, fz, by rw [ha]; exact hh', by rw [hs', ← he]; exact hs⟩
    · simp [AV.pure] at hp
  | ptr v id off h1 hB h =>
    rcases hp with hp | hp
    · refine .ptr v id off h1 (born hp _ hB) fun blk' hb' => ?_
      obtain ⟨blk, hb, _, ha⟩ := live hp id blk' hB hb'
      rw [ha]
      exact h blk hb
    · simp [AV.pure] at hp
  | imm a cs u hm hu hr ih =>
    refine .imm a cs u (fun hne => ?_) (fun j c hj => ?_) (fun j c hj => ih j c hj ?_)
    · obtain ⟨h1, h2, h3⟩ := hm hne
      exact ⟨h1, Nat.lt_of_lt_of_le h2 size, fun h => h3 (hwr _ h2 h)⟩
    · have hne : cs ≠ [] := by intro e; rw [e] at hj; simp at hj
      obtain ⟨h1, h2, h3⟩ := hm hne
      rw [cell_congr (mem _ h2 h3)]
      exact hu j c hj
    · rcases hp with hp | hp
      · exact .inl hp
      · simp only [AV.pure] at hp
        exact .inr (pl _ hp c (List.mem_of_getElem? hj))
  | nilp => exact .nilp
  | fn f fi ca l m h1 h2 r1 r2 ih1 ih2 =>
    refine .fn f fi ca l m h1 h2 (fun j v x hv hx => ih1 j v x hv hx ?_) (fun j v x hv hx => ih2 j v x hv hx ?_)
    · rcases hp with hp | hp
      · exact .inl hp
      · simp only [AV.pure, Bool.and_eq_true] at hp; exact .inr (pl _ hp.1 x (List.mem_of_getElem? hx))
    · rcases hp with hp | hp
      · exact .inl hp
      · simp only [AV.pure, Bool.and_eq_true] at hp; exact .inr (pl _ hp.2 x (List.mem_of_getElem? hx))
  | nilf => exact .nilf
  | iface t v x h ih =>
    refine .iface t v x (ih ?_)
    rcases hp with hp | hp
    · exact .inl hp
    · simp only [AV.pure] at hp; exact .inr hp
  | nili => exact .nili
  | agg vs cs h r ih =>
    refine .agg vs cs h fun j v x hv hx => ih j v x hv hx ?_
    rcases hp with hp | hp
    · exact .inl hp
    · simp only [AV.pure] at hp; exact .inr (pl _ hp x (List.mem_of_getElem? hx))
  | tup vs cs h r ih =>
    refine .tup vs cs h fun j v x hv hx => ih j v x hv hx ?_
    rcases hp with hp | hp
    · exact .inl hp
    · simp only [AV.pure] at hp; exact .inr (pl _ hp x (List.mem_of_getElem? hx))

theorem Rep.le {C C' : Cx} (h : C.Le C') {v : Value} {x : AV} (r : Rep C v x) : Rep C' v x :=
  Rep.on (fun b hb hm => h.mem b hb (Cx.wr_own hm)) h.wr h.size True (fun _ => h.live) (fun _ => h.born) (fun _ => h.shape) r (.inl trivial)
theorem Rep.pureOn {C C' : Cx} (mem : ∀ b, b < C.w.heap.size → ¬ C.wr b → C'.w.heap[b]? = C.w.heap[b]?) (hwr : ∀ b, b < C.w.heap.size → C'.wr b → C.wr b) (size : C.w.heap.size ≤ C'.w.heap.size)
    {v : Value} {x : AV} (r : Rep C v x) (hp : x.pure = true) : Rep C' v x :=
  Rep.on mem hwr size False (fun h => h.elim) (fun h => h.elim) (fun h => h.elim) r (.inr hp)

theorem Cx.Le.trans {A B C : Cx} (h : A.Le B) (g : B.Le C) : A.Le C where
  mem b hb ho := by rw [g.mem b (Nat.lt_of_lt_of_le hb h.size) (fun hB => ho (h.owns b hb hB)), h.mem b hb ho]
  owns b hb hm := h.owns b hb (g.owns b (Nat.lt_of_lt_of_le hb h.size) hm)
  out := g.out.trans h.out
  live i blk' hB hC := by
    obtain ⟨b2, h2, e2, a2⟩ := g.live i blk' (h.born i hB) hC
    obtain ⟨b1, h1, e1, a1⟩ := h.live i b2 hB h2
    exact ⟨b1, h1, e1.trans e2, a2.trans a1⟩
  born i hB := g.born i (h.born i hB)
  shape b cs t fz hc := by
    obtain ⟨c1, h1, s1⟩ := h.shape b cs t fz hc
    obtain ⟨c2, h2, s2⟩ := g.shape b c1 t fz h1
    exact ⟨c2, h2, s2.trans s1⟩
  size := Nat.le_trans h.size g.size
  env := ⟨g.env.1.trans h.env.1, g.env.2.1.trans h.env.2.1, g.env.2.2.trans h.env.2.2⟩

/-- The machine's heap lies in the world. -/
structure Cx.Ok (C : Cx) : Prop where
  inj : ∀ i j bi bj, C.H i = some bi → C.H j = some bj → C.at_ i = C.at_ j → i = j
  nF : ∀ i b, C.H i = some b → ¬ C.F (C.at_ i)
  born : ∀ i b, C.H i = some b → C.B i
  blk : ∀ i b, C.H i = some b → ∃ cs t, C.w.heap[C.at_ i]? = some (.cells cs t (0, 0)) ∧ b.cells.length ≤ cs.size ∧ ∀ (j : Nat) (c : AV), b.cells[j]? = some c → ∃ v, cs[j]? = some v ∧ Rep C v c ∧ v.oneCell' = true
  Fsz : ∀ b, C.F b → b < C.w.heap.size
theorem Cx.Ok.lt {C : Cx} (h : C.Ok) {i : Nat} {b : Blk} (hb : C.H i = some b) : C.at_ i < C.w.heap.size := by
  obtain ⟨cs, t, hh, _⟩ := h.blk i b hb
  exact (Array.getElem?_eq_some_iff.1 hh).1
end Vm
