/- Part 7 of a proof about this seat: Kt3, Awake5, Fit5, Fit6, Trn, Sca, Eac, Tak, Tk2, Euc1, Swp, Scn, Rwo, Red, Cpy. (Own work of this repo.) -/
import Derived.Test.YtnpomadbaanpkaaZLinearAll6
set_option linter.unusedVariables false
set_option linter.unusedSimpArgs false
/- Small runs of chapter 5. (Own work of this repo.) -/
namespace Go.Proofs.Ytnpomadbaanpkaa
open Vm
set_option maxRecDepth 1000000
theorem ki24 : denP E 46 [.lst false [.int .i64 2, .int .i64 4]] = some (.ret (.lst false [I false 2, I false 4])) := denP_ker 600 (by kernel_rfl)
theorem ki3 : denP E 46 [.lst false [.int .i64 3]] = some (.ret (.lst false [I false 3])) := denP_ker 600 (by kernel_rfl)
theorem ki1 : denP E 46 [.lst false [.int .i64 1]] = some (.ret (.lst false [I false 1])) := denP_ker 600 (by kernel_rfl)
theorem ki0 : denP E 46 [.lst false [.int .i64 0]] = some (.ret (.lst false [I false 0])) := denP_ker 600 (by kernel_rfl)
theorem ki35 : denP E 46 [.lst false [.int .i64 3, .int .i64 5]] = some (.ret (.lst false [I false 3, I false 5])) := denP_ker 600 (by kernel_rfl)
theorem ki21 : denP E 46 [.lst false [.int .i64 2, .int .i64 (-1)]] = some (.ret (.lst false [I false 2, I false (-1)])) := denP_ker 600 (by kernel_rfl)
theorem kref : denP E 10 [.lst false [.lst false [I false 2, I false 4]], .lst false [I false 3], .lst false [I false 1], I false 2] = some (.ret (.tup [.bool true, .int .i64 0])) := denP_ker 600 (by kernel_rfl)
theorem khol : denP E 9 [.lst false [.lst false [I false 3, I false 5]], .lst false [I false 1], .lst false [I false 2, I false (-1)]] = some (.ret (.tup [.bool true, .int .i64 0])) := denP_ker 600 (by kernel_rfl)
theorem ktim : denP E 24 [.lst false [.lst false [I false 3, I false 5]], .lst false [I false (-5), I false 3]] = some (.ret (.lst false [I true 0])) := denP_ker 600 (by kernel_rfl)
theorem ksam : denP E 26 [.lst false [I true 0], .lst false [I false 0]] = some (.ret (.bool true)) := denP_ker 600 (by kernel_rfl)
end Go.Proofs.Ytnpomadbaanpkaa

/- The examples of chapter 5 hold. (Own work of this repo.) -/
namespace Go.Proofs.Ytnpomadbaanpkaa
open Vm
set_option maxRecDepth 10000

theorem purify_I {n : Nat} {H : Heap} {f : Bool} {z : Int} : purify (n + 2) H (I f z) = some (I f z, []) := by
  simp only [purify_agg, mapL_cons, mapL_nil, purify_bool, purify_wd, List.append_nil]
set_option maxHeartbeats 4000000 in
theorem awake5 : denP E 15 [] = some (.ret (.bool true)) := by
  refine denP_eq E15 rfl rfl ?_
  have k1 := kt1
  have k2 := kt2
  have r1 := ki24
  have r2 := ki3
  have r3 := ki1
  have r4 := ki0
  have r5 := ki35
  have r6 := ki21
  have q1 := kref
  have q2 := khol
  have q3 := ktim
  have q4 := ksam
  have o2 := of_spec 2 (by decide) (by decide)
  have pl1 : ∀ (n : Nat) (H : Heap) (f : Bool) (x : Int), purify (n + 1) H (.lst false [I f x]) = some (.lst false [I f x], []) := fun n H f x => purify_lst (by simp [AV.pureL, AV.pure, pure_wd])
  have pl2 : ∀ (n : Nat) (H : Heap) (f g : Bool) (x y : Int), purify (n + 1) H (.lst false [I f x, I g y]) = some (.lst false [I f x, I g y], []) := fun n H f g x y => purify_lst (by simp [AV.pureL, AV.pure, pure_wd])
  simp (maxSteps := 4000000) only [go_sem, seval, ↓reduceIte, reduceCtorEq, Try.f15, reps, places, fillAll, refP, elems, List.headD_cons, r1, r2, r3, r4, r5, r6, pl1, pl2, k1, k2, q1, q2, o2]
  refine W_drawn ?_
  simp (maxSteps := 4000000) only [go_sem, seval, ↓reduceIte, reduceCtorEq, reps, places, fillAll, refP, elems, List.headD_cons, r4, r5, pl1, pl2, q3, q4, Int.reduceEq, if_pos]
  rfl
end Go.Proofs.Ytnpomadbaanpkaa

/- What lists are, as arguments. (Own work of this repo.) -/
namespace Go.Proofs.Ytnpomadbaanpkaa
open Vm
set_option maxRecDepth 10000

/-- A list out of parts that are each of a kind. -/
theorem list_of {α : Type} {f : α → AV} {P : α → Prop} : ∀ (xs : List AV), (∀ x ∈ xs, ∃ a, x = f a ∧ P a) → ∃ l : List α, xs = l.map f ∧ ∀ a ∈ l, P a
  | [], _ => ⟨[], rfl, by simp⟩
  | x :: xs, h => by
    obtain ⟨a, rfl, ha⟩ := h x (by simp)
    obtain ⟨l, rfl, hl⟩ := list_of xs fun y hy => h y (by simp [hy])
    exact ⟨a :: l, rfl, by simpa using ⟨ha, hl⟩⟩
theorem fit_list {m : Nat} {cs : List AV} {t : Nat} (ht : E.T t = some ⟨1, 24, false, .lst true [], .slice 26⟩) (h : Fit E (m + 4) t cs) : ∃ (nl : Bool) (L : List Raw), cs = [lraw nl L] ∧ Short L ∧ (∀ q ∈ L, InR q.2.2) ∧ (nl = true → L = []) := by
  rw [Fit, ht] at h
  obtain ⟨_, h⟩ := h
  simp only [FitD, opn_eq, T1, T2, T3, T4, T5, T6, T9, T10, T11, T12, T15, T16, T17, T20, T21, T22, T23, T24, T25, T26, T27, T28, T29, T31, T32, T34, T35, T37, T38, T39, T40, T41, T42, T43, T44, T45, T46, T47, T48, T49, T50, T51, T52, T53, T54, T56, T57, T59, T60, T61, T62, T63, T64, T65, T66, T67, T69, T70, T71, T72, T73, T74, T75, T76, T77, T78, T80, T81, T82, T83, T84, T85, T86, T88, T89, T90, T91, T92, T93, T94, T95, T96, T98, T99, T100, T101, T102, T103, T104, T106, T107, T108, T109, T110, T111, T112, T113, T115, T116, T117, T118, T119, T120, T122, T123, T125, T126, T127, T128, T129, T131, T132, T133, T134, T135, T136, T137, T140, T143, T144, T145, T146, T147, T148, T149] at h
  rcases h with rfl | ⟨xs, rfl, hl, hx⟩
  · exact ⟨true, [], rfl, ⟨by decide, by simp⟩, by simp, fun _ => rfl⟩
  · obtain ⟨L, rfl, hL⟩ := list_of (f := ivr) (P := fun q : Raw => InR q.2.2 ∧ q.2.2.length ≤ maxLen) xs fun x hx0 => by
      obtain ⟨cs, rfl, _, hf⟩ := hx x hx0
      obtain ⟨q, rfl, h1, _, h3⟩ := fit_raw (m := m) hf
      exact ⟨q, rfl, h1, h3⟩
    refine ⟨false, L, rfl, ⟨?_, fun q hq => ?_⟩, fun q hq => (hL q hq).1, by simp⟩
    · rw [List.length_map] at hl; unfold maxLen at hl; omega
    · have := (hL q hq).2; unfold maxLen at this; omega
theorem fit_mat {m : Nat} {cs : List AV} {t u : Nat} (hu : E.T u = some ⟨1, 24, false, .lst true [], .slice 26⟩) (ht : E.T t = some ⟨1, 24, false, .lst true [], .slice u⟩) (h : Fit E (m + 5) t cs) : ∃ (nl : Bool) (A : Mat), cs = [mraw nl A] ∧ ShortM A ∧ (∀ r ∈ A, ∀ q ∈ r.2, InR q.2.2) := by
  rw [Fit, ht] at h
  obtain ⟨_, h⟩ := h
  simp only [FitD, hu] at h
  rcases h with rfl | ⟨xs, rfl, hl, hx⟩
  · exact ⟨true, [], rfl, ⟨by decide, by simp⟩, by simp⟩
  · obtain ⟨L, rfl, hL⟩ := list_of (f := lr) (P := fun r : Bool × List Raw => Short r.2 ∧ ∀ q ∈ r.2, InR q.2.2) xs fun x hx0 => by
      obtain ⟨cs, rfl, _, hf⟩ := hx x hx0
      obtain ⟨nl, L, rfl, h1, h2, _⟩ := fit_list (m := m) hu hf
      exact ⟨(nl, L), rfl, h1, h2⟩
    refine ⟨false, L, rfl, ⟨?_, fun r hr => (hL r hr).1⟩, fun r hr => (hL r hr).2⟩
    rw [List.length_map] at hl; unfold maxLen at hl; omega
end Go.Proofs.Ytnpomadbaanpkaa

/- What lists of lists are, as arguments, with what 'nil' means. (Own work of this repo.) -/
namespace Go.Proofs.Ytnpomadbaanpkaa
open Vm
set_option maxRecDepth 10000

theorem fit_listN {m : Nat} {cs : List AV} {t : Nat} (ht : E.T t = some ⟨1, 24, false, .lst true [], .slice 26⟩) (h : Fit E (m + 4) t cs) : ∃ (nl : Bool) (L : List Raw), cs = [lraw nl L] ∧ Short L ∧ (∀ q ∈ L, InR q.2.2) ∧ ∀ q ∈ L, q.2.1 = true → q.2.2 = [] := by
  rw [Fit, ht] at h
  obtain ⟨_, h⟩ := h
  simp only [FitD, opn_eq, T1, T2, T3, T4, T5, T6, T9, T10, T11, T12, T15, T16, T17, T20, T21, T22, T23, T24, T25, T26, T27, T28, T29, T31, T32, T34, T35, T37, T38, T39, T40, T41, T42, T43, T44, T45, T46, T47, T48, T49, T50, T51, T52, T53, T54, T56, T57, T59, T60, T61, T62, T63, T64, T65, T66, T67, T69, T70, T71, T72, T73, T74, T75, T76, T77, T78, T80, T81, T82, T83, T84, T85, T86, T88, T89, T90, T91, T92, T93, T94, T95, T96, T98, T99, T100, T101, T102, T103, T104, T106, T107, T108, T109, T110, T111, T112, T113, T115, T116, T117, T118, T119, T120, T122, T123, T125, T126, T127, T128, T129, T131, T132, T133, T134, T135, T136, T137, T140, T143, T144, T145, T146, T147, T148, T149] at h
  rcases h with rfl | ⟨xs, rfl, hl, hx⟩
  · exact ⟨true, [], rfl, ⟨by decide, by simp⟩, by simp, by simp⟩
  · obtain ⟨L, rfl, hL⟩ := list_of (f := ivr) (P := fun q : Raw => InR q.2.2 ∧ q.2.2.length ≤ maxLen ∧ (q.2.1 = true → q.2.2 = [])) xs fun x hx0 => by
      obtain ⟨cs, rfl, _, hf⟩ := hx x hx0
      obtain ⟨q, rfl, h1, h2, h3⟩ := fit_raw (m := m) hf
      exact ⟨q, rfl, h1, h3, h2⟩
    refine ⟨false, L, rfl, ⟨?_, fun q hq => ?_⟩, fun q hq => (hL q hq).1, fun q hq => (hL q hq).2.2⟩
    · rw [List.length_map] at hl; unfold maxLen at hl; omega
    · have := (hL q hq).2.1; unfold maxLen at this; omega
theorem fit_matN {m : Nat} {cs : List AV} {t u : Nat} (hu : E.T u = some ⟨1, 24, false, .lst true [], .slice 26⟩) (ht : E.T t = some ⟨1, 24, false, .lst true [], .slice u⟩) (h : Fit E (m + 5) t cs) : ∃ (nl : Bool) (A : Mat), cs = [mraw nl A] ∧ ShortM A ∧ (∀ r ∈ A, ∀ q ∈ r.2, InR q.2.2) ∧ ∀ r ∈ A, ∀ q ∈ r.2, q.2.1 = true → q.2.2 = [] := by
  rw [Fit, ht] at h
  obtain ⟨_, h⟩ := h
  simp only [FitD, hu] at h
  rcases h with rfl | ⟨xs, rfl, hl, hx⟩
  · exact ⟨true, [], rfl, ⟨by decide, by simp⟩, by simp, by simp⟩
  · obtain ⟨L, rfl, hL⟩ := list_of (f := lr) (P := fun r : Bool × List Raw => Short r.2 ∧ (∀ q ∈ r.2, InR q.2.2) ∧ ∀ q ∈ r.2, q.2.1 = true → q.2.2 = []) xs fun x hx0 => by
      obtain ⟨cs, rfl, _, hf⟩ := hx x hx0
      obtain ⟨nl, L, rfl, h1, h2, h3⟩ := fit_listN (m := m) hu hf
      exact ⟨(nl, L), rfl, h1, h2, h3⟩
    refine ⟨false, L, rfl, ⟨?_, fun r hr => (hL r hr).1⟩, fun r hr => (hL r hr).2.1, fun r hr => (hL r hr).2.2⟩
    rw [List.length_map] at hl; unfold maxLen at hl; omega
end Go.Proofs.Ytnpomadbaanpkaa

/- Walks: rows and columns exchanged. (Own work of this repo.) -/
namespace Go.Proofs.Ytnpomadbaanpkaa
open Vm
set_option maxRecDepth 10000

theorem reps_range (z : AV) : ∀ n, reps n [z] = (List.range n).map fun _ => z := by
  intro n
  rw [List.map_const', List.length_range]
  induction n with
  | zero => rfl
  | succ n ih => show [z] ++ reps n [z] = _; rw [ih]; rfl
theorem range_set {f : Nat → AV} {w k : Nat} {x : AV} : ((List.range w).map f).set k x = (List.range w).map fun j => if j = k then x else f j := by
  refine List.ext_getElem? fun i => ?_
  rw [List.getElem?_set, List.getElem?_map, List.getElem?_map]
  by_cases h : k = i
  · subst h
    rw [if_pos rfl]
    by_cases hw : k < w
    · rw [if_pos (by simpa using hw), List.getElem?_range hw]; simp
    · rw [if_neg (by simpa using hw), List.getElem?_eq_none (by simpa using hw)]; rfl
  · rw [if_neg h]
    by_cases hw : i < w
    · rw [List.getElem?_range hw]; simp [show ¬ i = k from fun e => h e.symm]
    · rw [List.getElem?_eq_none (by simpa using hw)]; rfl
theorem range_get {f : Nat → AV} {w k : Nat} (h : k < w) : ((List.range w).map f)[k]? = some (f k) := by
  rw [List.getElem?_map, List.getElem?_range h]; rfl
/-- A column that grows. -/
def colv (ids : Nat → Nat) (L : Nat → List Raw) (k : Nat) : AV := if (L k).length = 0 then .lst true [] else .ref (ids k) 0 (L k).length
structure CI (h : Heap) (nx c w lo : Nat) (ids : Nat → Nat) (L : Nat → List Raw) : Prop where
  row : h c = some ⟨(List.range w).map (colv ids L), false, 1, false⟩
  cl : lo ≤ c ∧ c < nx
  col : ∀ k, k < w → (L k).length ≠ 0 → lo ≤ ids k ∧ ids k < nx ∧ ids k ≠ c ∧ h (ids k) = some ⟨fr (L k), true, 2, false⟩
  inj : ∀ k k', k < w → k' < w → k ≠ k' → (L k).length ≠ 0 → (L k').length ≠ 0 → ids k ≠ ids k'
/-- A column takes a number. -/
theorem CI.push {h h' : Heap} {nx c w lo : Nat} {ids : Nat → Nat} {L : Nat → List Raw} (hI : CI h nx c w lo ids L) {k : Nat} (hk : k < w) {q : Raw} {id nx' : Nat} (h1 : nx ≤ id) (h2 : id < nx') (hc : h' c = some ⟨((List.range w).map (colv ids L)).set k (.ref id 0 ((L k).length + 1)), false, 1, false⟩)
    (hid : h' id = some ⟨fr (L k ++ [q]), true, 2, false⟩) (hot : ∀ i, lo ≤ i → i < nx → i ≠ c → i ≠ ids k ∨ (L k).length = 0 → h' i = h i) : CI h' nx' c w lo (fun j => if j = k then id else ids j) (fun j => if j = k then L k ++ [q] else L j) := by
  have hcl := hI.cl
  refine ⟨?_, by omega, fun j hj hl => ?_, fun j j' hj hj' hne hl hl' => ?_⟩
  · rw [hc, range_set]
    congr 2
    refine List.map_congr_left fun j _ => ?_
    unfold colv
    by_cases e : j = k
    · simp [e]
    · simp [e]
  · try dsimp only at hl ⊢
    by_cases e : j = k
    · rw [if_pos e, if_pos e]
      exact ⟨by omega, h2, by omega, hid⟩
    · rw [if_neg e] at hl ⊢
      rw [if_neg e]
      obtain ⟨g1, g2, g3, g4⟩ := hI.col j hj hl
      refine ⟨g1, by omega, g3, ?_⟩
      rw [hot (ids j) g1 g2 g3 ?_]
      · exact g4
      · by_cases hz : (L k).length = 0
        · exact .inr hz
        · exact .inl (hI.inj j k hj hk e hl hz)
  · try dsimp only at hl hl' ⊢
    by_cases e : j = k
    · have e' : ¬ j' = k := fun h => hne (e.trans h.symm)
      rw [if_pos e, if_neg e']
      rw [if_neg e'] at hl'
      have := hI.col j' hj' hl'
      omega
    · rw [if_neg e] at hl ⊢
      by_cases e' : j' = k
      · rw [if_pos e']
        have := hI.col j hj hl
        omega
      · rw [if_neg e'] at hl' ⊢
        exact hI.inj j j' hj hj' hne hl hl'
/-- The columns after i rows and t numbers of the next one. -/
def colL (A : Mat) (i t k : Nat) : List Raw := (List.range (if k < t then i + 1 else i)).map fun r => (A.getD r default).2.getD k default
theorem colL_push (A : Mat) (i t : Nat) : (fun j => if j = t then colL A i t t ++ [(A.getD i default).2.getD t default] else colL A i t j) = colL A i (t + 1) := by
  funext j
  unfold colL
  by_cases e : j = t
  · subst e
    rw [if_pos rfl, if_neg (Nat.lt_irrefl j), if_pos (Nat.lt_succ_self j), List.range_succ, List.map_append]
    rfl
  · rw [if_neg e]
    by_cases h : j < t
    · rw [if_pos h, if_pos (by omega)]
    · rw [if_neg h, if_neg (by omega)]
theorem colL_next (A : Mat) (i w : Nat) : ∀ k, k < w → colL A i w k = colL A (i + 1) 0 k := fun k hk => by
  unfold colL
  rw [if_pos hk, if_neg (Nat.not_lt_zero k)]
theorem colL_len (A : Mat) (i t k : Nat) : (colL A i t k).length = if k < t then i + 1 else i := by unfold colL; simp
theorem CI.congr {h : Heap} {nx c w lo : Nat} {ids : Nat → Nat} {L L' : Nat → List Raw} (hI : CI h nx c w lo ids L) (e : ∀ k, k < w → L k = L' k) : CI h nx c w lo ids L' := by
  refine ⟨?_, hI.cl, fun k hk hl => ?_, fun k k' hk hk' hne hl hl' => ?_⟩
  · rw [hI.row]
    congr 2
    refine List.map_congr_left fun k hk => ?_
    unfold colv
    rw [e k (List.mem_range.1 hk)]
  · rw [← e k hk] at hl ⊢; exact hI.col k hk hl
  · rw [← e k hk] at hl; rw [← e k' hk'] at hl'; exact hI.inj k k' hk hk' hne hl hl'
set_option maxHeartbeats 2000000 in
theorem turned_open (na : Bool) (A : Mat) (w : Nat) (hA : MatV A w) (h1 : 1 ≤ A.length) (hAm : A.length ≤ 100) (hw : w ≤ 100) (h0 : Heap) (lo : Nat) :
    ∃ (c n' : Nat) (h' : Heap) (ids : Nat → Nat), denO E 41 [mraw na A] h0 lo = some (.ret (.ref c 0 w), h', n') ∧ CI h' n' c w lo ids (colL A A.length 0) ∧ ∀ i, i < lo → h' i = h0 i := by
  have key : ∃ v h' n', denO E 41 [mraw na A] h0 lo = some (.ret v, h', n') ∧ (∃ c ids, v = .ref c 0 w ∧ CI h' n' c w lo ids (colL A A.length 0)) ∧ ∀ i, i < lo → h' i = h0 i := by
    refine denO_intro E41 rfl ?_
    have hg0 := get_lr (A := A) (i := 0) (by omega)
    have z00 : ((0 : Int) < (A.length : Int)) = True := eq_true (by omega)
    have hml : (A.map lr).length = A.length := List.length_map _
    have hml0 : ((A.getD 0 default).2.map ivr).length = w := by rw [List.length_map, (hA 0 (by omega)).2]
    have hwi : ((A.getD 0 default).2.length : Int) = (w : Int) := by rw [(hA 0 (by omega)).2]
    have zw0 : ((0 : Int) ≤ (w : Int)) = True := eq_true (by omega)
    have zw1 : ((w : Int) * 24 ≤ 281474976710656) = True := eq_true (by omega)
    have zw2 : ((w : Int) ≤ 9223372036854775807) = True := eq_true (by omega)
    simp (maxSteps := 4000000) only [go_sem, seval, ↓reduceIte, reduceCtorEq, Try.f41, hg0, z00, hml, hml0, hwi, zw0, zw1, zw2, Int.le_refl, Int.toNat_zero, Int.toNat_natCast]
    clear hg0 hml0 hwi zw1 zw2
    refine W_loopS (fun k sl h nx => ∃ (i : Nat) (ids : Nat → Nat), (∃ g : Nat → AV, sl = [g 0, g 1, g 2, .ref lo 0 w, g 4, g 5, g 6, g 7, g 8, g 9, g 10, g 11, g 12, mraw na A, .int .i64 (A.length : Int), .int .i64 (i : Int), g 16, g 17, g 18, g 19, g 20, g 21, g 22, g 23, g 24, g 25, g 26, g 27, g 28, g 29, g 30, g 31, g 32, g 33, g 34, g 35, g 36, g 37, g 38]) ∧ i + k = A.length ∧ CI h nx lo w lo ids (colL A i 0) ∧ ∀ i, i < lo → h i = h0 i) A.length ⟨0, fun _ => 0, garb rfl, by omega, ⟨?_, ⟨Nat.le_refl _, Nat.lt_succ_self _⟩, fun k hk hl => ?_, fun k k' hk hk' hne hl => ?_⟩, fun i hi => ?_⟩ ?_
    · rw [reps_range]
      simp only [upd_apply, ↓reduceIte, Nat.reduceEqDiff, if_pos]
      congr 2
    · rw [colL_len] at hl; simp at hl
    · rw [colL_len] at hl; simp at hl
    · dsimp only; exact upd_ne (by omega)
    rintro k _ h nx ⟨i, ids, ⟨g, rfl⟩, hk, hI, hfr⟩
    by_cases hi : i = A.length
    · have z1 : ((i : Int) < (A.length : Int)) = False := eq_false (by omega)
      rw [hi] at hI
      simp (maxSteps := 4000000) only [go_sem, seval, ↓reduceIte, reduceCtorEq, z1]
      exact ⟨⟨lo, ids, rfl, hI⟩, hfr⟩
    · have z1 : ((i : Int) < (A.length : Int)) = True := eq_true (by omega)
      have z0 : ((0 : Int) ≤ (i : Int)) = True := eq_true (by omega)
      have hg := get_lr (A := A) (i := i) (by omega)
      have w1 : IntKind.i64.wrap ((i + 1 : Nat) : Int) = ((i + 1 : Nat) : Int) := wrap64 (by omega) (by omega)
      have hRl := (hA i (by omega)).2
      have hRl' : ((A.getD i default).2.length : Int) = (w : Int) := by rw [hRl]
      have hmlR : ((A.getD i default).2.map ivr).length = w := by rw [List.length_map, hRl]
      have hout : ∀ (h' : Heap) (n' : Nat) (sl : List AV) (ids' : Nat → Nat), (∃ g : Nat → AV, sl = [g 0, g 1, g 2, .ref lo 0 w, g 4, g 5, g 6, g 7, g 8, g 9, g 10, g 11, g 12, mraw na A, .int .i64 (A.length : Int), .int .i64 ((i + 1 : Nat) : Int), g 16, g 17, g 18, g 19, g 20, g 21, g 22, g 23, g 24, g 25, g 26, g 27, g 28, g 29, g 30, g 31, g 32, g 33, g 34, g 35, g 36, g 37, g 38]) → CI h' n' lo w lo ids' (colL A i w) → (∀ i, i < lo → h' i = h0 i) →
          ∃ k', k' < k ∧ ∃ (i : Nat) (ids : Nat → Nat), (∃ g : Nat → AV, sl = [g 0, g 1, g 2, .ref lo 0 w, g 4, g 5, g 6, g 7, g 8, g 9, g 10, g 11, g 12, mraw na A, .int .i64 (A.length : Int), .int .i64 (i : Int), g 16, g 17, g 18, g 19, g 20, g 21, g 22, g 23, g 24, g 25, g 26, g 27, g 28, g 29, g 30, g 31, g 32, g 33, g 34, g 35, g 36, g 37, g 38]) ∧ i + k' = A.length ∧ CI h' n' lo w lo ids (colL A i 0) ∧ ∀ i, i < lo → h' i = h0 i := fun h' n' sl ids' c0 c1 c2 => ⟨k - 1, by omega, i + 1, ids', c0, by omega, c1.congr (colL_next A i w), c2⟩
      generalize hIQ : (fun (k : Nat) (σ : St) => ∃ (i : Nat) (ids : Nat → Nat), (∃ g : Nat → AV, σ.sl = [g 0, g 1, g 2, .ref lo 0 w, g 4, g 5, g 6, g 7, g 8, g 9, g 10, g 11, g 12, mraw na A, .int .i64 (A.length : Int), .int .i64 (i : Int), g 16, g 17, g 18, g 19, g 20, g 21, g 22, g 23, g 24, g 25, g 26, g 27, g 28, g 29, g 30, g 31, g 32, g 33, g 34, g 35, g 36, g 37, g 38]) ∧ i + k = A.length ∧ CI σ.h σ.nx lo w lo ids (colL A i 0) ∧ ∀ i, i < lo → σ.h i = h0 i) = IQ
      have hRget : ∀ t, t < w → ((A.getD i default).2.map ivr)[t]? = some (.agg [.bool ((A.getD i default).2.getD t default).1, .lst ((A.getD i default).2.getD t default).2.1 (((A.getD i default).2.getD t default).2.2.map wd)]) := fun t ht => get_ivr (by omega)
      simp (maxSteps := 4000000) only [go_sem, seval, ↓reduceIte, reduceCtorEq, z0, z1, hg, hml, hRl', hmlR]
      refine W_loopS (fun k sl h nx => ∃ (t : Nat) (ids : Nat → Nat), (∃ g : Nat → AV, sl = [g 0, g 1, g 2, .ref lo 0 w, g 4, g 5, g 6, g 7, g 8, g 9, g 10, g 11, g 12, mraw na A, .int .i64 (A.length : Int), .int .i64 (i : Int), g 16, g 17, g 18, .lst (A.getD i default).1 ((A.getD i default).2.map ivr), .int .i64 (w : Int), .int .i64 (t : Int), g 22, g 23, g 24, g 25, g 26, g 27, g 28, g 29, g 30, g 31, g 32, g 33, g 34, g 35, g 36, g 37, g 38]) ∧ t + k = w ∧ CI h nx lo w lo ids (colL A i t) ∧ ∀ i, i < lo → h i = h0 i) w ⟨0, ids, garb rfl, by omega, hI, hfr⟩ ?_
      clear hI hfr
      rintro k2 _ h nx ⟨t, ids, ⟨g, rfl⟩, hk2, hI, hfr⟩
      by_cases ht : t = w
      · have z2 : ((t : Int) < (w : Int)) = False := eq_false (by omega)
        rw [ht] at hI
        simp (maxSteps := 4000000) only [go_sem, seval, ↓reduceIte, reduceCtorEq, z2, w1]
        rw [← hIQ]
        exact hout _ _ _ ids (garb rfl) hI hfr
      · have z2 : ((t : Int) < (w : Int)) = True := eq_true (by omega)
        have z3 : ((0 : Int) ≤ (t : Int)) = True := eq_true (by omega)
        have w2 : IntKind.i64.wrap ((t + 1 : Nat) : Int) = ((t + 1 : Nat) : Int) := wrap64 (by omega) (by omega)
        have hgr := hRget t (by omega)
        have hcl := hI.cl
        have hrow := hI.row
        have hget := range_get (f := colv ids (colL A i t)) (w := w) (k := t) (by omega)
        have hpush := fun h' id nx' => CI.push (h' := h') (q := (A.getD i default).2.getD t default) (id := id) (nx' := nx') hI (k := t) (by omega)
        have hcol := hI.col t (by omega)
        have hll := colL_len A i t t
        rw [if_neg (Nat.lt_irrefl t)] at hll
        simp only [colL_push] at hpush
        rw [hll] at hpush hcol
        have hcv : colv ids (colL A i t) t = if i = 0 then .lst true [] else .ref (ids t) 0 i := by unfold colv; rw [hll]
        rw [hcv] at hget
        have hlr : ((List.range w).map (colv ids (colL A i t))).length = w := by simp
        have x1 : (lo = nx) = False := eq_false (by omega)
        have x2 : (nx = lo) = False := eq_false (by omega)
        have x3 : (lo = nx + 1) = False := eq_false (by omega)
        have x4 : (nx + 1 = lo) = False := eq_false (by omega)
        have x5 : (lo = nx + 1 + 1) = False := eq_false (by omega)
        have x6 : (nx + 1 + 1 = lo) = False := eq_false (by omega)
        have zt1 : (t + 1 ≤ w) = True := eq_true (by omega)
        have hfin2 : ∀ (h' : Heap) (n' : Nat) (sl : List AV) (ids' : Nat → Nat), (∃ g : Nat → AV, sl = [g 0, g 1, g 2, .ref lo 0 w, g 4, g 5, g 6, g 7, g 8, g 9, g 10, g 11, g 12, mraw na A, .int .i64 (A.length : Int), .int .i64 (i : Int), g 16, g 17, g 18, .lst (A.getD i default).1 ((A.getD i default).2.map ivr), .int .i64 (w : Int), .int .i64 ((t + 1 : Nat) : Int), g 22, g 23, g 24, g 25, g 26, g 27, g 28, g 29, g 30, g 31, g 32, g 33, g 34, g 35, g 36, g 37, g 38]) → CI h' n' lo w lo ids' (colL A i (t + 1)) → (∀ i, i < lo → h' i = h0 i) →
            ∃ k', k' < k2 ∧ ∃ (t : Nat) (ids : Nat → Nat), (∃ g : Nat → AV, sl = [g 0, g 1, g 2, .ref lo 0 w, g 4, g 5, g 6, g 7, g 8, g 9, g 10, g 11, g 12, mraw na A, .int .i64 (A.length : Int), .int .i64 (i : Int), g 16, g 17, g 18, .lst (A.getD i default).1 ((A.getD i default).2.map ivr), .int .i64 (w : Int), .int .i64 (t : Int), g 22, g 23, g 24, g 25, g 26, g 27, g 28, g 29, g 30, g 31, g 32, g 33, g 34, g 35, g 36, g 37, g 38]) ∧ t + k' = w ∧ CI h' n' lo w lo ids (colL A i t) ∧ ∀ i, i < lo → h' i = h0 i := fun h' n' sl ids' c0 c1 c2 => ⟨k2 - 1, by omega, t + 1, ids', c0, by omega, c1, c2⟩
        generalize hIQ2 : (fun (k : Nat) (σ : St) => ∃ (t : Nat) (ids : Nat → Nat), (∃ g : Nat → AV, σ.sl = [g 0, g 1, g 2, .ref lo 0 w, g 4, g 5, g 6, g 7, g 8, g 9, g 10, g 11, g 12, mraw na A, .int .i64 (A.length : Int), .int .i64 (i : Int), g 16, g 17, g 18, .lst (A.getD i default).1 ((A.getD i default).2.map ivr), .int .i64 (w : Int), .int .i64 (t : Int), g 22, g 23, g 24, g 25, g 26, g 27, g 28, g 29, g 30, g 31, g 32, g 33, g 34, g 35, g 36, g 37, g 38]) ∧ t + k = w ∧ CI σ.h σ.nx lo w lo ids (colL A i t) ∧ ∀ i, i < lo → σ.h i = h0 i) = IQ2
        clear hout hIQ hRget hI hcv
        generalize (A.getD i default).2.getD t default = q at *
        generalize hM : colL A i t t = M at *
        generalize hcells : (List.range w).map (colv ids (colL A i t)) = cells at *
        clear hcells
        have fin : ∀ (h' : Heap) (sl : List AV), (∃ g : Nat → AV, sl = [g 0, g 1, g 2, .ref lo 0 w, g 4, g 5, g 6, g 7, g 8, g 9, g 10, g 11, g 12, mraw na A, .int .i64 (A.length : Int), .int .i64 (i : Int), g 16, g 17, g 18, .lst (A.getD i default).1 ((A.getD i default).2.map ivr), .int .i64 (w : Int), .int .i64 ((t + 1 : Nat) : Int), g 22, g 23, g 24, g 25, g 26, g 27, g 28, g 29, g 30, g 31, g 32, g 33, g 34, g 35, g 36, g 37, g 38]) → h' lo = some ⟨cells.set t (.ref (nx + 1 + 1) 0 (i + 1)), false, 1, false⟩ → h' (nx + 1 + 1) = some ⟨fr M ++ fr [q], true, 2, false⟩ → (∀ j, j < nx → j ≠ lo → (j ≠ ids t ∨ i = 0) → h' j = h j) → ∃ k', k' < k2 ∧ IQ2 k' ⟨sl, h', nx + 1 + 1 + 1⟩ := fun h' sl c0 c1 c2 c3 => by
          rw [← hIQ2]
          refine hfin2 _ _ _ _ c0 (hpush h' (nx + 1 + 1) (nx + 1 + 1 + 1) (by omega) (by omega) c1 (by rw [c2, fr_app]) fun j j1 j2 j3 j4 => c3 j j2 j3 j4) fun j hj => ?_
          show h' j = h0 j
          rw [c3 j (by omega) (by omega) ?_]
          · exact hfr j hj
          · by_cases e : i = 0
            · exact .inr e
            · exact .inl (by have := hcol e; omega)
        clear hfin2 hpush hIQ2
        by_cases hi0 : i = 0
        · rw [if_pos hi0] at hget
          have hMn : M = [] := List.eq_nil_of_length_eq_zero (by rw [hll, hi0])
          have hmem1 : ((2 * 1 + 1000) * 32 ≤ 281474976710656) = True := eq_true (by omega)
          simp (maxSteps := 4000000) only [go_sem, seval, ↓reduceIte, reduceCtorEq, z2, z3, hgr, hmlR]
          refine W_drawn ?_
          simp (maxSteps := 4000000) only [go_sem, seval, ↓reduceIte, reduceCtorEq, z2, z3, hrow, hget, hlr, x1, x2, x3, x4, x5, x6, zt1, reps, places, fillAll, appendEff, srcCells, flat, hmem1]
          refine ⟨by refine okR_pairs ?_; (repeat ((with_unfolding_all refine And.intro ?_ ?_); (focus (rw [free_mk] <;> (try simp) <;> (try omega))))); (with_unfolding_all exact True.intro), ?_⟩
          rw [w2]
          refine fin _ _ (garb rfl) ?_ ?_ fun j j1 j2 j3 => ?_
          · rw [hi0]; simp only [upd_apply, ↓reduceIte, Nat.reduceEqDiff, if_pos]
          · rw [hMn]; simp only [upd_apply, ↓reduceIte, Nat.reduceEqDiff, x5, x6, if_pos]; rfl
          · simp only [upd_apply]
            rw [if_neg j2, if_neg (by omega), if_neg (by omega), if_neg (by omega), if_neg (by omega)]
        · rw [if_neg hi0] at hget
          obtain ⟨k1, k2', k3, k4⟩ := hcol hi0
          have hfl := fr_len M
          rw [hll] at hfl
          have hmem1 : ((2 * (i + 1) + 1000) * 32 ≤ 281474976710656) = True := eq_true (by omega)
          have y1 : (ids t = nx) = False := eq_false (by omega)
          have y2 : (nx = ids t) = False := eq_false (by omega)
          have y3 : (ids t = nx + 1) = False := eq_false (by omega)
          have y4 : (nx + 1 = ids t) = False := eq_false (by omega)
          have y5 : (ids t = nx + 1 + 1) = False := eq_false (by omega)
          have y6 : (nx + 1 + 1 = ids t) = False := eq_false (by omega)
          have y7 : (ids t = lo) = False := eq_false k3
          have y8 : (lo = ids t) = False := eq_false fun e => k3 e.symm
          generalize hid : ids t = id at *
          simp (maxSteps := 4000000) only [go_sem, seval, ↓reduceIte, reduceCtorEq, z2, z3, hgr, hmlR]
          refine W_drawn ?_
          simp (maxSteps := 4000000) only [go_sem, seval, ↓reduceIte, reduceCtorEq, z2, z3, hrow, hget, hlr, x1, x2, x3, x4, x5, x6, y1, y2, y3, y4, y5, y6, y7, y8, k4, hfl, zt1, reps, places, fillAll, appendEff, srcCells, flat, hmem1]
          refine ⟨by refine okR_pairs ?_; (repeat ((with_unfolding_all refine And.intro ?_ ?_); (focus (rw [free_mk] <;> (try simp) <;> (try omega))))); (with_unfolding_all exact True.intro), ?_⟩
          rw [w2]
          refine fin _ _ (garb rfl) ?_ ?_ fun j j1 j2 j3 => ?_
          · simp only [upd_apply, ↓reduceIte, Nat.reduceEqDiff, if_pos]
          · simp only [upd_apply, ↓reduceIte, Nat.reduceEqDiff, x5, x6, y5, y6, if_pos]; rfl
          · simp only [upd_apply]
            rw [if_neg j2, if_neg (by omega), if_neg (by rcases j3 with j3 | j3 <;> omega), if_neg (by omega), if_neg (by omega), if_neg (by omega)]
  obtain ⟨v, h', n', g1, ⟨c, ids, rfl, g2⟩, g3⟩ := key
  exact ⟨c, n', h', ids, g1, g2, g3⟩
end Go.Proofs.Ytnpomadbaanpkaa

/- Walks: multiples and sums of lists. (Own work of this repo.) -/
namespace Go.Proofs.Ytnpomadbaanpkaa
open Vm
set_option maxRecDepth 10000

/-- A number of any length. -/
def NumQ (q : Raw) : Prop := InR q.2.2 ∧ dg (zv q) = q.2.2 ∧ ng (zv q) = q.1
theorem NumQ.ivr_eq {q : Raw} (h : NumQ q) : ivr q = I q.2.1 (zv q) := by rw [I, h.2.1, h.2.2]
theorem zv_rz (e : Bool × Int) : zv (rz e) = e.2 := by unfold zv; show sg (ng e.2) (val (dg e.2)) = e.2; rw [val_dg]; exact sg_ng e.2
theorem num_rz (e : Bool × Int) : NumQ (rz e) := by unfold NumQ; rw [zv_rz]; exact ⟨dg_inR e.2, rfl, rfl⟩
theorem AllV.num {L : List Raw} (h : AllV L) {q : Raw} (hq : q ∈ L) : NumQ q := by
  obtain ⟨h1, h2⟩ := h q hq
  obtain ⟨_, _, _, h3, h4⟩ := zv_spec h1 h2
  exact ⟨h1, h4, h3⟩
/-- A list that grows. -/
def GrowQ (H : Heap) (nx : Nat) (v : AV) (l : List Raw) : Prop := (l = [] ∧ v = .lst true []) ∨ (0 < l.length ∧ ∃ id, id < nx ∧ v = .ref id 0 l.length ∧ H id = some ⟨fr l, true, 2, false⟩)
theorem getD_snoc_l {M : List Raw} {q : Raw} {j : Nat} (h : j < M.length) : (M ++ [q]).getD j default = M.getD j default := by
  rw [List.getD_eq_getElem?_getD, List.getD_eq_getElem?_getD, List.getElem?_append_left h]
theorem getD_snoc_r {M : List Raw} {q : Raw} {j : Nat} (h : M.length = j) : (M ++ [q]).getD j default = q := by
  rw [List.getD_eq_getElem?_getD, List.getElem?_append_right (by omega), h, Nat.sub_self]; rfl
set_option maxHeartbeats 1000000 in
theorem scaled_spec (na : Bool) (A : List Raw) (by_ : Int) (hA : AllV A) (hl : A.length < 1000) (hb : -9223372036854775808 ≤ by_ ∧ by_ < 9223372036854775808) :
    ∃ o : Bool × List Raw, denP E 18 [lraw na A, .int .i64 by_] = some (.ret (lraw o.1 o.2)) ∧ o.2.length = A.length ∧ (∀ q ∈ o.2, NumQ q) ∧ ∀ i, i < A.length → zg o.2 i = zg A i * by_ := by
  refine denP_ex (F := fun o : Bool × List Raw => lraw o.1 o.2) E18 rfl (by simp [AV.pureL, AV.pure, pure_ivr]) ?_
  simp (maxSteps := 4000000) only [go_sem, seval, ↓reduceIte, reduceCtorEq, Try.f18, places, fillAll]
  refine W_loopS (fun k sl h nx => ∃ (i : Nat) (v : AV) (M : List Raw), (∃ g : Nat → AV, sl = [lraw na A, .int .i64 by_, g 2, g 3, g 4, v, .int .i64 (i : Int), g 7, g 8, g 9, g 10, g 11, g 12, g 13, g 14, g 15, g 16, g 17, g 18, g 19, g 20, g 21, g 22, g 23]) ∧ i + k = A.length ∧ M.length = i ∧ GrowQ h nx v M ∧ (∀ q ∈ M, NumQ q) ∧ ∀ j, j < i → zg M j = zg A j * by_) A.length ⟨0, .lst true [], [], garb rfl, by omega, rfl, .inl ⟨rfl, rfl⟩, by simp, by omega⟩ ?_
  rintro k _ h nx ⟨i, v, M, ⟨g, rfl⟩, hk, hM, hG, hN, hz⟩
  by_cases hi : i = A.length
  · have z1 : ((i : Int) < (A.length : Int)) = False := eq_false (by omega)
    rcases hG with ⟨rfl, rfl⟩ | ⟨h0, id, hid, rfl, hH⟩
    · simp (maxSteps := 4000000) only [go_sem, seval, ↓reduceIte, reduceCtorEq, z1, purify_lnil]
      exact ⟨(true, []), rfl, by simp at hM ⊢; omega, by simp, fun j hj => hz j (by omega)⟩
    · have hp : ∀ (n : Nat) (H : Heap), refP (n + 1) H id 0 M.length (some ⟨fr M, true, 2, false⟩) = some (.lst false (M.map ivr), [id]) := fun n H => refP_fr rfl
      simp (maxSteps := 4000000) only [go_sem, seval, ↓reduceIte, reduceCtorEq, z1, hH, hp]
      exact ⟨(false, M), rfl, by dsimp only; omega, hN, fun j hj => hz j (by omega)⟩
  · have z1 : ((i : Int) < (A.length : Int)) = True := eq_true (by omega)
    have z0 : ((0 : Int) ≤ (i : Int)) = True := eq_true (by omega)
    have hga := get_ivr (L := A) (i := i) (by omega)
    obtain ⟨a1, a2, a3, a4, a5⟩ := zv_spec (hA.get (show i < A.length by omega)).1 (hA.get (show i < A.length by omega)).2
    rw [← a4, ← a5] at hga
    have hml : (A.map ivr).length = A.length := List.length_map _
    have w1 : IntKind.i64.wrap ((i + 1 : Nat) : Int) = ((i + 1 : Nat) : Int) := wrap64 (by omega) (by omega)
    have o1 := rOf_spec by_ hb.1 hb.2
    have m1 := rMul_spec (A.getD i default).2.1 (zv (A.getD i default)) (decide (by_ = 0)) by_ (by omega) (by have := dg_small (z := by_) (by rcases hb with ⟨_, _⟩; omega); omega)
    have hfin : ∀ (h' : Heap) (n' : Nat) (sl : List AV) (v' : AV), (∃ g : Nat → AV, sl = [lraw na A, .int .i64 by_, g 2, g 3, g 4, v', .int .i64 ((i + 1 : Nat) : Int), g 7, g 8, g 9, g 10, g 11, g 12, g 13, g 14, g 15, g 16, g 17, g 18, g 19, g 20, g 21, g 22, g 23]) → GrowQ h' n' v' (M ++ [rz (decide (zv (A.getD i default) * by_ = 0), zv (A.getD i default) * by_)]) →
        ∃ k', k' < k ∧ ∃ (i : Nat) (v : AV) (M : List Raw), (∃ g : Nat → AV, sl = [lraw na A, .int .i64 by_, g 2, g 3, g 4, v, .int .i64 (i : Int), g 7, g 8, g 9, g 10, g 11, g 12, g 13, g 14, g 15, g 16, g 17, g 18, g 19, g 20, g 21, g 22, g 23]) ∧ i + k' = A.length ∧ M.length = i ∧ GrowQ h' n' v M ∧ (∀ q ∈ M, NumQ q) ∧ ∀ j, j < i → zg M j = zg A j * by_ := fun h' n' sl v' c0 c1 => by
      refine ⟨k - 1, by omega, i + 1, v', _, c0, by omega, by simp [hM], c1, fun q hq => ?_, fun j hj => ?_⟩
      · rcases List.mem_append.1 hq with hq | hq
        · exact hN q hq
        · rw [List.mem_singleton.1 hq]; exact num_rz _
      · unfold zg
        by_cases e : j = i
        · subst e
          rw [getD_snoc_r hM]
          exact zv_rz _
        · rw [getD_snoc_l (by omega)]
          exact hz j (by omega)
    generalize hIQ : (fun (k : Nat) (σ : St) => ∃ (i : Nat) (v : AV) (M : List Raw), (∃ g : Nat → AV, σ.sl = [lraw na A, .int .i64 by_, g 2, g 3, g 4, v, .int .i64 (i : Int), g 7, g 8, g 9, g 10, g 11, g 12, g 13, g 14, g 15, g 16, g 17, g 18, g 19, g 20, g 21, g 22, g 23]) ∧ i + k = A.length ∧ M.length = i ∧ GrowQ σ.h σ.nx v M ∧ (∀ q ∈ M, NumQ q) ∧ ∀ j, j < i → zg M j = zg A j * by_) = IQ
    clear hz hN a1 a2 a3 a4 a5
    simp only [RM] at o1 m1
    generalize A.getD i default = qa at *
    generalize zv qa = x at *
    generalize qa.2.1 = fa at *
    generalize x * by_ = xy at *
    generalize decide (xy = 0) = fxy at *
    generalize decide (by_ = 0) = fb at *
    have hmem : ((2 * (i + 1) + 1000) * 32 ≤ 281474976710656) = True := eq_true (by omega)
    have hmem1 : ((2 * 1 + 1000) * 32 ≤ 281474976710656) = True := eq_true (by omega)
    rcases hG with ⟨rfl, rfl⟩ | ⟨h0, id, hid, rfl, hH⟩
    · simp (maxSteps := 4000000) only [go_sem, seval, ↓reduceIte, reduceCtorEq, z1]
      refine W_drawn ?_
      simp (maxSteps := 4000000) only [go_sem, seval, ↓reduceIte, reduceCtorEq, z0, z1, hga, hml, o1, m1, appendEff, srcCells, reps, places, fillAll, flat, hmem1]
      refine ⟨by refine okR_pairs ?_; (repeat ((with_unfolding_all refine And.intro ?_ ?_); (focus (rw [free_mk] <;> (try simp) <;> (try omega))))); (with_unfolding_all exact True.intro), ?_⟩
      rw [w1, ← hIQ]
      refine hfin _ _ _ _ (garb rfl) (.inr ⟨by simp, nx + 1, by dsimp only; omega, rfl, ?_⟩)
      simp only [upd_apply, ↓reduceIte, Nat.reduceEqDiff, if_pos]
      rfl
    · have x1 : (id = nx) = False := eq_false (by omega)
      have x2 : (nx = id) = False := eq_false (by omega)
      have x3 : (id = nx + 1) = False := eq_false (by omega)
      have x4 : (nx + 1 = id) = False := eq_false (by omega)
      have hfl := fr_len M
      rw [hM] at hfl
      simp (maxSteps := 4000000) only [go_sem, seval, ↓reduceIte, reduceCtorEq, z1]
      refine W_drawn ?_
      simp (maxSteps := 4000000) only [go_sem, seval, ↓reduceIte, reduceCtorEq, z0, z1, hga, hml, o1, m1, hH, hM, hfl, x1, x2, x3, x4, appendEff, srcCells, reps, places, fillAll, flat, hmem]
      refine ⟨by refine okR_pairs ?_; (repeat ((with_unfolding_all refine And.intro ?_ ?_); (focus (rw [free_mk] <;> (try simp) <;> (try omega))))); (with_unfolding_all exact True.intro), ?_⟩
      rw [w1, ← hIQ]
      refine hfin _ _ _ _ (garb rfl) (.inr ⟨by simp, nx + 1, by dsimp only; omega, by rw [List.length_append, hM]; rfl, ?_⟩)
      rw [fr_app]
      simp only [upd_apply, ↓reduceIte, Nat.reduceEqDiff, if_pos]
      rfl
end Go.Proofs.Ytnpomadbaanpkaa

/- Walks: a function applied to pairs. (Own work of this repo.) -/
namespace Go.Proofs.Ytnpomadbaanpkaa
open Vm
set_option maxRecDepth 10000

theorem range_setα {α : Type} {f : Nat → α} {w k : Nat} {x : α} : ((List.range w).map f).set k x = (List.range w).map fun j => if j = k then x else f j := by
  refine List.ext_getElem? fun i => ?_
  rw [List.getElem?_set, List.getElem?_map, List.getElem?_map]
  by_cases h : k = i
  · subst h
    rw [if_pos rfl]
    by_cases hw : k < w
    · rw [if_pos (by simpa using hw), List.getElem?_range hw]; simp
    · rw [if_neg (by simpa using hw), List.getElem?_eq_none (by simpa using hw)]; rfl
  · rw [if_neg h]
    by_cases hw : i < w
    · rw [List.getElem?_range hw]; simp [show ¬ i = k from fun e => h e.symm]
    · rw [List.getElem?_eq_none (by simpa using hw)]; rfl
/-- A list out of a function. -/
def rl (n : Nat) (f : Nat → Bool × Int) : List Raw := (List.range n).map fun i => rz (f i)
theorem rl_len (n : Nat) (f : Nat → Bool × Int) : (rl n f).length = n := by simp [rl]
theorem rl_get {n : Nat} {f : Nat → Bool × Int} {i : Nat} (h : i < n) : (rl n f).getD i default = rz (f i) := by
  unfold rl; rw [List.getD_eq_getElem?_getD, List.getElem?_map, List.getElem?_range h]; rfl
theorem rl_set {n : Nat} {f : Nat → Bool × Int} {i : Nat} {e : Bool × Int} : (rl n f).set i (rz e) = rl n fun j => if j = i then e else f j := by
  unfold rl; rw [range_setα]
  refine List.map_congr_left fun j _ => ?_
  dsimp only
  split <;> rfl
theorem zg_rl {n : Nat} {f : Nat → Bool × Int} {i : Nat} (h : i < n) : zg (rl n f) i = (f i).2 := by unfold zg; rw [rl_get h]; exact zv_rz _
theorem rl_zero (n : Nat) : rl n (fun _ => (true, 0)) = List.replicate n (false, true, []) := by
  unfold rl; rw [List.map_const', List.length_range]
  show List.replicate n (ng 0, true, dg 0) = _
  rw [ng_zero, dg_zero]
theorem reps_fr : ∀ n, reps n [.bool false, .lst true []] = fr (rl n fun _ => (true, 0)) := by
  intro n
  rw [rl_zero]
  induction n with
  | zero => rfl
  | succ n ih => show [.bool false, .lst true []] ++ reps n _ = fr ((false, true, []) :: List.replicate n (false, true, [])); rw [ih]; rfl
theorem purify_imm {n : Nat} {H : Heap} {b f : Bool} {l : List Nat} : purify (n + 1) H (.imm [.bool b, .lst f (l.map wd)]) = some (.imm [.bool b, .lst f (l.map wd)], []) := by
  simp [purify, AV.pure, AV.pureL, pure_wd]
set_option maxHeartbeats 1000000 in
theorem each_imm (f : Nat) (hop : E.opn f = false) (s fl : Bool) (ws : List Nat) (na : Bool) (A : List Raw) (nb : Bool) (B : List Raw) (z : Nat → Int) (hl : A.length ≤ B.length) (hn : A.length ≤ 100)
    (hdo : ∀ i, i < A.length → denP E f ([ivr (A.getD i default), ivr (B.getD i default)] ++ [.imm [.bool s, .lst fl (ws.map wd)]]) = some (.ret (I false (z i)))) :
    denP E 63 [lraw na A, lraw nb B, .fn f [] [.imm [.bool s, .lst fl (ws.map wd)]]] = some (.ret (lraw false (rl A.length fun i => (false, z i)))) := by
  refine denP_eq E63 rfl (by simp [AV.pureL, AV.pure, pure_ivr, pure_wd]) ?_
  have zl0 : ((0 : Int) ≤ (A.length : Int)) = True := eq_true (by omega)
  have zl1 : ((A.length : Int) * 32 ≤ 281474976710656) = True := eq_true (by omega)
  have zl2 : ((A.length : Int) ≤ 9223372036854775807) = True := eq_true (by omega)
  simp (maxSteps := 4000000) only [go_sem, seval, ↓reduceIte, reduceCtorEq, Try.f63, zl0, zl1, zl2, Int.le_refl, Int.toNat_natCast, reps_fr]
  refine W_loopS (fun k sl h nx => ∃ (i : Nat), (∃ g : Nat → AV, sl = [lraw na A, lraw nb B, .fn f [] [.imm [.bool s, .lst fl (ws.map wd)]], g 3, g 4, g 5, g 6, .ref 0 0 A.length, g 8, g 9, g 10, g 11, g 12, .int .i64 (A.length : Int), .int .i64 (i : Int), g 15, g 16, g 17, g 18, g 19, g 20, g 21, g 22, g 23, g 24, g 25, g 26, g 27, g 28, g 29, g 30, g 31]) ∧ i + k = A.length ∧ h 0 = some ⟨fr (rl A.length fun j => if j < i then (false, z j) else (true, 0)), true, 2, false⟩) A.length ⟨0, garb rfl, by omega, ?_⟩ ?_
  · simp only [upd_apply, ↓reduceIte, Nat.reduceEqDiff, if_pos]
    congr 2
  rintro k _ h nx ⟨i, ⟨g, rfl⟩, hk, e0⟩
  by_cases hi : i = A.length
  · have z1 : ((i : Int) < (A.length : Int)) = False := eq_false (by omega)
    have e : (rl A.length fun j => if j < i then (false, z j) else (true, 0)) = rl A.length fun i => (false, z i) := by
      unfold rl
      refine List.map_congr_left fun j hj => ?_
      dsimp only
      rw [if_pos (by have := List.mem_range.1 hj; omega)]
    rw [e] at e0
    have hp : ∀ (n : Nat) (H : Heap), refP (n + 1) H 0 0 A.length (some ⟨fr (rl A.length fun i => (false, z i)), true, 2, false⟩) = some (.lst false ((rl A.length fun i => (false, z i)).map ivr), [0]) := fun n H => refP_fr (rl_len _ _)
    simp (maxSteps := 4000000) only [go_sem, seval, ↓reduceIte, reduceCtorEq, z1, e0, hp]
  · have z1 : ((i : Int) < (A.length : Int)) = True := eq_true (by omega)
    have z0 : ((0 : Int) ≤ (i : Int)) = True := eq_true (by omega)
    have zb : ((i : Int) < (B.length : Int)) = True := eq_true (by omega)
    have hga := get_ivr (L := A) (i := i) (by omega)
    have hgb := get_ivr (L := B) (i := i) (by omega)
    have hml : (A.map ivr).length = A.length := List.length_map _
    have hmlb : (B.map ivr).length = B.length := List.length_map _
    have w1 : IntKind.i64.wrap ((i + 1 : Nat) : Int) = ((i + 1 : Nat) : Int) := wrap64 (by omega) (by omega)
    have hd := hdo i (by omega)
    have hset := fr_set (rl A.length fun j => if j < i then (false, z j) else (true, 0)) i (rz (false, z i)) (by rw [rl_len]; omega)
    have e : (rl A.length fun j => if j < i then (false, z j) else (true, 0)).set i (rz (false, z i)) = rl A.length fun j => if j < i + 1 then (false, z j) else (true, 0) := by
      rw [rl_set]
      unfold rl
      refine List.map_congr_left fun j hj => ?_
      dsimp only
      by_cases ej : j = i
      · rw [if_pos ej, if_pos (by omega), ej]
      · rw [if_neg ej]
        by_cases hlt : j < i
        · rw [if_pos hlt, if_pos (by omega)]
        · rw [if_neg hlt, if_neg (by omega)]
    rw [e] at hset
    have hfl := fr_len (rl A.length fun j => if j < i then (false, z j) else (true, 0))
    rw [rl_len] at hfl
    have hin : (i * 2 + 2 ≤ A.length * 2) = True := eq_true (by omega)
    generalize (fr (rl A.length fun j => if j < i then (false, z j) else (true, 0))) = cs at *
    generalize hnew : (fr (rl A.length fun j => if j < i + 1 then (false, z j) else (true, 0))) = cs2 at *
    generalize A.getD i default = qa at *
    generalize B.getD i default = qb at *
    simp only [List.cons_append, List.nil_append] at hd
    simp (maxSteps := 4000000) only [go_sem, seval, ↓reduceIte, reduceCtorEq, z1]
    refine W_drawn ?_
    simp (maxSteps := 4000000) only [go_sem, seval, ↓reduceIte, reduceCtorEq, z0, z1, zb, hga, hgb, hml, hmlb, e0, hd, hop, hfl, hin, purify_imm]
    refine ⟨by rfl, k - 1, by omega, i + 1, ?_, by omega, ?_⟩
    · rw [w1]; exact garb rfl
    · rw [hnew, ← hset]
      simp only [setCells_cons, setCells_nil]
set_option maxHeartbeats 1000000 in
theorem each_nil (f : Nat) (hop : E.opn f = false)  (na : Bool) (A : List Raw) (nb : Bool) (B : List Raw) (z : Nat → Int) (hl : A.length ≤ B.length) (hn : A.length ≤ 100)
    (hdo : ∀ i, i < A.length → denP E f ([ivr (A.getD i default), ivr (B.getD i default)] ++ []) = some (.ret (I false (z i)))) :
    denP E 63 [lraw na A, lraw nb B, .fn f [] []] = some (.ret (lraw false (rl A.length fun i => (false, z i)))) := by
  refine denP_eq E63 rfl (by simp [AV.pureL, AV.pure, pure_ivr, pure_wd]) ?_
  have zl0 : ((0 : Int) ≤ (A.length : Int)) = True := eq_true (by omega)
  have zl1 : ((A.length : Int) * 32 ≤ 281474976710656) = True := eq_true (by omega)
  have zl2 : ((A.length : Int) ≤ 9223372036854775807) = True := eq_true (by omega)
  simp (maxSteps := 4000000) only [go_sem, seval, ↓reduceIte, reduceCtorEq, Try.f63, zl0, zl1, zl2, Int.le_refl, Int.toNat_natCast, reps_fr]
  refine W_loopS (fun k sl h nx => ∃ (i : Nat), (∃ g : Nat → AV, sl = [lraw na A, lraw nb B, .fn f [] [], g 3, g 4, g 5, g 6, .ref 0 0 A.length, g 8, g 9, g 10, g 11, g 12, .int .i64 (A.length : Int), .int .i64 (i : Int), g 15, g 16, g 17, g 18, g 19, g 20, g 21, g 22, g 23, g 24, g 25, g 26, g 27, g 28, g 29, g 30, g 31]) ∧ i + k = A.length ∧ h 0 = some ⟨fr (rl A.length fun j => if j < i then (false, z j) else (true, 0)), true, 2, false⟩) A.length ⟨0, garb rfl, by omega, ?_⟩ ?_
  · simp only [upd_apply, ↓reduceIte, Nat.reduceEqDiff, if_pos]
    congr 2
  rintro k _ h nx ⟨i, ⟨g, rfl⟩, hk, e0⟩
  by_cases hi : i = A.length
  · have z1 : ((i : Int) < (A.length : Int)) = False := eq_false (by omega)
    have e : (rl A.length fun j => if j < i then (false, z j) else (true, 0)) = rl A.length fun i => (false, z i) := by
      unfold rl
      refine List.map_congr_left fun j hj => ?_
      dsimp only
      rw [if_pos (by have := List.mem_range.1 hj; omega)]
    rw [e] at e0
    have hp : ∀ (n : Nat) (H : Heap), refP (n + 1) H 0 0 A.length (some ⟨fr (rl A.length fun i => (false, z i)), true, 2, false⟩) = some (.lst false ((rl A.length fun i => (false, z i)).map ivr), [0]) := fun n H => refP_fr (rl_len _ _)
    simp (maxSteps := 4000000) only [go_sem, seval, ↓reduceIte, reduceCtorEq, z1, e0, hp]
  · have z1 : ((i : Int) < (A.length : Int)) = True := eq_true (by omega)
    have z0 : ((0 : Int) ≤ (i : Int)) = True := eq_true (by omega)
    have zb : ((i : Int) < (B.length : Int)) = True := eq_true (by omega)
    have hga := get_ivr (L := A) (i := i) (by omega)
    have hgb := get_ivr (L := B) (i := i) (by omega)
    have hml : (A.map ivr).length = A.length := List.length_map _
    have hmlb : (B.map ivr).length = B.length := List.length_map _
    have w1 : IntKind.i64.wrap ((i + 1 : Nat) : Int) = ((i + 1 : Nat) : Int) := wrap64 (by omega) (by omega)
    have hd := hdo i (by omega)
    have hset := fr_set (rl A.length fun j => if j < i then (false, z j) else (true, 0)) i (rz (false, z i)) (by rw [rl_len]; omega)
    have e : (rl A.length fun j => if j < i then (false, z j) else (true, 0)).set i (rz (false, z i)) = rl A.length fun j => if j < i + 1 then (false, z j) else (true, 0) := by
      rw [rl_set]
      unfold rl
      refine List.map_congr_left fun j hj => ?_
      dsimp only
      by_cases ej : j = i
      · rw [if_pos ej, if_pos (by omega), ej]
      · rw [if_neg ej]
        by_cases hlt : j < i
        · rw [if_pos hlt, if_pos (by omega)]
        · rw [if_neg hlt, if_neg (by omega)]
    rw [e] at hset
    have hfl := fr_len (rl A.length fun j => if j < i then (false, z j) else (true, 0))
    rw [rl_len] at hfl
    have hin : (i * 2 + 2 ≤ A.length * 2) = True := eq_true (by omega)
    generalize (fr (rl A.length fun j => if j < i then (false, z j) else (true, 0))) = cs at *
    generalize hnew : (fr (rl A.length fun j => if j < i + 1 then (false, z j) else (true, 0))) = cs2 at *
    generalize A.getD i default = qa at *
    generalize B.getD i default = qb at *
    simp only [List.cons_append, List.nil_append] at hd
    simp (maxSteps := 4000000) only [go_sem, seval, ↓reduceIte, reduceCtorEq, z1]
    refine W_drawn ?_
    simp (maxSteps := 4000000) only [go_sem, seval, ↓reduceIte, reduceCtorEq, z0, z1, zb, hga, hgb, hml, hmlb, e0, hd, hop, hfl, hin, purify_imm]
    refine ⟨by rfl, k - 1, by omega, i + 1, ?_, by omega, ?_⟩
    · rw [w1]; exact garb rfl
    · rw [hnew, ← hset]
      simp only [setCells_cons, setCells_nil]
end Go.Proofs.Ytnpomadbaanpkaa

/- Walks: a multiple of a column subtracted. (Own work of this repo.) -/
namespace Go.Proofs.Ytnpomadbaanpkaa
open Vm
set_option maxRecDepth 10000

theorem take1_spec (fx fy fb : Bool) (x y b : Int) (hx : (dg x).length ≤ 4096) (hy : (dg y).length ≤ 4096) (hb : (dg b).length ≤ 4096) (hp : (dg (y * b)).length ≤ 4096) (hs : (dg (x - y * b)).length ≤ 4096) :
    denP E 102 [I fx x, I fy y, .imm [.bool (ng b), .lst fb ((dg b).map wd)]] = some (.ret (I false (x - y * b))) := by
  refine denP_eq E102 rfl (by simp [AV.pureL, AV.pure, pure_wd]) ?_
  have m1 := exMul_ret fy fb y b hy hb hp
  have s1 := exSub_ret fx (mz y b) x (y * b) hx hp hs
  generalize x - y * b = z at *
  generalize mz y b = fm at *
  generalize y * b = yb at *
  clear hx hy hb hp hs
  simp (maxSteps := 4000000) only [go_sem, seval, ↓reduceIte, reduceCtorEq, Try.f102, places, fillAll]
  refine W_drawn ?_
  simp (maxSteps := 4000000) only [go_sem, seval, ↓reduceIte, reduceCtorEq, m1, s1, places, fillAll]
  refine okR_pairs ?_; (repeat ((with_unfolding_all refine And.intro ?_ ?_); (focus (rw [free_mk] <;> (try simp) <;> (try omega))))); (with_unfolding_all exact True.intro)
theorem solve1_spec (fx fy fb : Bool) (s y x : Int) (hx : (dg s).length ≤ 4096) (hy : (dg y).length ≤ 4096) (hb : (dg x).length ≤ 4096) (hp : (dg (x * y)).length ≤ 4096) (hs : (dg (s + x * y)).length ≤ 4096) :
    denP E 64 [I fx s, I fy y, .imm [.bool (ng x), .lst fb ((dg x).map wd)]] = some (.ret (I false (s + x * y))) := by
  refine denP_eq E64 rfl (by simp [AV.pureL, AV.pure, pure_wd]) ?_
  have m1 := exMul_ret fb fy x y hb hy hp
  have s1 := exAdd_ret fx (mz x y) s (x * y) hx hp hs
  generalize s + x * y = z at *
  generalize mz x y = fm at *
  generalize x * y = yb at *
  clear hx hy hb hp hs
  simp (maxSteps := 4000000) only [go_sem, seval, ↓reduceIte, reduceCtorEq, Try.f64, places, fillAll]
  refine W_drawn ?_
  simp (maxSteps := 4000000) only [go_sem, seval, ↓reduceIte, reduceCtorEq, m1, s1, places, fillAll]
  refine okR_pairs ?_; (repeat ((with_unfolding_all refine And.intro ?_ ?_); (focus (rw [free_mk] <;> (try simp) <;> (try omega))))); (with_unfolding_all exact True.intro)
/-- A column of numbers, as a value. -/
def ColV (h : Heap) (lo nx : Nat) (bad : List Nat) (v : AV) (m : Nat) (f : Nat → Bool × Int) : Prop :=
  v = lraw false (rl m f) ∨ ∃ id fz, v = .ref id 0 m ∧ lo ≤ id ∧ id < nx ∧ id ∉ bad ∧ h id = some ⟨fr (rl m f), true, 2, fz⟩
/-- The work: columns, unit columns, pivots. -/
structure WS (h : Heap) (lo nx W C U p : Nat) (pv : AV) (m n : Nat) (cv uv : Nat → AV) (cf uf : Nat → Nat → Bool × Int) : Prop where
  w : h W = some ⟨[.ref C 0 n, .ref U 0 n, pv], true, 3, false⟩
  c : h C = some ⟨(List.range n).map cv, false, 1, false⟩
  u : h U = some ⟨(List.range n).map uv, false, 1, false⟩
  lt : lo ≤ W ∧ lo ≤ C ∧ lo ≤ U ∧ W < nx ∧ C < nx ∧ U < nx ∧ W ≠ C ∧ W ≠ U ∧ C ≠ U
  cc : ∀ k, k < n → ColV h lo nx [W, C, U, p] (cv k) m (cf k)
  uu : ∀ k, k < n → ColV h lo nx [W, C, U, p] (uv k) n (uf k)
  fc : ∀ k i, k < n → i < m → (cf k i).1 = true → (cf k i).2 = 0
  fu : ∀ k i, k < n → i < n → (uf k i).1 = true → (uf k i).2 = 0
/-- What a column's value is to a pure call. -/
theorem ColV.pur {h : Heap} {lo nx : Nat} {bad : List Nat} {v : AV} {m : Nat} {f : Nat → Bool × Int} (hc : ColV h lo nx bad v m f) (n : Nat) : ∃ ids : List Nat, (ids = [] ∨ ∃ id, ids = [id] ∧ lo ≤ id ∧ id < nx ∧ id ∉ bad) ∧ purify (n + 2) h v = some (lraw false (rl m f), ids) := by
  rcases hc with rfl | ⟨id, fz, rfl, h1, h2, h3, h4⟩
  · exact ⟨[], .inl rfl, purify_lraw⟩
  · refine ⟨[id], .inr ⟨id, rfl, h1, h2, h3⟩, ?_⟩
    rw [purify_ref, h4]
    exact refP_fr (rl_len m f)
end Go.Proofs.Ytnpomadbaanpkaa

/- Walks: take, its first half. (Own work of this repo.) -/
namespace Go.Proofs.Ytnpomadbaanpkaa
open Vm
set_option maxRecDepth 10000

/-- What take makes of a column. -/
def tkf (f g : Nat → Bool × Int) (b : Int) : Nat → Bool × Int := fun i => (false, (f i).2 - (g i).2 * b)
/-- Everything that take computes fits. -/
def TkFit (m : Nat) (f g : Nat → Bool × Int) (b : Int) : Prop := ∀ i, i < m → (dg (f i).2).length ≤ 4096 ∧ (dg (g i).2).length ≤ 4096 ∧ (dg ((g i).2 * b)).length ≤ 4096 ∧ (dg ((f i).2 - (g i).2 * b)).length ≤ 4096
theorem each_take (m : Nat) (f g : Nat → Bool × Int) (fb : Bool) (b : Int) (hm : m ≤ 100) (hb : (dg b).length ≤ 4096) (hf : TkFit m f g b) :
    denP E 63 [lraw false (rl m f), lraw false (rl m g), .fn 102 [] [.imm [.bool (ng b), .lst fb ((dg b).map wd)]]] = some (.ret (lraw false (rl m (tkf f g b)))) := by
  have h := each_imm 102 rfl (ng b) fb (dg b) false (rl m f) false (rl m g) (fun i => (f i).2 - (g i).2 * b) (by rw [rl_len, rl_len]; exact Nat.le_refl _) (by rw [rl_len]; exact hm) (fun i hi => by
    rw [rl_len] at hi
    rw [rl_get hi, rl_get hi]
    obtain ⟨h1, h2, h3, h4⟩ := hf i hi
    exact take1_spec (f i).1 (g i).1 fb (f i).2 (g i).2 b h1 h2 hb h3 h4)
  rw [rl_len] at h
  exact h
set_option maxHeartbeats 4000000 in
theorem take_open (h : Heap) (lo nx W C U p : Nat) (pv : AV) (m n : Nat) (cv uv : Nat → AV) (cf uf : Nat → Nat → Bool × Int) (hS : WS h lo nx W C U p pv m n cv uv cf uf) (fr_ wh : Nat) (hfr : fr_ < n) (hwh : wh < n) (hm : m ≤ 100) (hn : n ≤ 100) (fb : Bool) (b : Int) (hb : (dg b).length ≤ 4096) (hf1 : TkFit m (cf fr_) (cf wh) b) (hf2 : TkFit n (uf fr_) (uf wh) b) :
    ∃ (h' : Heap) (n' : Nat), denO E 94 [.ptr W 0, .int .i64 (fr_ : Int), .int .i64 (wh : Int), I fb b] h nx = some (.ret (.tup []), h', n') ∧ nx ≤ n' ∧ (∀ i, i < lo → h' i = h i) ∧ (p < nx → p ≠ W → p ≠ C → p ≠ U → h' p = h p) ∧
      WS h' lo n' W C U p pv m n (fun k => if k = fr_ then lraw false (rl m (tkf (cf fr_) (cf wh) b)) else cv k) (fun k => if k = fr_ then lraw false (rl n (tkf (uf fr_) (uf wh) b)) else uv k) (fun k => if k = fr_ then tkf (cf fr_) (cf wh) b else cf k) (fun k => if k = fr_ then tkf (uf fr_) (uf wh) b else uf k) := by
  obtain ⟨l1, l2, l3, l4, l5, l6, l7, l8, l9⟩ := hS.lt
  have hw := hS.w
  have hc := hS.c
  have hu := hS.u
  have key : ∃ v h' n', denO E 94 [.ptr W 0, .int .i64 (fr_ : Int), .int .i64 (wh : Int), I fb b] h nx = some (.ret v, h', n') ∧ v = .tup [] ∧ nx ≤ n' ∧ h' W = some ⟨[.ref C 0 n, .ref U 0 n, pv], true, 3, false⟩ ∧ h' C = some ⟨((List.range n).map cv).set fr_ (lraw false (rl m (tkf (cf fr_) (cf wh) b))), false, 1, false⟩ ∧ h' U = some ⟨((List.range n).map uv).set fr_ (lraw false (rl n (tkf (uf fr_) (uf wh) b))), false, 1, false⟩ ∧
      ∀ i, i < nx → i ≠ C → i ≠ U → h' i = h i ∨ (lo ≤ i ∧ i ≠ W ∧ i ≠ p ∧ ∃ cs a e fz, h i = some ⟨cs, a, e, fz⟩ ∧ h' i = some ⟨cs, a, e, true⟩) := by
    refine denO_intro E94 rfl ?_
    have e1 := each_take m (cf fr_) (cf wh) fb b hm hb hf1
    have e2 := each_take n (uf fr_) (uf wh) fb b hn hb hf2
    have g1 := range_get (f := cv) hfr
    have g2 := range_get (f := cv) hwh
    have g3 := range_get (f := uv) hfr
    have g4 := range_get (f := uv) hwh
    have hlc : ((List.range n).map cv).length = n := by simp
    have hlu : ((List.range n).map uv).length = n := by simp
    have z1 : ((0 : Int) ≤ (fr_ : Int)) = True := eq_true (by omega)
    have z2 : ((0 : Int) ≤ (wh : Int)) = True := eq_true (by omega)
    have z3 : ((fr_ : Int) < (n : Int)) = True := eq_true (by omega)
    have z4 : ((wh : Int) < (n : Int)) = True := eq_true (by omega)
    have z5 : (fr_ + 1 ≤ n) = True := eq_true (by omega)
    have x1 : (W = nx) = False := eq_false (by omega)
    have x2 : (nx = W) = False := eq_false (by omega)
    have x3 : (C = nx) = False := eq_false (by omega)
    have x4 : (nx = C) = False := eq_false (by omega)
    have x5 : (U = nx) = False := eq_false (by omega)
    have x6 : (nx = U) = False := eq_false (by omega)
    have x7 : (W = C) = False := eq_false l7
    have x8 : (C = W) = False := eq_false fun e => l7 e.symm
    have x9 : (W = U) = False := eq_false l8
    have x10 : (U = W) = False := eq_false fun e => l8 e.symm
    have x11 : (C = U) = False := eq_false l9
    have x12 : (U = C) = False := eq_false fun e => l9 e.symm
    have hcf := hS.cc fr_ hfr
    have hcw := hS.cc wh hwh
    have huf := hS.uu fr_ hfr
    have huw := hS.uu wh hwh
    simp (maxSteps := 4000000) only [go_sem, seval, ↓reduceIte, reduceCtorEq, Try.f94, places, fillAll]
    have hcl : ∀ (k : Nat) (H : Heap), purify (k + 1) H (.fn 102 [] [.ptr nx 0]) = fn1P 102 (capP k H nx 0 (H nx)) := fun k H => purify_fn1 rfl
    obtain ⟨QQ, hQQ⟩ : ∃ QQ : Ex → St → Prop, QQ = fun ex τ => ex = .norm ∧ (∃ g : Nat → AV, τ.sl = [.ptr W 0, .int .i64 (fr_ : Int), .int .i64 (wh : Int), g 3, g 4, g 5, g 6, g 7, .fn 102 [] [.ptr nx 0], g 9, g 10, g 11, g 12, g 13, g 14, g 15, g 16, g 17, g 18, g 19, g 20, g 21, g 22, g 23, g 24, g 25, g 26, g 27, g 28, g 29, g 30, g 31, g 32, g 33, g 34, g 35, g 36, g 37, g 38, g 39, g 40, g 41, g 42, g 43, g 44, g 45, g 46, g 47, g 48, g 49, g 50, g 51, g 52, g 53, g 54, g 55, g 56]) ∧ nx + 1 ≤ τ.nx ∧ τ.h W = some ⟨[.ref C 0 n, .ref U 0 n, pv], true, 3, false⟩ ∧ τ.h C = some ⟨((List.range n).map cv).set fr_ (lraw false (rl m (tkf (cf fr_) (cf wh) b))), false, 1, false⟩ ∧ τ.h U = some ⟨(List.range n).map uv, false, 1, false⟩ ∧ (∃ fz, τ.h nx = some ⟨[.bool (ng b), .lst fb ((dg b).map wd)], true, 2, fz⟩) ∧
        (∀ i, i < nx → i ≠ C → τ.h i = h i ∨ (lo ≤ i ∧ i ≠ W ∧ i ≠ U ∧ i ≠ p ∧ ∃ cs a e fz, h i = some ⟨cs, a, e, fz⟩ ∧ τ.h i = some ⟨cs, a, e, true⟩)) := ⟨_, rfl⟩
    refine W_mono (Q := QQ) ?_ ?_
    · refine W_drawn ?_
      rcases hcf with hv1 | ⟨id1, fz1, hv1, hlo1, hlt1, hb1, hh1⟩ <;> rcases hcw with hv2 | ⟨id2, fz2, hv2, hlo2, hlt2, hb2, hh2⟩
      · skip
        simp (maxSteps := 4000000) only [go_sem, seval, ↓reduceIte, reduceCtorEq, hw, hc, hlc, g1, g2, z1, z2, z3, z4, z5, e1, x1, x2, x3, x4, x5, x6, x7, x8, x9, x10, x11, x12, hv1, hv2, purify_lraw, hcl, capP, fn1P_some]
        refine ⟨by refine okR_pairs ?_; (repeat ((with_unfolding_all refine And.intro ?_ ?_); (focus (rw [free_mk] <;> (try simp) <;> (try omega))))); (with_unfolding_all exact True.intro), ?_⟩
        rw [hQQ]
        refine ⟨rfl, ?_, Nat.le_refl _, ?_, ?_, ?_, ⟨true, ?_⟩, fun i i1 i2 => ?_⟩
        · refine garb ?_
          rfl
        · simp only [upd_apply, ↓reduceIte, Nat.reduceEqDiff, hw, x1, x2, x3, x4, x5, x6, x7, x8, x9, x10, x11, x12]
        · simp only [upd_apply, ↓reduceIte, Nat.reduceEqDiff, if_pos, x1, x2, x3, x4, x5, x6, x7, x8, x9, x10, x11, x12]
        · simp only [upd_apply, ↓reduceIte, Nat.reduceEqDiff, hu, x1, x2, x3, x4, x5, x6, x7, x8, x9, x10, x11, x12]
        · simp only [upd_apply, ↓reduceIte, Nat.reduceEqDiff, if_pos, x1, x2, x3, x4, x5, x6, x7, x8, x9, x10, x11, x12]
        · simp only [upd_apply]
          rw [if_neg i2, if_neg (by omega)]
          rw [if_neg (by omega)]
          exact .inl rfl
      · have hp2 : ∀ (k : Nat) (H : Heap) (f : Bool), refP (k + 1) H id2 0 m (some ⟨fr (rl m (cf wh)), true, 2, f⟩) = some (.lst false ((rl m (cf wh)).map ivr), [id2]) := fun k H f => refP_fr (rl_len _ _)
        simp only [List.mem_cons, List.not_mem_nil, or_false, not_or] at hb2
        obtain ⟨hb21, hb22, hb23, hb24⟩ := hb2
        have yb0 : (id2 = nx) = False := eq_false (by omega)
        have yb1 : (nx = id2) = False := eq_false (by omega)
        have yb2 : (id2 = C) = False := eq_false (by omega)
        have yb3 : (C = id2) = False := eq_false (by omega)
        have yb4 : (id2 = U) = False := eq_false (by omega)
        have yb5 : (U = id2) = False := eq_false (by omega)
        have yb6 : (id2 = W) = False := eq_false (by omega)
        have yb7 : (W = id2) = False := eq_false (by omega)
        simp (maxSteps := 4000000) only [go_sem, seval, ↓reduceIte, reduceCtorEq, hw, hc, hlc, g1, g2, z1, z2, z3, z4, z5, e1, x1, x2, x3, x4, x5, x6, x7, x8, x9, x10, x11, x12, hv1, hv2, hp2, hh2, yb0, yb1, yb2, yb3, yb4, yb5, yb6, yb7, purify_lraw, hcl, capP, fn1P_some]
        refine ⟨by refine okR_pairs ?_; (repeat ((with_unfolding_all refine And.intro ?_ ?_); (focus (rw [free_mk] <;> (try simp) <;> (try omega))))); (with_unfolding_all exact True.intro), ?_⟩
        rw [hQQ]
        refine ⟨rfl, ?_, Nat.le_refl _, ?_, ?_, ?_, ⟨true, ?_⟩, fun i i1 i2 => ?_⟩
        · refine garb ?_
          rfl
        · simp only [upd_apply, ↓reduceIte, Nat.reduceEqDiff, hw, x1, x2, x3, x4, x5, x6, x7, x8, x9, x10, x11, x12, yb0, yb1, yb2, yb3, yb4, yb5, yb6, yb7]
        · simp only [upd_apply, ↓reduceIte, Nat.reduceEqDiff, if_pos, x1, x2, x3, x4, x5, x6, x7, x8, x9, x10, x11, x12, yb0, yb1, yb2, yb3, yb4, yb5, yb6, yb7]
        · simp only [upd_apply, ↓reduceIte, Nat.reduceEqDiff, hu, x1, x2, x3, x4, x5, x6, x7, x8, x9, x10, x11, x12, yb0, yb1, yb2, yb3, yb4, yb5, yb6, yb7]
        · simp only [upd_apply, ↓reduceIte, Nat.reduceEqDiff, if_pos, x1, x2, x3, x4, x5, x6, x7, x8, x9, x10, x11, x12, yb0, yb1, yb2, yb3, yb4, yb5, yb6, yb7]
        · simp only [upd_apply]
          rw [if_neg i2, if_neg (by omega)]
          by_cases e2 : i = id2
          · refine .inr ⟨by omega, by omega, by omega, by omega, _, _, _, _, by rw [e2]; exact hh2, ?_⟩
            rw [if_pos e2]
          rw [if_neg e2]
          rw [if_neg (by omega)]
          exact .inl rfl
      · have hp1 : ∀ (k : Nat) (H : Heap) (f : Bool), refP (k + 1) H id1 0 m (some ⟨fr (rl m (cf fr_)), true, 2, f⟩) = some (.lst false ((rl m (cf fr_)).map ivr), [id1]) := fun k H f => refP_fr (rl_len _ _)
        simp only [List.mem_cons, List.not_mem_nil, or_false, not_or] at hb1
        obtain ⟨hb11, hb12, hb13, hb14⟩ := hb1
        have ya0 : (id1 = nx) = False := eq_false (by omega)
        have ya1 : (nx = id1) = False := eq_false (by omega)
        have ya2 : (id1 = C) = False := eq_false (by omega)
        have ya3 : (C = id1) = False := eq_false (by omega)
        have ya4 : (id1 = U) = False := eq_false (by omega)
        have ya5 : (U = id1) = False := eq_false (by omega)
        have ya6 : (id1 = W) = False := eq_false (by omega)
        have ya7 : (W = id1) = False := eq_false (by omega)
        simp (maxSteps := 4000000) only [go_sem, seval, ↓reduceIte, reduceCtorEq, hw, hc, hlc, g1, g2, z1, z2, z3, z4, z5, e1, x1, x2, x3, x4, x5, x6, x7, x8, x9, x10, x11, x12, hv1, hv2, hp1, hh1, ya0, ya1, ya2, ya3, ya4, ya5, ya6, ya7, purify_lraw, hcl, capP, fn1P_some]
        refine ⟨by refine okR_pairs ?_; (repeat ((with_unfolding_all refine And.intro ?_ ?_); (focus (rw [free_mk] <;> (try simp) <;> (try omega))))); (with_unfolding_all exact True.intro), ?_⟩
        rw [hQQ]
        refine ⟨rfl, ?_, Nat.le_refl _, ?_, ?_, ?_, ⟨true, ?_⟩, fun i i1 i2 => ?_⟩
        · refine garb ?_
          rfl
        · simp only [upd_apply, ↓reduceIte, Nat.reduceEqDiff, hw, x1, x2, x3, x4, x5, x6, x7, x8, x9, x10, x11, x12, ya0, ya1, ya2, ya3, ya4, ya5, ya6, ya7]
        · simp only [upd_apply, ↓reduceIte, Nat.reduceEqDiff, if_pos, x1, x2, x3, x4, x5, x6, x7, x8, x9, x10, x11, x12, ya0, ya1, ya2, ya3, ya4, ya5, ya6, ya7]
        · simp only [upd_apply, ↓reduceIte, Nat.reduceEqDiff, hu, x1, x2, x3, x4, x5, x6, x7, x8, x9, x10, x11, x12, ya0, ya1, ya2, ya3, ya4, ya5, ya6, ya7]
        · simp only [upd_apply, ↓reduceIte, Nat.reduceEqDiff, if_pos, x1, x2, x3, x4, x5, x6, x7, x8, x9, x10, x11, x12, ya0, ya1, ya2, ya3, ya4, ya5, ya6, ya7]
        · simp only [upd_apply]
          rw [if_neg i2, if_neg (by omega)]
          by_cases e1 : i = id1
          · refine .inr ⟨by omega, by omega, by omega, by omega, _, _, _, _, by rw [e1]; exact hh1, ?_⟩
            rw [if_pos e1]
          rw [if_neg e1]
          rw [if_neg (by omega)]
          exact .inl rfl
      · have hp1 : ∀ (k : Nat) (H : Heap) (f : Bool), refP (k + 1) H id1 0 m (some ⟨fr (rl m (cf fr_)), true, 2, f⟩) = some (.lst false ((rl m (cf fr_)).map ivr), [id1]) := fun k H f => refP_fr (rl_len _ _)
        simp only [List.mem_cons, List.not_mem_nil, or_false, not_or] at hb1
        obtain ⟨hb11, hb12, hb13, hb14⟩ := hb1
        have ya0 : (id1 = nx) = False := eq_false (by omega)
        have ya1 : (nx = id1) = False := eq_false (by omega)
        have ya2 : (id1 = C) = False := eq_false (by omega)
        have ya3 : (C = id1) = False := eq_false (by omega)
        have ya4 : (id1 = U) = False := eq_false (by omega)
        have ya5 : (U = id1) = False := eq_false (by omega)
        have ya6 : (id1 = W) = False := eq_false (by omega)
        have ya7 : (W = id1) = False := eq_false (by omega)
        have hp2 : ∀ (k : Nat) (H : Heap) (f : Bool), refP (k + 1) H id2 0 m (some ⟨fr (rl m (cf wh)), true, 2, f⟩) = some (.lst false ((rl m (cf wh)).map ivr), [id2]) := fun k H f => refP_fr (rl_len _ _)
        simp only [List.mem_cons, List.not_mem_nil, or_false, not_or] at hb2
        obtain ⟨hb21, hb22, hb23, hb24⟩ := hb2
        have yb0 : (id2 = nx) = False := eq_false (by omega)
        have yb1 : (nx = id2) = False := eq_false (by omega)
        have yb2 : (id2 = C) = False := eq_false (by omega)
        have yb3 : (C = id2) = False := eq_false (by omega)
        have yb4 : (id2 = U) = False := eq_false (by omega)
        have yb5 : (U = id2) = False := eq_false (by omega)
        have yb6 : (id2 = W) = False := eq_false (by omega)
        have yb7 : (W = id2) = False := eq_false (by omega)
        simp (maxSteps := 4000000) only [go_sem, seval, ↓reduceIte, reduceCtorEq, hw, hc, hlc, g1, g2, z1, z2, z3, z4, z5, e1, x1, x2, x3, x4, x5, x6, x7, x8, x9, x10, x11, x12, hv1, hv2, hp1, hh1, ya0, ya1, ya2, ya3, ya4, ya5, ya6, ya7, hp2, hh2, yb0, yb1, yb2, yb3, yb4, yb5, yb6, yb7, purify_lraw, hcl, capP, fn1P_some]
        refine ⟨by refine okR_pairs ?_; (repeat ((with_unfolding_all refine And.intro ?_ ?_); (focus (rw [free_mk] <;> (try simp) <;> (try omega))))); (with_unfolding_all exact True.intro), ?_⟩
        rw [hQQ]
        refine ⟨rfl, ?_, Nat.le_refl _, ?_, ?_, ?_, ⟨true, ?_⟩, fun i i1 i2 => ?_⟩
        · refine garb ?_
          rfl
        · simp only [upd_apply, ↓reduceIte, Nat.reduceEqDiff, hw, x1, x2, x3, x4, x5, x6, x7, x8, x9, x10, x11, x12, ya0, ya1, ya2, ya3, ya4, ya5, ya6, ya7, yb0, yb1, yb2, yb3, yb4, yb5, yb6, yb7]
        · simp only [upd_apply, ↓reduceIte, Nat.reduceEqDiff, if_pos, x1, x2, x3, x4, x5, x6, x7, x8, x9, x10, x11, x12, ya0, ya1, ya2, ya3, ya4, ya5, ya6, ya7, yb0, yb1, yb2, yb3, yb4, yb5, yb6, yb7]
        · simp only [upd_apply, ↓reduceIte, Nat.reduceEqDiff, hu, x1, x2, x3, x4, x5, x6, x7, x8, x9, x10, x11, x12, ya0, ya1, ya2, ya3, ya4, ya5, ya6, ya7, yb0, yb1, yb2, yb3, yb4, yb5, yb6, yb7]
        · simp only [upd_apply, ↓reduceIte, Nat.reduceEqDiff, if_pos, x1, x2, x3, x4, x5, x6, x7, x8, x9, x10, x11, x12, ya0, ya1, ya2, ya3, ya4, ya5, ya6, ya7, yb0, yb1, yb2, yb3, yb4, yb5, yb6, yb7]
        · simp only [upd_apply]
          rw [if_neg i2, if_neg (by omega)]
          by_cases e2 : i = id2
          · refine .inr ⟨by omega, by omega, by omega, by omega, _, _, _, _, by rw [e2]; exact hh2, ?_⟩
            rw [if_pos e2]
          rw [if_neg e2]
          by_cases e1 : i = id1
          · refine .inr ⟨by omega, by omega, by omega, by omega, _, _, _, _, by rw [e1]; exact hh1, ?_⟩
            rw [if_pos e1]
          rw [if_neg e1]
          rw [if_neg (by omega)]
          exact .inl rfl
    · rw [hQQ]
      clear hQQ e1 g1 g2 hlc hcf hcw hc hw hu
      rintro ex ⟨sl, H', m'⟩ ⟨rfl, ⟨g, rfl⟩, hm', hw, hc, hu, ⟨fzb, hby⟩, hfr1⟩
      dsimp only at hm' hw hc hu hby hfr1
      have conv : ∀ (id : Nat) (cs : List AV) (fz : Bool), id < nx → id ≠ C → h id = some ⟨cs, true, 2, fz⟩ → ∃ fz', H' id = some ⟨cs, true, 2, fz'⟩ := fun id cs fz i1 i2 i3 => by
        rcases hfr1 id i1 i2 with e | ⟨_, _, _, _, cs', a', e', fz', q1, q2⟩
        · exact ⟨fz, e.trans i3⟩
        · rw [i3] at q1
          cases q1
          exact ⟨true, q2⟩
      refine W_drawn ?_
      rcases huf with hv1 | ⟨id1, fz1, hv1, hlo1, hlt1, hb1, hh1'⟩ <;> rcases huw with hv2 | ⟨id2, fz2, hv2, hlo2, hlt2, hb2, hh2'⟩
      · simp (maxSteps := 4000000) only [go_sem, seval, ↓reduceIte, reduceCtorEq, hw, hu, hby, hlu, g3, g4, z1, z2, z3, z4, z5, e2, x1, x2, x3, x4, x5, x6, x7, x8, x9, x10, x11, x12, hv1, hv2, purify_lraw, hcl, capP, fn1P_some]
        refine ⟨by refine okR_pairs ?_; (repeat ((with_unfolding_all refine And.intro ?_ ?_); (focus (rw [free_mk] <;> (try simp) <;> (try omega))))); (with_unfolding_all exact True.intro), by omega, ?_⟩
        refine ⟨hc, fun i i1 i2 i3 => ?_⟩
        rw [if_neg i3, if_neg (by omega)]
        rcases hfr1 i i1 i2 with e | ⟨a1, a2, a3, a4, q⟩
        · exact .inl e
        · exact .inr ⟨a1, a2, a4, q⟩
      · simp only [List.mem_cons, List.not_mem_nil, or_false, not_or] at hb2
        obtain ⟨hb21, hb22, hb23, hb24⟩ := hb2
        obtain ⟨fz2', hh2⟩ := conv id2 _ _ hlt2 hb22 hh2'
        have hp2 : ∀ (k : Nat) (H : Heap) (f : Bool), refP (k + 1) H id2 0 n (some ⟨fr (rl n (uf wh)), true, 2, f⟩) = some (.lst false ((rl n (uf wh)).map ivr), [id2]) := fun k H f => refP_fr (rl_len _ _)
        have yb0 : (id2 = nx) = False := eq_false (by omega)
        have yb1 : (nx = id2) = False := eq_false (by omega)
        have yb2 : (id2 = C) = False := eq_false (by omega)
        have yb3 : (C = id2) = False := eq_false (by omega)
        have yb4 : (id2 = U) = False := eq_false (by omega)
        have yb5 : (U = id2) = False := eq_false (by omega)
        have yb6 : (id2 = W) = False := eq_false (by omega)
        have yb7 : (W = id2) = False := eq_false (by omega)
        simp (maxSteps := 4000000) only [go_sem, seval, ↓reduceIte, reduceCtorEq, hw, hu, hby, hlu, g3, g4, z1, z2, z3, z4, z5, e2, x1, x2, x3, x4, x5, x6, x7, x8, x9, x10, x11, x12, hv1, hv2, hp2, hh2, yb0, yb1, yb2, yb3, yb4, yb5, yb6, yb7, purify_lraw, hcl, capP, fn1P_some]
        refine ⟨by refine okR_pairs ?_; (repeat ((with_unfolding_all refine And.intro ?_ ?_); (focus (rw [free_mk] <;> (try simp) <;> (try omega))))); (with_unfolding_all exact True.intro), by omega, ?_⟩
        refine ⟨hc, fun i i1 i2 i3 => ?_⟩
        rw [if_neg i3, if_neg (by omega)]
        by_cases e2 : i = id2
        · refine .inr ⟨by omega, by omega, by omega, _, _, _, _, by rw [e2]; exact hh2', ?_⟩
          rw [if_pos e2]
        rw [if_neg e2]
        rcases hfr1 i i1 i2 with e | ⟨a1, a2, a3, a4, q⟩
        · exact .inl e
        · exact .inr ⟨a1, a2, a4, q⟩
      · simp only [List.mem_cons, List.not_mem_nil, or_false, not_or] at hb1
        obtain ⟨hb11, hb12, hb13, hb14⟩ := hb1
        obtain ⟨fz1', hh1⟩ := conv id1 _ _ hlt1 hb12 hh1'
        have hp1 : ∀ (k : Nat) (H : Heap) (f : Bool), refP (k + 1) H id1 0 n (some ⟨fr (rl n (uf fr_)), true, 2, f⟩) = some (.lst false ((rl n (uf fr_)).map ivr), [id1]) := fun k H f => refP_fr (rl_len _ _)
        have ya0 : (id1 = nx) = False := eq_false (by omega)
        have ya1 : (nx = id1) = False := eq_false (by omega)
        have ya2 : (id1 = C) = False := eq_false (by omega)
        have ya3 : (C = id1) = False := eq_false (by omega)
        have ya4 : (id1 = U) = False := eq_false (by omega)
        have ya5 : (U = id1) = False := eq_false (by omega)
        have ya6 : (id1 = W) = False := eq_false (by omega)
        have ya7 : (W = id1) = False := eq_false (by omega)
        simp (maxSteps := 4000000) only [go_sem, seval, ↓reduceIte, reduceCtorEq, hw, hu, hby, hlu, g3, g4, z1, z2, z3, z4, z5, e2, x1, x2, x3, x4, x5, x6, x7, x8, x9, x10, x11, x12, hv1, hv2, hp1, hh1, ya0, ya1, ya2, ya3, ya4, ya5, ya6, ya7, purify_lraw, hcl, capP, fn1P_some]
        refine ⟨by refine okR_pairs ?_; (repeat ((with_unfolding_all refine And.intro ?_ ?_); (focus (rw [free_mk] <;> (try simp) <;> (try omega))))); (with_unfolding_all exact True.intro), by omega, ?_⟩
        refine ⟨hc, fun i i1 i2 i3 => ?_⟩
        rw [if_neg i3, if_neg (by omega)]
        by_cases e1 : i = id1
        · refine .inr ⟨by omega, by omega, by omega, _, _, _, _, by rw [e1]; exact hh1', ?_⟩
          rw [if_pos e1]
        rw [if_neg e1]
        rcases hfr1 i i1 i2 with e | ⟨a1, a2, a3, a4, q⟩
        · exact .inl e
        · exact .inr ⟨a1, a2, a4, q⟩
      · simp only [List.mem_cons, List.not_mem_nil, or_false, not_or] at hb1
        obtain ⟨hb11, hb12, hb13, hb14⟩ := hb1
        obtain ⟨fz1', hh1⟩ := conv id1 _ _ hlt1 hb12 hh1'
        have hp1 : ∀ (k : Nat) (H : Heap) (f : Bool), refP (k + 1) H id1 0 n (some ⟨fr (rl n (uf fr_)), true, 2, f⟩) = some (.lst false ((rl n (uf fr_)).map ivr), [id1]) := fun k H f => refP_fr (rl_len _ _)
        have ya0 : (id1 = nx) = False := eq_false (by omega)
        have ya1 : (nx = id1) = False := eq_false (by omega)
        have ya2 : (id1 = C) = False := eq_false (by omega)
        have ya3 : (C = id1) = False := eq_false (by omega)
        have ya4 : (id1 = U) = False := eq_false (by omega)
        have ya5 : (U = id1) = False := eq_false (by omega)
        have ya6 : (id1 = W) = False := eq_false (by omega)
        have ya7 : (W = id1) = False := eq_false (by omega)
        simp only [List.mem_cons, List.not_mem_nil, or_false, not_or] at hb2
        obtain ⟨hb21, hb22, hb23, hb24⟩ := hb2
        obtain ⟨fz2', hh2⟩ := conv id2 _ _ hlt2 hb22 hh2'
        have hp2 : ∀ (k : Nat) (H : Heap) (f : Bool), refP (k + 1) H id2 0 n (some ⟨fr (rl n (uf wh)), true, 2, f⟩) = some (.lst false ((rl n (uf wh)).map ivr), [id2]) := fun k H f => refP_fr (rl_len _ _)
        have yb0 : (id2 = nx) = False := eq_false (by omega)
        have yb1 : (nx = id2) = False := eq_false (by omega)
        have yb2 : (id2 = C) = False := eq_false (by omega)
        have yb3 : (C = id2) = False := eq_false (by omega)
        have yb4 : (id2 = U) = False := eq_false (by omega)
        have yb5 : (U = id2) = False := eq_false (by omega)
        have yb6 : (id2 = W) = False := eq_false (by omega)
        have yb7 : (W = id2) = False := eq_false (by omega)
        simp (maxSteps := 4000000) only [go_sem, seval, ↓reduceIte, reduceCtorEq, hw, hu, hby, hlu, g3, g4, z1, z2, z3, z4, z5, e2, x1, x2, x3, x4, x5, x6, x7, x8, x9, x10, x11, x12, hv1, hv2, hp1, hh1, ya0, ya1, ya2, ya3, ya4, ya5, ya6, ya7, hp2, hh2, yb0, yb1, yb2, yb3, yb4, yb5, yb6, yb7, purify_lraw, hcl, capP, fn1P_some]
        refine ⟨by refine okR_pairs ?_; (repeat ((with_unfolding_all refine And.intro ?_ ?_); (focus (rw [free_mk] <;> (try simp) <;> (try omega))))); (with_unfolding_all exact True.intro), by omega, ?_⟩
        refine ⟨hc, fun i i1 i2 i3 => ?_⟩
        rw [if_neg i3, if_neg (by omega)]
        by_cases e2 : i = id2
        · refine .inr ⟨by omega, by omega, by omega, _, _, _, _, by rw [e2]; exact hh2', ?_⟩
          rw [if_pos e2]
        rw [if_neg e2]
        by_cases e1 : i = id1
        · refine .inr ⟨by omega, by omega, by omega, _, _, _, _, by rw [e1]; exact hh1', ?_⟩
          rw [if_pos e1]
        rw [if_neg e1]
        rcases hfr1 i i1 i2 with e | ⟨a1, a2, a3, a4, q⟩
        · exact .inl e
        · exact .inr ⟨a1, a2, a4, q⟩
  obtain ⟨v, h', n', d1, rfl, d2, d3, d4, d5, d6⟩ := key
  have conv : ∀ (v : AV) (m : Nat) (f : Nat → Bool × Int), ColV h lo nx [W, C, U, p] v m f → ColV h' lo n' [W, C, U, p] v m f := fun v m f hv => by
    rcases hv with hv | ⟨id, fz, hv, k1, k2, k3, k4⟩
    · exact .inl hv
    · have k3' := k3
      simp only [List.mem_cons, List.not_mem_nil, or_false, not_or] at k3'
      rcases d6 id k2 k3'.2.1 k3'.2.2.1 with e | ⟨_, _, _, cs', a', e', fz', q1, q2⟩
      · exact .inr ⟨id, fz, hv, k1, by omega, k3, e.trans k4⟩
      · rw [k4] at q1
        cases q1
        exact .inr ⟨id, true, hv, k1, by omega, k3, q2⟩
  refine ⟨h', n', d1, d2, fun i hi => ?_, fun p1 p2 p3 p4 => ?_, ⟨d3, ?_, ?_, by omega, fun k hk => ?_, fun k hk => ?_, fun k i hk hi hf => ?_, fun k i hk hi hf => ?_⟩⟩
  · rcases d6 i (by omega) (by omega) (by omega) with e | ⟨e, _⟩
    · exact e
    · omega
  · rcases d6 p p1 p3 p4 with e | ⟨_, _, e, _⟩
    · exact e
    · exact absurd rfl e
  · rw [d4, range_set]
  · rw [d5, range_set]
  · try dsimp only
    by_cases e : k = fr_
    · rw [if_pos e, if_pos e]; exact .inl rfl
    · rw [if_neg e, if_neg e]; exact conv _ _ _ (hS.cc k hk)
  · try dsimp only
    by_cases e : k = fr_
    · rw [if_pos e, if_pos e]; exact .inl rfl
    · rw [if_neg e, if_neg e]; exact conv _ _ _ (hS.uu k hk)
  · try dsimp only at hf ⊢
    by_cases e : k = fr_
    · rw [if_pos e] at hf; cases hf
    · rw [if_neg e] at hf ⊢; exact hS.fc k i hk hi hf
  · try dsimp only at hf ⊢
    by_cases e : k = fr_
    · rw [if_pos e] at hf; cases hf
    · rw [if_neg e] at hf ⊢; exact hS.fu k i hk hi hf
end Go.Proofs.Ytnpomadbaanpkaa

/- Euclid's algorithm on several columns: how large a linear functional becomes. (Own work of this repo.) -/
namespace Euc
/-- A round: the columns behind p are reduced by column p. -/
def rc (c : Nat → Int) (p k : Nat) : Int := if k = p then c p else c k % c p
def rt (c t : Nat → Int) (p k : Nat) : Int := if k = p then t p else t k - c k / c p * t p
/-- Exchange. -/
def sx (p b k : Nat) : Nat := if k = p then b else if k = b then p else k
def sw {α : Type} (f : Nat → α) (p b : Nat) (k : Nat) : α := f (sx p b k)
/-- The minor with a column. -/
def mu (c t : Nat → Int) (p k : Nat) : Int := t k * c p - t p * c k
theorem mu_self (c t : Nat → Int) (p : Nat) : mu c t p p = 0 := by unfold mu; rw [Int.mul_comm]; omega
/-- Rounds leave the minors with the pivot. -/
theorem mu_round (c t : Nat → Int) (p k : Nat) : mu (rc c p) (rt c t p) p k = mu c t p k := by
  unfold mu rc rt
  rw [if_pos rfl, if_pos rfl]
  by_cases h : k = p
  · rw [if_pos h, if_pos h, h]
  · rw [if_neg h, if_neg h]
    have e := Int.emod_add_mul_ediv (c k) (c p)
    generalize c k % c p = m at *
    generalize c k / c p = q at *
    rw [← e]
    grind
theorem plucker (c t : Nat → Int) (p q k : Nat) : mu c t q k * c p = mu c t p k * c q - mu c t p q * c k := by
  unfold mu; grind
theorem abs_le {z w : Int} (h1 : z ≤ w) (h2 : -w ≤ z) : z.natAbs ≤ w.natAbs := by omega
theorem mul_abs (a b : Int) : (a * b).natAbs = a.natAbs * b.natAbs := Int.natAbs_mul a b
/-- Before the first round: C and U bound the values and the functional. -/
def Ph0 (U C : Nat) (c t : Nat → Int) (p n : Nat) : Prop := ∀ k, p ≤ k → k < n → (c k).natAbs ≤ C ∧ (t k).natAbs ≤ U
/-- After the first round. -/
structure Ph1 (U C : Nat) (c t : Nat → Int) (p n : Nat) : Prop where
  pv : c p ≠ 0
  pc : (c p).natAbs ≤ C
  pt : (t p).natAbs ≤ U
  lo : ∀ k, p < k → k < n → 0 ≤ c k ∧ (c k).natAbs < (c p).natAbs
  mm : ∀ k, p < k → k < n → (mu c t p k).natAbs ≤ 2 * (U * C)
/-- From the second round on. -/
structure Ph2 (U C : Nat) (c t : Nat → Int) (p n : Nat) : Prop where
  pv : 0 < c p
  pc : (c p).natAbs ≤ C
  pt : (t p).natAbs ≤ U * (c p).natAbs + 8 * (U * C)
  lo : ∀ k, p < k → k < n → 0 ≤ c k ∧ c k < c p
  mm : ∀ k l, p ≤ k → k < n → p ≤ l → l < n → c k ≠ 0 → c l ≠ 0 → mu c t p k - mu c t p l ≤ 8 * (U * C : Nat)
  z : ∀ k, p < k → k < n → c k = 0 → (t k).natAbs ≤ 9 * (U * C)
def Eu (U C : Nat) (c t : Nat → Int) (p n : Nat) : Prop := Ph0 U C c t p n ∨ Ph1 U C c t p n ∨ Ph2 U C c t p n
/-- |x| v ≤ K v gives |x| ≤ K. -/
theorem abs_div {x : Int} {v K : Nat} (hv : 0 < v) (h : x.natAbs * v ≤ K * v) : x.natAbs ≤ K := Nat.le_of_mul_le_mul_right h hv
theorem natAbs_sub_le (a b : Int) : (a - b).natAbs ≤ a.natAbs + b.natAbs := by omega
/-- What the phases say of the bounds. -/
theorem Ph1.bound {U C : Nat} {c t : Nat → Int} {p n : Nat} (h : Ph1 U C c t p n) : ∀ k, p ≤ k → k < n → (c k).natAbs ≤ C ∧ (t k).natAbs ≤ 2 * (U * C) + U := by
  intro k h1 h2
  rcases Nat.eq_or_lt_of_le h1 with rfl | h1
  · exact ⟨h.pc, by have := h.pt; omega⟩
  · have g := h.lo k h1 h2
    refine ⟨by have := h.pc; omega, ?_⟩
    have hv : 0 < (c p).natAbs := by have := h.pv; omega
    refine abs_div hv ?_
    have e : t k * c p = mu c t p k + t p * c k := by unfold mu; omega
    have e2 : (t k).natAbs * (c p).natAbs ≤ (mu c t p k).natAbs + (t p).natAbs * (c k).natAbs := by
      rw [← mul_abs, ← mul_abs, e]; omega
    have e3 := h.mm k h1 h2
    have e4 : (t p).natAbs * (c k).natAbs ≤ U * (c p).natAbs := Nat.mul_le_mul h.pt (by omega)
    have e5 : 2 * (U * C) * 1 ≤ 2 * (U * C) * (c p).natAbs := Nat.mul_le_mul_left _ hv
    rw [Nat.add_mul]
    omega
theorem Ph2.bound {U C : Nat} {c t : Nat → Int} {p n : Nat} (hpn : p < n) (h : Ph2 U C c t p n) : ∀ k, p ≤ k → k < n → (c k).natAbs ≤ C ∧ (t k).natAbs ≤ 9 * (U * C) := by
  intro k h1 h2
  have hpc := h.pc
  have hUv : U * (c p).natAbs ≤ U * C := Nat.mul_le_mul_left U hpc
  rcases Nat.eq_or_lt_of_le h1 with rfl | h1
  · exact ⟨h.pc, by have := h.pt; omega⟩
  · have g := h.lo k h1 h2
    refine ⟨by omega, ?_⟩
    by_cases h0 : c k = 0
    · exact h.z k h1 h2 h0
    · have hv : 0 < (c p).natAbs := by have := h.pv; omega
      refine abs_div hv ?_
      have e : t k * c p = mu c t p k + t p * c k := by unfold mu; omega
      have e2 : (t k).natAbs * (c p).natAbs ≤ (mu c t p k).natAbs + (t p).natAbs * (c k).natAbs := by
        rw [← mul_abs, ← mul_abs, e]; omega
      have m1 := h.mm k p (by omega) h2 (Nat.le_refl _) hpn h0 (by have := h.pv; omega)
      have m2 := h.mm p k (Nat.le_refl _) hpn (by omega) h2 (by have := h.pv; omega) h0
      rw [mu_self] at m1 m2
      have e3 : (mu c t p k).natAbs ≤ 8 * (U * C) := by omega
      have e4 : (t p).natAbs * (c k).natAbs ≤ (U * (c p).natAbs + 8 * (U * C)) * ((c p).natAbs - 1) := Nat.mul_le_mul h.pt (by omega)
      obtain ⟨w, hw⟩ : ∃ w, (c p).natAbs = w + 1 := ⟨(c p).natAbs - 1, by omega⟩
      rw [hw] at e2 e4 hUv ⊢
      rw [Nat.add_sub_cancel] at e4
      have e5 : (U * (w + 1) + 8 * (U * C)) * w + 8 * (U * C) ≤ 9 * (U * C) * (w + 1) := by
        have e6 : U * (w + 1) * w ≤ U * C * w := Nat.mul_le_mul_right w hUv
        have e7 : (U * (w + 1) + 8 * (U * C)) * w = U * (w + 1) * w + 8 * (U * C * w) := by rw [Nat.add_mul, Nat.mul_assoc 8]
        have e8 : 9 * (U * C) * (w + 1) = 9 * (U * C * w) + 9 * (U * C) := by rw [Nat.mul_succ, Nat.mul_assoc 9]
        omega
      omega
theorem Eu.bound {U C : Nat} {c t : Nat → Int} {p n : Nat} (hC : 1 ≤ C) (h : Eu U C c t p n) : ∀ k, p ≤ k → k < n → (c k).natAbs ≤ C ∧ (t k).natAbs ≤ 9 * (U * C) := by
  intro k h1 h2
  have hU : U * 1 ≤ U * C := Nat.mul_le_mul_left U hC
  rcases h with h | h | h
  · have := h k h1 h2; omega
  · have := h.bound k h1 h2; omega
  · exact h.bound (by omega) k h1 h2
theorem sx_p (p b : Nat) : sx p b p = b := if_pos rfl
theorem sx_in {p b n k : Nat} (h1 : p ≤ b) (h2 : b < n) (h3 : p ≤ k) (h4 : k < n) : p ≤ sx p b k ∧ sx p b k < n := by
  unfold sx; split
  · exact ⟨h1, h2⟩
  · split <;> omega
theorem sx_ne {p b k : Nat} (h : k ≠ p) : sx p b k ≠ b := by
  unfold sx
  rw [if_neg h]
  split <;> omega
theorem mu_sw (c t : Nat → Int) (p b k : Nat) : mu (sw c p b) (sw t p b) p k = mu c t b (sx p b k) := by
  unfold mu sw; rw [sx_p]
/-- A round keeps the bounds. -/
theorem Eu.step {U C : Nat} {c t : Nat → Int} {p n b : Nat} (hp : p ≤ b) (hb : b < n) (h0 : c b ≠ 0) (hmin : ∀ k, p ≤ k → k < n → c k ≠ 0 → (c b).natAbs ≤ (c k).natAbs) (hmore : ∃ k, p ≤ k ∧ k < n ∧ k ≠ b ∧ c k ≠ 0) (h : Eu U C c t p n) :
    Eu U C (rc (sw c p b) p) (rt (sw c p b) (sw t p b) p) p n := by
  have hc2p : rc (sw c p b) p p = c b := by unfold rc sw; rw [if_pos rfl, sx_p]
  have ht2p : rt (sw c p b) (sw t p b) p p = t b := by unfold rt sw; rw [if_pos rfl, sx_p]
  have hmu : ∀ k, mu (rc (sw c p b) p) (rt (sw c p b) (sw t p b) p) p k = mu c t b (sx p b k) := fun k => by rw [mu_round, mu_sw]
  have hc2k : ∀ k, p < k → rc (sw c p b) p k = c (sx p b k) % c b := fun k hk => by unfold rc sw; rw [if_neg (by omega), sx_p]
  have hlo : ∀ k, p < k → k < n → 0 ≤ rc (sw c p b) p k ∧ (rc (sw c p b) p k).natAbs < (c b).natAbs := fun k hk hk2 => by
    rw [hc2k k hk]
    have g1 := Int.emod_nonneg (c (sx p b k)) h0
    have g2 := Int.emod_lt (c (sx p b k)) h0
    omega
  -- what becomes 0
  have hz : ∀ k K, p < k → rc (sw c p b) p k = 0 → (mu c t b (sx p b k)).natAbs ≤ K → (rt (sw c p b) (sw t p b) p k).natAbs ≤ K := fun k K hk hk0 hK => by
    have e := hmu k
    unfold mu at e
    rw [hk0, hc2p, Int.mul_zero, Int.sub_zero] at e
    have e2 : (rt (sw c p b) (sw t p b) p k).natAbs * (c b).natAbs ≤ K := by rw [← mul_abs, e]; exact hK
    have e3 : (rt (sw c p b) (sw t p b) p k).natAbs * 1 ≤ (rt (sw c p b) (sw t p b) p k).natAbs * (c b).natAbs := Nat.mul_le_mul_left _ (by omega)
    omega
  rcases h with h | h | h
  · -- the first round
    refine .inr (.inl ⟨by rw [hc2p]; exact h0, by rw [hc2p]; exact (h b hp hb).1, by rw [ht2p]; exact (h b hp hb).2, fun k h1 h2 => by rw [hc2p]; exact hlo k h1 h2, fun k h1 h2 => ?_⟩)
    rw [hmu k]
    obtain ⟨g1, g2⟩ := sx_in hp hb (show p ≤ k by omega) h2
    have a1 := h b hp hb
    have a2 := h (sx p b k) g1 g2
    unfold mu
    refine Nat.le_trans (natAbs_sub_le _ _) ?_
    rw [mul_abs, mul_abs]
    have b1 := Nat.mul_le_mul a2.2 a1.1
    have b2 := Nat.mul_le_mul a1.2 a2.1
    omega
  · -- the second round
    have hbp : b ≠ p := by
      rintro rfl
      obtain ⟨k, k1, k2, k3, k4⟩ := hmore
      have := h.lo k (by omega) k2
      have := hmin k k1 k2 k4
      omega
    have hbl := h.lo b (by omega) hb
    have hv : 0 < (c p).natAbs := by have := h.pv; omega
    have hM : ∀ k, p ≤ k → k < n → (mu c t p k).natAbs ≤ 2 * (U * C) ∧ (c k).natAbs ≤ (c p).natAbs := fun k k1 k2 => by
      rcases Nat.eq_or_lt_of_le k1 with rfl | k1
      · rw [mu_self]; exact ⟨Nat.zero_le _, Nat.le_refl _⟩
      · exact ⟨h.mm k k1 k2, Nat.le_of_lt (h.lo k k1 k2).2⟩
    have hM' : ∀ k, p ≤ k → k < n → (mu c t b k).natAbs ≤ 4 * (U * C) := fun k k1 k2 => by
      refine abs_div hv ?_
      rw [← mul_abs, plucker c t p b k]
      refine Nat.le_trans (natAbs_sub_le _ _) ?_
      rw [mul_abs, mul_abs]
      have b1 := Nat.mul_le_mul (hM k k1 k2).1 (hM b hp hb).2
      have b2 := Nat.mul_le_mul (hM b hp hb).1 (hM k k1 k2).2
      have e : 4 * (U * C) * (c p).natAbs = 2 * (U * C) * (c p).natAbs + 2 * (U * C) * (c p).natAbs := by rw [← Nat.add_mul]; congr 1; omega
      omega
    refine .inr (.inr ⟨by rw [hc2p]; omega, by rw [hc2p]; have := h.pc; omega, ?_, fun k h1 h2 => by rw [hc2p]; have := hlo k h1 h2; omega, fun k l k1 k2 l1 l2 k3 l3 => ?_, fun k h1 h2 h3 => ?_⟩)
    · rw [ht2p, hc2p]
      have := (h.bound b hp hb).2
      have b1 : U * 1 ≤ U * (c b).natAbs := Nat.mul_le_mul_left _ (by omega)
      omega
    · rw [hmu, hmu]
      obtain ⟨g1, g2⟩ := sx_in hp hb k1 k2
      obtain ⟨g3, g4⟩ := sx_in hp hb l1 l2
      have := hM' _ g1 g2
      have := hM' _ g3 g4
      omega
    · obtain ⟨g1, g2⟩ := sx_in hp hb (show p ≤ k by omega) h2
      have := hz k (4 * (U * C)) h1 h3 (hM' _ g1 g2)
      omega
  · -- later rounds
    have hbp : b ≠ p := by
      rintro rfl
      obtain ⟨k, k1, k2, k3, k4⟩ := hmore
      have := h.lo k (by omega) k2
      have := hmin k k1 k2 k4
      omega
    have hbl := h.lo b (by omega) hb
    have hpn : p < n := by omega
    have hv := h.pv
    have hMb : mu c t p b ≤ 8 * (U * C : Nat) ∧ -(mu c t p b) ≤ 8 * (U * C : Nat) := by
      have m1 := h.mm b p hp hb (Nat.le_refl _) hpn h0 (by omega)
      have m2 := h.mm p b (Nat.le_refl _) hpn hp hb (by omega) h0
      rw [mu_self] at m1 m2
      omega
    have hcr : ∀ k, p ≤ k → k < n → c k ≠ 0 → c b ≤ c k ∧ c k ≤ c p := fun k k1 k2 k3 => by
      have g := hmin k k1 k2 k3
      rcases Nat.eq_or_lt_of_le k1 with rfl | k1
      · omega
      · have := h.lo k k1 k2; omega
    have hR : ∀ k l, p ≤ k → k < n → p ≤ l → l < n → c k ≠ 0 → c l ≠ 0 → mu c t b k - mu c t b l ≤ 8 * (U * C : Nat) := fun k l k1 k2 l1 l2 k3 l3 => by
      have e : (mu c t b k - mu c t b l) * c p = (mu c t p k - mu c t p l) * c b - mu c t p b * (c k - c l) := by
        rw [Int.sub_mul, plucker c t p b k, plucker c t p b l]; grind
      have d1 := h.mm k l k1 k2 l1 l2 k3 l3
      have r1 := hcr k k1 k2 k3
      have r2 := hcr l l1 l2 l3
      generalize (8 * (U * C : Nat) : Int) = R at *
      have b1 : (mu c t p k - mu c t p l) * c b ≤ R * c b := Int.mul_le_mul_of_nonneg_right d1 (by omega)
      have hR0 : 0 ≤ R := by omega
      have b2 : -(mu c t p b * (c k - c l)) ≤ R * (c p - c b) := by
        rcases Int.le_total 0 (mu c t p b) with g | g
        · have e1 : -(mu c t p b * (c k - c l)) = mu c t p b * (c l - c k) := by grind
          rw [e1]
          rcases Int.le_total 0 (c l - c k) with g2 | g2
          · exact Int.mul_le_mul hMb.1 (by omega) g2 hR0
          · have := Int.mul_nonneg hR0 (show 0 ≤ c p - c b by omega)
            have := Int.mul_nonneg g (show 0 ≤ -(c l - c k) by omega)
            rw [Int.mul_neg] at this
            omega
        · have e1 : -(mu c t p b * (c k - c l)) = -(mu c t p b) * (c k - c l) := by grind
          rw [e1]
          rcases Int.le_total 0 (c k - c l) with g2 | g2
          · exact Int.mul_le_mul hMb.2 (by omega) g2 hR0
          · have := Int.mul_nonneg hR0 (show 0 ≤ c p - c b by omega)
            have := Int.mul_nonneg (show 0 ≤ -(mu c t p b) by omega) (show 0 ≤ -(c k - c l) by omega)
            rw [Int.mul_neg] at this
            omega
      have e2 : R * (c p - c b) = R * c p - R * c b := by rw [Int.mul_sub]
      have fin : (mu c t b k - mu c t b l) * c p ≤ R * c p := by omega
      exact Int.le_of_mul_le_mul_right fin hv
    refine .inr (.inr ⟨by rw [hc2p]; omega, by rw [hc2p]; have := h.pc; omega, ?_, fun k h1 h2 => by rw [hc2p]; have := hlo k h1 h2; omega, fun k l k1 k2 l1 l2 k3 l3 => ?_, fun k h1 h2 h3 => ?_⟩)
    · rw [ht2p, hc2p]
      have hv' : 0 < (c p).natAbs := by omega
      refine abs_div hv' ?_
      have e : t b * c p = mu c t p b + t p * c b := by unfold mu; omega
      have e2 : (t b).natAbs * (c p).natAbs ≤ (mu c t p b).natAbs + (t p).natAbs * (c b).natAbs := by
        rw [← mul_abs, ← mul_abs, e]; omega
      have e3 : (mu c t p b).natAbs ≤ 8 * (U * C) := by omega
      have e4 : (t p).natAbs * (c b).natAbs ≤ (U * (c p).natAbs + 8 * (U * C)) * (c b).natAbs := Nat.mul_le_mul_right _ h.pt
      have hyv : (c b).natAbs + 1 ≤ (c p).natAbs := by omega
      generalize (c b).natAbs = y at *
      generalize (c p).natAbs = v at *
      generalize (mu c t p b).natAbs = M at *
      generalize (t b).natAbs = T at *
      generalize (t p).natAbs = T0 at *
      generalize 8 * (U * C) = R at *
      have e5 : R * (y + 1) ≤ R * v := Nat.mul_le_mul_left _ hyv
      have e6 : (U * v + R) * y = U * y * v + R * y := by rw [Nat.add_mul, Nat.mul_right_comm]
      have e7 : (U * y + R) * v = U * y * v + R * v := by rw [Nat.add_mul]
      rw [Nat.mul_succ] at e5
      omega
    · rw [hmu, hmu]
      obtain ⟨g1, g2⟩ := sx_in hp hb k1 k2
      obtain ⟨g3, g4⟩ := sx_in hp hb l1 l2
      have nz : ∀ i, p ≤ i → rc (sw c p b) p i ≠ 0 → c (sx p b i) ≠ 0 := fun i hi hi0 h => by
        rcases Nat.eq_or_lt_of_le hi with rfl | hi
        · rw [sx_p] at h; exact h0 h
        · exact hi0 (by rw [hc2k i hi, h, Int.zero_emod])
      exact hR _ _ g1 g2 g3 g4 (nz k k1 k3) (nz l l1 l3)
    · obtain ⟨g1, g2⟩ := sx_in hp hb (show p ≤ k by omega) h2
      by_cases hk0 : c (sx p b k) = 0
      · -- it was 0 before
        have e : rt (sw c p b) (sw t p b) p k = t (sx p b k) := by
          unfold rt sw
          rw [if_neg (by omega), hk0, Int.zero_ediv, Int.zero_mul, Int.sub_zero]
        rw [e]
        refine h.z _ ?_ g2 hk0
        rcases Nat.eq_or_lt_of_le g1 with g | g
        · rw [← g] at hk0; omega
        · exact g
      · have m1 := hR _ b g1 g2 hp hb hk0 h0
        have m2 := hR b _ hp hb g1 g2 h0 hk0
        rw [mu_self] at m1 m2
        have := hz k (8 * (U * C)) h1 h3 (by omega)
        omega
end Euc

/- Walks: columns exchanged. (Own work of this repo.) -/
namespace Go.Proofs.Ytnpomadbaanpkaa
open Vm
set_option maxRecDepth 10000

theorem range_swap {α : Type} {f : Nat → α} {n i k : Nat} (hi : i < n) (hk : k < n) : (((List.range n).map f).set i (f k)).set k (f i) = (List.range n).map fun j => f (Euc.sx i k j) := by
  rw [range_setα, range_setα]
  refine List.map_congr_left fun j _ => ?_
  unfold Euc.sx
  by_cases h1 : j = k
  · rw [if_pos h1]
    by_cases h2 : j = i
    · rw [if_pos h2]; rw [← h1, h2]
    · rw [if_neg h2, if_pos h1]
  · rw [if_neg h1]
    by_cases h2 : j = i
    · rw [if_pos h2, if_pos h2]
    · rw [if_neg h2, if_neg h2, if_neg h1]
theorem swap_open (h : Heap) (lo nx W C U p : Nat) (pv : AV) (m n : Nat) (cv uv : Nat → AV) (cf uf : Nat → Nat → Bool × Int) (hS : WS h lo nx W C U p pv m n cv uv cf uf) (i k : Nat) (hi : i < n) (hk : k < n) (hn : n ≤ 100) :
    ∃ (h' : Heap) (n' : Nat), denO E 93 [.ptr W 0, .int .i64 (i : Int), .int .i64 (k : Int)] h nx = some (.ret (.tup []), h', n') ∧ nx ≤ n' ∧ (∀ j, j ≠ C → h' j = h j) ∧ h' C = some ⟨(List.range n).map fun j => cv (Euc.sx i k j), false, 1, false⟩ := by
  obtain ⟨l1, l2, l3, l4, l5, l6, l7, l8, l9⟩ := hS.lt
  have hw := hS.w
  have hc := hS.c
  have key : ∃ v h' n', denO E 93 [.ptr W 0, .int .i64 (i : Int), .int .i64 (k : Int)] h nx = some (.ret v, h', n') ∧ v = .tup [] ∧ nx ≤ n' ∧ (∀ j, j ≠ C → h' j = h j) ∧ h' C = some ⟨(List.range n).map fun j => cv (Euc.sx i k j), false, 1, false⟩ := by
    refine denO_intro E93 rfl ?_
    have g1 := range_get (f := cv) hi
    have g2 := range_get (f := cv) hk
    have hlc : ((List.range n).map cv).length = n := by simp
    have z1 : ((0 : Int) ≤ (i : Int)) = True := eq_true (by omega)
    have z2 : ((0 : Int) ≤ (k : Int)) = True := eq_true (by omega)
    have z3 : ((i : Int) < (n : Int)) = True := eq_true (by omega)
    have z4 : ((k : Int) < (n : Int)) = True := eq_true (by omega)
    have z5 : (i + 1 ≤ n) = True := eq_true (by omega)
    have z6 : (k + 1 ≤ n) = True := eq_true (by omega)
    have x7 : (W = C) = False := eq_false l7
    have x8 : (C = W) = False := eq_false fun e => l7 e.symm
    rw [← range_swap hi hk]
    refine W_drawn ?_
    rcases hS.cc i hi with hv1 | ⟨id1, fz1, hv1, _⟩ <;> rcases hS.cc k hk with hv2 | ⟨id2, fz2, hv2, _⟩ <;>
    (clear hS
     simp (maxSteps := 4000000) only [go_sem, seval, ↓reduceIte, reduceCtorEq, Try.f93, hw, hc, hlc, g1, g2, hv1, hv2, z1, z2, z3, z4, z5, z6, x7, x8, List.length_set, setCells_cons, setCells_nil]
     refine ⟨by refine okR_pairs ?_; (repeat ((with_unfolding_all refine And.intro ?_ ?_); (focus (rw [free_mk] <;> (try simp) <;> (try omega))))); (with_unfolding_all exact True.intro), fun j hj => ?_⟩
     rw [if_neg hj, if_neg hj])
  obtain ⟨v, h', n', d1, rfl, d2⟩ := key
  exact ⟨h', n', d1, d2⟩
end Go.Proofs.Ytnpomadbaanpkaa

/- Walks: a row looked through. (Own work of this repo.) -/
namespace Go.Proofs.Ytnpomadbaanpkaa
open Vm
set_option maxRecDepth 10000

theorem WS.mono {h h' : Heap} {lo nx nx' W C U p : Nat} {pv : AV} {m n : Nat} {cv uv : Nat → AV} {cf uf : Nat → Nat → Bool × Int} (hS : WS h lo nx W C U p pv m n cv uv cf uf) (hn : nx ≤ nx') (hh : ∀ i, i < nx → h' i = h i) : WS h' lo nx' W C U p pv m n cv uv cf uf := by
  obtain ⟨l1, l2, l3, l4, l5, l6, l7, l8, l9⟩ := hS.lt
  have conv : ∀ (v : AV) (m : Nat) (f : Nat → Bool × Int), ColV h lo nx [W, C, U, p] v m f → ColV h' lo nx' [W, C, U, p] v m f := fun v m f hv => by
    rcases hv with hv | ⟨id, fz, hv, k1, k2, k3, k4⟩
    · exact .inl hv
    · exact .inr ⟨id, fz, hv, k1, by omega, k3, (hh id k2).trans k4⟩
  exact ⟨(hh W l4).trans hS.w, (hh C l5).trans hS.c, (hh U l6).trans hS.u, by omega, fun k hk => conv _ _ _ (hS.cc k hk), fun k hk => conv _ _ _ (hS.uu k hk), hS.fc, hS.fu⟩
/-- What the scan knows: the number of elements that are not 0, the least one. -/
structure Scan (c : Nat → Int) (p k : Nat) (more : Nat) (best : Int) : Prop where
  none : more = 0 → best = -1 ∧ ∀ j, p ≤ j → j < k → c j = 0
  some : more ≠ 0 → ∃ b : Nat, best = (b : Int) ∧ p ≤ b ∧ b < k ∧ c b ≠ 0 ∧ ∀ j, p ≤ j → j < k → c j ≠ 0 → (c b).natAbs ≤ (c j).natAbs
  one : more = 1 → ∀ j, p ≤ j → j < k → best ≠ (j : Int) → c j = 0
  two : 2 ≤ more → ∃ j, p ≤ j ∧ j < k ∧ best ≠ (j : Int) ∧ c j ≠ 0
theorem Scan.start (c : Nat → Int) (p : Nat) : Scan c p p 0 (-1) := ⟨fun _ => ⟨rfl, by omega⟩, fun h => absurd rfl h, fun h => by omega, fun h => by omega⟩
theorem Scan.zero {c : Nat → Int} {p k more : Nat} {best : Int} (h : Scan c p k more best) (h0 : c k = 0) : Scan c p (k + 1) more best := by
  refine ⟨fun hm => ⟨(h.none hm).1, fun j j1 j2 => ?_⟩, fun hm => ?_, fun hm j j1 j2 j3 => ?_, fun hm => ?_⟩
  · by_cases e : j = k
    · rw [e]; exact h0
    · exact (h.none hm).2 j j1 (by omega)
  · obtain ⟨b, b1, b2, b3, b4, b5⟩ := h.some hm
    refine ⟨b, b1, b2, by omega, b4, fun j j1 j2 j3 => ?_⟩
    by_cases e : j = k
    · rw [e] at j3; exact absurd h0 j3
    · exact b5 j j1 (by omega) j3
  · by_cases e : j = k
    · rw [e]; exact h0
    · exact h.one hm j j1 (by omega) j3
  · obtain ⟨j, j1, j2, j3, j4⟩ := h.two hm
    exact ⟨j, j1, by omega, j3, j4⟩
theorem Scan.first {c : Nat → Int} {p k : Nat} {best : Int} (h : Scan c p k 0 best) (hk : p ≤ k) (h0 : c k ≠ 0) : Scan c p (k + 1) 1 (k : Int) := by
  obtain ⟨h1, h2⟩ := h.none rfl
  refine ⟨fun hm => by omega, fun _ => ⟨k, rfl, hk, by omega, h0, fun j j1 j2 j3 => ?_⟩, fun _ j j1 j2 j3 => ?_, fun hm => by omega⟩
  · by_cases e : j = k
    · rw [e]; exact Nat.le_refl _
    · exact absurd (h2 j j1 (by omega)) j3
  · exact h2 j j1 (by omega)
theorem Scan.next {c : Nat → Int} {p k more b : Nat} {best : Int} (h : Scan c p k more best) (hm : more ≠ 0) (hb : best = (b : Int)) (hk : p ≤ k) (h0 : c k ≠ 0) : Scan c p (k + 1) (more + 1) (if (c k).natAbs < (c b).natAbs then (k : Int) else best) := by
  obtain ⟨b', b1, b2, b3, b4, b5⟩ := h.some hm
  obtain rfl : b' = b := by omega
  refine ⟨fun hm => by omega, fun _ => ?_, fun hm => by omega, fun _ => ?_⟩
  · by_cases e : (c k).natAbs < (c b').natAbs
    · rw [if_pos e]
      refine ⟨k, rfl, hk, by omega, h0, fun j j1 j2 j3 => ?_⟩
      by_cases e2 : j = k
      · rw [e2]; exact Nat.le_refl _
      · have := b5 j j1 (by omega) j3; omega
    · rw [if_neg e]
      refine ⟨b', b1, b2, by omega, b4, fun j j1 j2 j3 => ?_⟩
      by_cases e2 : j = k
      · rw [e2]; omega
      · exact b5 j j1 (by omega) j3
  · by_cases e : (c k).natAbs < (c b').natAbs
    · rw [if_pos e]; exact ⟨b', b2, by omega, by omega, b4⟩
    · rw [if_neg e]; exact ⟨k, hk, by omega, by omega, h0⟩
theorem size_at (f : Bool) (x : Int) (hx : (dg x).length ≤ 4096) : ∃ o : Bool, denP E 92 [I f x] = some (.ret (I o x.natAbs)) := by
  obtain ⟨o, h, _⟩ := size_ret f x hx
  exact ⟨o, h⟩
end Go.Proofs.Ytnpomadbaanpkaa

/- Walks: a row cleared. (Own work of this repo.) -/
namespace Go.Proofs.Ytnpomadbaanpkaa
open Vm
set_option maxRecDepth 10000

/-- The rows that have pivots. -/
def PV (h : Heap) (lo nx W C U : Nat) (pv : AV) (ps : List Nat) (p : Nat) : Prop :=
  (ps = [] ∧ pv = .lst true [] ∧ p = W) ∨ (0 < ps.length ∧ pv = .ref p 0 ps.length ∧ lo ≤ p ∧ p < nx ∧ p ≠ W ∧ p ≠ C ∧ p ≠ U ∧ h p = some ⟨ps.map fun (r : Nat) => AV.int .i64 r, false, 1, false⟩)
def swf (f : Nat → Nat → Bool × Int) (p b k : Nat) : Nat → Bool × Int := f (Euc.sx p b k)
/-- What reducing makes of the columns before k. -/
def rdf (p r : Nat) (cf f : Nat → Nat → Bool × Int) (k j : Nat) : Nat → Bool × Int :=
  if p < j ∧ j < k ∧ (cf j r).2 ≠ 0 then tkf (f j) (f p) ((cf j r).2 / (cf p r).2) else f j
/-- A cell of a column, read. -/
theorem cell_lst {m r : Nat} {f : Nat → Bool × Int} (hr : r < m) : ((rl m f).map ivr)[r]? = some (I (f r).1 (f r).2) := by
  rw [get_ivr (by rw [rl_len]; exact hr), rl_get hr]
theorem cell_ref {m r : Nat} {f : Nat → Bool × Int} (hr : r < m) : ((fr (rl m f)).drop (r * 2)).take 2 = [.bool (ng (f r).2), .lst (f r).1 ((dg (f r).2).map wd)] := by
  rw [fr_get (by rw [rl_len]; exact hr), rl_get hr]
theorem openK_unit {Q : Ex → St → Prop} {σ : St} {all os : List Go.Oper} {dst : Option Nat} {x : Option (Res × Heap × Nat)} (P : Heap → Nat → Prop) (hx : ∃ H' N', x = some (.ret (.tup []), H', N') ∧ P H' N') (k : ∀ H' N', P H' N' → Rg E all os ⟨put σ.sl dst (.tup []), H', N'⟩ Q) : openK E all os dst Q σ x := by
  obtain ⟨H', N', rfl, h1⟩ := hx
  exact k H' N' h1
theorem PV.mono {h h' : Heap} {lo nx nx' W C U p : Nat} {pv : AV} {ps : List Nat} (hP : PV h lo nx W C U pv ps p) (hn : nx ≤ nx') (hh : p < nx → p ≠ W → p ≠ C → p ≠ U → h' p = h p) : PV h' lo nx' W C U pv ps p := by
  rcases hP with hP | ⟨h1, h2, h3, h4, h5, h6, h7, h8⟩
  · exact .inl hP
  · exact .inr ⟨h1, h2, h3, by omega, h5, h6, h7, (hh h4 h5 h6 h7).trans h8⟩
/-- Columns exchanged, in the heap. -/
theorem WS.swap {h h' : Heap} {lo nx nx' W C U p : Nat} {pv : AV} {m n : Nat} {cv uv : Nat → AV} {cf uf : Nat → Nat → Bool × Int} (hS : WS h lo nx W C U p pv m n cv uv cf uf) (hn : nx ≤ nx') {i k : Nat} (hi : i < n) (hk : k < n) (hik : i ≤ k) (hh : ∀ j, j < nx → j ≠ C → j ≠ U → h' j = h j)
    (hc : h' C = some ⟨(List.range n).map fun j => cv (Euc.sx i k j), false, 1, false⟩) (hu : h' U = some ⟨(List.range n).map fun j => uv (Euc.sx i k j), false, 1, false⟩) :
    WS h' lo nx' W C U p pv m n (fun j => cv (Euc.sx i k j)) (fun j => uv (Euc.sx i k j)) (swf cf i k) (swf uf i k) := by
  obtain ⟨l1, l2, l3, l4, l5, l6, l7, l8, l9⟩ := hS.lt
  have conv : ∀ (v : AV) (m : Nat) (f : Nat → Bool × Int), ColV h lo nx [W, C, U, p] v m f → ColV h' lo nx' [W, C, U, p] v m f := fun v m f hv => by
    rcases hv with hv | ⟨id, fz, hv, k1, k2, k3, k4⟩
    · exact .inl hv
    · have k3' := k3
      simp only [List.mem_cons, List.not_mem_nil, or_false, not_or] at k3'
      exact .inr ⟨id, fz, hv, k1, by omega, k3, (hh id k2 k3'.2.1 k3'.2.2.1).trans k4⟩
  have hsx : ∀ j, j < n → Euc.sx i k j < n := fun j hj => by unfold Euc.sx; split; exact hk; split; exact hi; exact hj
  exact ⟨(hh W l4 l7 l8).trans hS.w, hc, hu, by omega, fun j hj => conv _ _ _ (hS.cc _ (hsx j hj)), fun j hj => conv _ _ _ (hS.uu _ (hsx j hj)), fun j t hj ht => hS.fc _ t (hsx j hj) ht, fun j t hj ht => hS.fu _ t (hsx j hj) ht⟩
/-- The work with other pivots. -/
theorem WS.newp {h h' : Heap} {lo nx nx' W C U p p' : Nat} {pv pv' : AV} {m n : Nat} {cv uv : Nat → AV} {cf uf : Nat → Nat → Bool × Int} (hS : WS h lo nx W C U p pv m n cv uv cf uf) (hn : nx ≤ nx') (hp' : nx ≤ p') (hw : h' W = some ⟨[.ref C 0 n, .ref U 0 n, pv'], true, 3, false⟩) (hh : ∀ j, j < nx → j ≠ W → j ≠ p → h' j = h j)
    (hpC : p ≠ C ∧ p ≠ U) : WS h' lo nx' W C U p' pv' m n cv uv cf uf := by
  obtain ⟨l1, l2, l3, l4, l5, l6, l7, l8, l9⟩ := hS.lt
  have conv : ∀ (v : AV) (m : Nat) (f : Nat → Bool × Int), ColV h lo nx [W, C, U, p] v m f → ColV h' lo nx' [W, C, U, p'] v m f := fun v m f hv => by
    rcases hv with hv | ⟨id, fz, hv, k1, k2, k3, k4⟩
    · exact .inl hv
    · simp only [List.mem_cons, List.not_mem_nil, or_false, not_or] at k3
      refine .inr ⟨id, fz, hv, k1, by omega, ?_, (hh id k2 k3.1 k3.2.2.2).trans k4⟩
      simp only [List.mem_cons, List.not_mem_nil, or_false, not_or]
      exact ⟨k3.1, k3.2.1, k3.2.2.1, by omega⟩
  exact ⟨hw, (hh C l5 (fun e => l7 e.symm) (fun e => hpC.1 e.symm)).trans hS.c, (hh U l6 (fun e => l8 e.symm) (fun e => hpC.2 e.symm)).trans hS.u, by omega, fun k hk => conv _ _ _ (hS.cc k hk), fun k hk => conv _ _ _ (hS.uu k hk), hS.fc, hS.fu⟩
set_option maxHeartbeats 8000000 in
theorem row_open (lo W C U m n : Nat) (hm : m ≤ 100) (hn : n ≤ 100) (ps : List Nat) (r : Nat) (hr : r < m) (hps : ps.length ≤ n)
    (I : (Nat → Nat → Bool × Int) → (Nat → Nat → Bool × Int) → Prop) (J : List Nat → (Nat → Nat → Bool × Int) → (Nat → Nat → Bool × Int) → Prop) (μ : (Nat → Nat → Bool × Int) → Nat)
    (hfit : ∀ cf uf, I cf uf → ∀ k, k < n → (dg (cf k r).2).length ≤ 4096)
    (H0 : ∀ cf uf, I cf uf → (∀ k, ps.length ≤ k → k < n → (cf k r).2 = 0) → J ps cf uf)
    (H1 : ∀ cf uf b, I cf uf → ps.length ≤ b → b < n → (cf b r).2 ≠ 0 → (∀ k, ps.length ≤ k → k < n → k ≠ b → (cf k r).2 = 0) → J (ps ++ [r]) (swf cf ps.length b) (swf uf ps.length b))
    (H2 : ∀ cf uf b, I cf uf → ps.length ≤ b → b < n → (cf b r).2 ≠ 0 → (∀ k, ps.length ≤ k → k < n → (cf k r).2 ≠ 0 → (cf b r).2.natAbs ≤ (cf k r).2.natAbs) → (∃ k, ps.length ≤ k ∧ k < n ∧ k ≠ b ∧ (cf k r).2 ≠ 0) →
      (∀ k, k < n → (dg (swf cf ps.length b k r).2).length ≤ 4096) ∧
      (∀ k, ps.length < k → k < n → (swf cf ps.length b k r).2 ≠ 0 → (dg ((swf cf ps.length b k r).2 / (swf cf ps.length b ps.length r).2)).length ≤ 4096 ∧ TkFit m (swf cf ps.length b k) (swf cf ps.length b ps.length) ((swf cf ps.length b k r).2 / (swf cf ps.length b ps.length r).2) ∧ TkFit n (swf uf ps.length b k) (swf uf ps.length b ps.length) ((swf cf ps.length b k r).2 / (swf cf ps.length b ps.length r).2)) ∧
      I (rdf ps.length r (swf cf ps.length b) (swf cf ps.length b) n) (rdf ps.length r (swf cf ps.length b) (swf uf ps.length b) n) ∧ μ (rdf ps.length r (swf cf ps.length b) (swf cf ps.length b) n) < μ cf)
    (h : Heap) (nx p : Nat) (pv : AV) (cv uv : Nat → AV) (cf uf : Nat → Nat → Bool × Int) (hS : WS h lo nx W C U p pv m n cv uv cf uf) (hP : PV h lo nx W C U pv ps p) (hI : I cf uf) :
    ∃ h' n', denO E 78 [.ptr W 0, .int .i64 (r : Int)] h nx = some (.ret (.tup []), h', n') ∧ nx ≤ n' ∧ (∀ i, i < lo → h' i = h i) ∧ ∃ (p' : Nat) (pv' : AV) (ps' : List Nat) (cv' uv' : Nat → AV) (cf' uf' : Nat → Nat → Bool × Int), WS h' lo n' W C U p' pv' m n cv' uv' cf' uf' ∧ PV h' lo n' W C U pv' ps' p' ∧ J ps' cf' uf' := by
  have key : ∃ v h' n', denO E 78 [.ptr W 0, .int .i64 (r : Int)] h nx = some (.ret v, h', n') ∧ v = .tup [] ∧ nx ≤ n' ∧ (∀ i, i < lo → h' i = h i) ∧ ∃ (p' : Nat) (pv' : AV) (ps' : List Nat) (cv' uv' : Nat → AV) (cf' uf' : Nat → Nat → Bool × Int), WS h' lo n' W C U p' pv' m n cv' uv' cf' uf' ∧ PV h' lo n' W C U pv' ps' p' ∧ J ps' cf' uf' := by
    refine denO_intro E78 rfl ?_
    have hlt := hS.lt
    have hw := hS.w
    have hlen : ∃ rd, loadEff E h 84 (.ptr W 2) = rd := ⟨_, rfl⟩
    obtain ⟨QQ, hQQ⟩ : ∃ QQ : Ex → St → Prop, QQ = fun ex τ => ex = .norm ∧ (∃ g : Nat → AV, τ.sl = [.ptr W 0, .int .i64 (r : Int), g 2, g 3, .int .i64 (ps.length : Int), g 5, g 6, g 7, g 8, g 9, g 10, g 11, g 12, g 13, g 14, g 15, g 16, g 17, g 18, g 19, g 20, g 21, g 22, g 23, g 24, g 25, g 26, g 27, g 28, g 29, g 30, g 31, g 32, g 33, g 34, g 35, g 36, g 37, g 38, g 39, g 40, g 41, g 42, g 43, g 44, g 45, g 46, g 47, g 48, g 49, g 50, g 51, g 52, g 53, g 54, g 55, g 56, g 57, g 58, g 59, g 60, g 61, g 62, g 63, g 64, g 65, g 66, g 67, g 68, g 69, g 70, g 71, g 72, g 73, g 74, g 75, g 76, g 77, g 78, g 79, g 80, g 81, g 82, g 83, g 84, g 85, g 86, g 87, g 88, g 89, g 90, g 91, g 92, g 93, g 94, g 95, g 96, g 97, g 98, g 99, g 100, g 101, g 102, g 103, g 104, g 105, g 106, g 107, g 108, g 109, g 110, g 111, g 112, g 113, g 114, g 115, g 116, g 117, g 118, g 119, g 120, g 121, g 122, g 123, g 124, g 125, g 126, g 127, g 128, g 129, g 130, g 131, g 132, g 133, g 134, g 135, g 136, g 137, g 138, g 139, g 140, g 141, g 142, g 143, g 144, g 145, g 146, g 147, g 148, g 149, g 150, g 151, g 152, g 153, g 154, g 155, g 156, g 157, g 158, g 159, g 160, g 161, g 162, g 163, g 164, g 165]) ∧ τ.h = h ∧ τ.nx = nx := ⟨_, rfl⟩
    simp only [Try.f78, W_seq]
    refine W_mono (Q := QQ) ?_ ?_
    · rcases hP with ⟨rfl, rfl, rfl⟩ | ⟨hp0, rfl, hp1, hp2, hp3, hp4, hp5, hp6⟩
      · simp (maxSteps := 4000000) only [go_sem, seval, ↓reduceIte, reduceCtorEq, hw]
        rw [hQQ]
        refine ⟨rfl, ?_, rfl, rfl⟩
        refine garb ?_
        rfl
      · simp (maxSteps := 4000000) only [go_sem, seval, ↓reduceIte, reduceCtorEq, hw, hp6]
        rw [hQQ]
        refine ⟨rfl, ?_, rfl, rfl⟩
        refine garb ?_
        rfl
    rw [hQQ]
    rintro ex ⟨sl, H', m'⟩ ⟨rfl, ⟨g, rfl⟩, eh, en⟩
    dsimp only at eh en
    rw [eh, en]
    clear hQQ QQ hw hlt hlen eh en
    simp only [thenK_norm, W_block]
    refine W_loopS (fun k sl h' n' => ∃ (cv uv : Nat → AV) (cf uf : Nat → Nat → Bool × Int), (∃ g : Nat → AV, sl = [.ptr W 0, .int .i64 (r : Int), g 2, g 3, .int .i64 (ps.length : Int), g 5, g 6, g 7, g 8, g 9, g 10, g 11, g 12, g 13, g 14, g 15, g 16, g 17, g 18, g 19, g 20, g 21, g 22, g 23, g 24, g 25, g 26, g 27, g 28, g 29, g 30, g 31, g 32, g 33, g 34, g 35, g 36, g 37, g 38, g 39, g 40, g 41, g 42, g 43, g 44, g 45, g 46, g 47, g 48, g 49, g 50, g 51, g 52, g 53, g 54, g 55, g 56, g 57, g 58, g 59, g 60, g 61, g 62, g 63, g 64, g 65, g 66, g 67, g 68, g 69, g 70, g 71, g 72, g 73, g 74, g 75, g 76, g 77, g 78, g 79, g 80, g 81, g 82, g 83, g 84, g 85, g 86, g 87, g 88, g 89, g 90, g 91, g 92, g 93, g 94, g 95, g 96, g 97, g 98, g 99, g 100, g 101, g 102, g 103, g 104, g 105, g 106, g 107, g 108, g 109, g 110, g 111, g 112, g 113, g 114, g 115, g 116, g 117, g 118, g 119, g 120, g 121, g 122, g 123, g 124, g 125, g 126, g 127, g 128, g 129, g 130, g 131, g 132, g 133, g 134, g 135, g 136, g 137, g 138, g 139, g 140, g 141, g 142, g 143, g 144, g 145, g 146, g 147, g 148, g 149, g 150, g 151, g 152, g 153, g 154, g 155, g 156, g 157, g 158, g 159, g 160, g 161, g 162, g 163, g 164, g 165]) ∧ WS h' lo n' W C U p pv m n cv uv cf uf ∧ PV h' lo n' W C U pv ps p ∧ I cf uf ∧ μ cf = k ∧ nx ≤ n' ∧ ∀ i, i < lo → h' i = h i) (μ cf) ⟨cv, uv, cf, uf, ?_, ?_, ?_, hI, rfl, ?_, ?_⟩ ?_
    · refine garb ?_
      rfl
    · exact hS
    · exact hP
    · exact Nat.le_refl _
    · exact fun i hi => rfl
    clear hS hP hI
    rintro k0 _ h' n' ⟨cv, uv, cf, uf, ⟨g, rfl⟩, hS, hP, hI, hk0, hnn, hfr⟩
    have hc := hS.c
    have hw := hS.w
    obtain ⟨l1, l2, l3, l4, l5, l6, l7, l8, l9⟩ := hS.lt
    have hf := hfit cf uf hI
    simp (maxSteps := 4000000) only [go_sem, seval, ↓reduceIte, reduceCtorEq, hw, hc]
    obtain ⟨QS, hQS⟩ : ∃ QS : Ex → St → Prop, QS = fun ex τ => ex = .exit 2 ∧ nx ≤ τ.nx ∧ (∀ i, i < n' → τ.h i = h' i) ∧ n' ≤ τ.nx ∧ ∃ (more : Nat) (best : Int), Scan (fun k => (cf k r).2) ps.length n more best ∧ (∃ g : Nat → AV, τ.sl = [.ptr W 0, .int .i64 (r : Int), g 2, g 3, .int .i64 (ps.length : Int), .int .i64 best, .int .i64 (more : Int), g 7, g 8, g 9, g 10, g 11, g 12, g 13, g 14, g 15, g 16, g 17, g 18, g 19, g 20, g 21, g 22, g 23, g 24, g 25, g 26, g 27, g 28, g 29, g 30, g 31, g 32, g 33, g 34, g 35, g 36, g 37, g 38, g 39, g 40, g 41, g 42, g 43, g 44, g 45, g 46, g 47, g 48, g 49, g 50, g 51, g 52, g 53, g 54, g 55, g 56, g 57, g 58, g 59, g 60, g 61, g 62, g 63, g 64, g 65, g 66, g 67, g 68, g 69, g 70, g 71, g 72, g 73, g 74, g 75, g 76, g 77, g 78, g 79, g 80, g 81, g 82, g 83, g 84, g 85, g 86, g 87, g 88, g 89, g 90, g 91, g 92, g 93, g 94, g 95, g 96, g 97, g 98, g 99, g 100, g 101, g 102, g 103, g 104, g 105, g 106, g 107, g 108, g 109, g 110, g 111, g 112, g 113, g 114, g 115, g 116, g 117, g 118, g 119, g 120, g 121, g 122, g 123, g 124, g 125, g 126, g 127, g 128, g 129, g 130, g 131, g 132, g 133, g 134, g 135, g 136, g 137, g 138, g 139, g 140, g 141, g 142, g 143, g 144, g 145, g 146, g 147, g 148, g 149, g 150, g 151, g 152, g 153, g 154, g 155, g 156, g 157, g 158, g 159, g 160, g 161, g 162, g 163, g 164, g 165]) := ⟨_, rfl⟩
    refine W_mono (Q := QS) ?_ ?_
    · refine W_loopS (fun kk sl h'' n'' => ∃ (k more : Nat) (best : Int), k + kk = n ∧ ps.length ≤ k ∧ Scan (fun k => (cf k r).2) ps.length k more best ∧ more ≤ k ∧ (∃ g : Nat → AV, sl = [.ptr W 0, .int .i64 (r : Int), g 2, g 3, .int .i64 (ps.length : Int), .int .i64 best, .int .i64 (more : Int), .int .i64 (k : Int), g 8, g 9, g 10, g 11, g 12, g 13, g 14, g 15, g 16, g 17, g 18, g 19, g 20, g 21, g 22, g 23, g 24, g 25, g 26, g 27, g 28, g 29, g 30, g 31, g 32, g 33, g 34, g 35, g 36, g 37, g 38, g 39, g 40, g 41, g 42, g 43, g 44, g 45, g 46, g 47, g 48, g 49, g 50, g 51, g 52, g 53, g 54, g 55, g 56, g 57, g 58, g 59, g 60, g 61, g 62, g 63, g 64, g 65, g 66, g 67, g 68, g 69, g 70, g 71, g 72, g 73, g 74, g 75, g 76, g 77, g 78, g 79, g 80, g 81, g 82, g 83, g 84, g 85, g 86, g 87, g 88, g 89, g 90, g 91, g 92, g 93, g 94, g 95, g 96, g 97, g 98, g 99, g 100, g 101, g 102, g 103, g 104, g 105, g 106, g 107, g 108, g 109, g 110, g 111, g 112, g 113, g 114, g 115, g 116, g 117, g 118, g 119, g 120, g 121, g 122, g 123, g 124, g 125, g 126, g 127, g 128, g 129, g 130, g 131, g 132, g 133, g 134, g 135, g 136, g 137, g 138, g 139, g 140, g 141, g 142, g 143, g 144, g 145, g 146, g 147, g 148, g 149, g 150, g 151, g 152, g 153, g 154, g 155, g 156, g 157, g 158, g 159, g 160, g 161, g 162, g 163, g 164, g 165]) ∧ n' ≤ n'' ∧ ∀ i, i < n' → h'' i = h' i) (n - ps.length) ⟨ps.length, 0, -1, by omega, Nat.le_refl _, Scan.start _ _, Nat.zero_le _, ?_, Nat.le_refl _, fun i hi => rfl⟩ ?_
      · refine garb ?_
        rfl
      rintro kk _ h'' n'' ⟨k, more, best, hkk, hpk, hsc, hmk, ⟨g, rfl⟩, hnn2, hfr2⟩
      have hw2 := (hfr2 W l4).trans hw
      have hc2 := (hfr2 C l5).trans hc
      by_cases hkn : k = n
      · have z1 : ((k : Int) < (n : Int)) = False := eq_false (by omega)
        simp (maxSteps := 4000000) only [go_sem, seval, ↓reduceIte, reduceCtorEq, hw2, hc2, z1]
        rw [hQS]
        rw [hkn] at hsc
        refine ⟨rfl, by dsimp only; omega, hfr2, hnn2, more, best, hsc, ?_⟩
        refine garb ?_
        rfl
      · have z1 : ((k : Int) < (n : Int)) = True := eq_true (by omega)
        have z0 : ((0 : Int) ≤ (k : Int)) = True := eq_true (by omega)
        have y0 : ((0 : Int) ≤ (r : Int)) = True := eq_true (by omega)
        have y1 : ((r : Int) < (m : Int)) = True := eq_true (by omega)
        have hlc : ((List.range n).map cv).length = n := by simp
        have g1 := range_get (f := cv) (show k < n by omega)
        have x1 : (W = n'') = False := eq_false (by omega)
        have x2 : (n'' = W) = False := eq_false (by omega)
        have x3 : (C = n'') = False := eq_false (by omega)
        have x4 : (n'' = C) = False := eq_false (by omega)
        have x7 : (W = C) = False := eq_false l7
        have x8 : (C = W) = False := eq_false fun e => l7 e.symm
        have cl1 := cell_lst (f := cf k) hr
        have cl2 := cell_ref (f := cf k) hr
        have hz := exZero (cf k r).1 (cf k r).2
        have hrl : ((rl m (cf k)).map ivr).length = m := by rw [List.length_map, rl_len]
        have hrl2 : (r * 2 + 2 ≤ (fr (rl m (cf k))).length) = True := eq_true (by rw [fr_len, rl_len]; omega)
        have hrl3 : ((rl m (cf k)).length : Int) = (m : Int) := by rw [rl_len]
        have w1 : IntKind.i64.wrap ((k + 1 : Nat) : Int) = ((k + 1 : Nat) : Int) := wrap64 (by omega) (by omega)
        have w2 : IntKind.i64.wrap ((more + 1 : Nat) : Int) = ((more + 1 : Nat) : Int) := wrap64 (by omega) (by omega)
        have cl1a := cl1
        have cl1b := cl2
        have hrl1 := hrl
        have hrc1 := hrl3
        have hrd1 := hrl2
        have hfin : ∀ (hh : Heap) (nn : Nat) (sl : List AV) (more' : Nat) (best' : Int), Scan (fun k => (cf k r).2) ps.length (k + 1) more' best' → more' ≤ k + 1 → (∃ g : Nat → AV, sl = [.ptr W 0, .int .i64 (r : Int), g 2, g 3, .int .i64 (ps.length : Int), .int .i64 best', .int .i64 (more' : Int), .int .i64 ((k + 1 : Nat) : Int), g 8, g 9, g 10, g 11, g 12, g 13, g 14, g 15, g 16, g 17, g 18, g 19, g 20, g 21, g 22, g 23, g 24, g 25, g 26, g 27, g 28, g 29, g 30, g 31, g 32, g 33, g 34, g 35, g 36, g 37, g 38, g 39, g 40, g 41, g 42, g 43, g 44, g 45, g 46, g 47, g 48, g 49, g 50, g 51, g 52, g 53, g 54, g 55, g 56, g 57, g 58, g 59, g 60, g 61, g 62, g 63, g 64, g 65, g 66, g 67, g 68, g 69, g 70, g 71, g 72, g 73, g 74, g 75, g 76, g 77, g 78, g 79, g 80, g 81, g 82, g 83, g 84, g 85, g 86, g 87, g 88, g 89, g 90, g 91, g 92, g 93, g 94, g 95, g 96, g 97, g 98, g 99, g 100, g 101, g 102, g 103, g 104, g 105, g 106, g 107, g 108, g 109, g 110, g 111, g 112, g 113, g 114, g 115, g 116, g 117, g 118, g 119, g 120, g 121, g 122, g 123, g 124, g 125, g 126, g 127, g 128, g 129, g 130, g 131, g 132, g 133, g 134, g 135, g 136, g 137, g 138, g 139, g 140, g 141, g 142, g 143, g 144, g 145, g 146, g 147, g 148, g 149, g 150, g 151, g 152, g 153, g 154, g 155, g 156, g 157, g 158, g 159, g 160, g 161, g 162, g 163, g 164, g 165]) → n' ≤ nn → (∀ i, i < n' → hh i = h' i) →
            ∃ kk', kk' < kk ∧ ∃ (k more : Nat) (best : Int), k + kk' = n ∧ ps.length ≤ k ∧ Scan (fun k => (cf k r).2) ps.length k more best ∧ more ≤ k ∧ (∃ g : Nat → AV, sl = [.ptr W 0, .int .i64 (r : Int), g 2, g 3, .int .i64 (ps.length : Int), .int .i64 best, .int .i64 (more : Int), .int .i64 (k : Int), g 8, g 9, g 10, g 11, g 12, g 13, g 14, g 15, g 16, g 17, g 18, g 19, g 20, g 21, g 22, g 23, g 24, g 25, g 26, g 27, g 28, g 29, g 30, g 31, g 32, g 33, g 34, g 35, g 36, g 37, g 38, g 39, g 40, g 41, g 42, g 43, g 44, g 45, g 46, g 47, g 48, g 49, g 50, g 51, g 52, g 53, g 54, g 55, g 56, g 57, g 58, g 59, g 60, g 61, g 62, g 63, g 64, g 65, g 66, g 67, g 68, g 69, g 70, g 71, g 72, g 73, g 74, g 75, g 76, g 77, g 78, g 79, g 80, g 81, g 82, g 83, g 84, g 85, g 86, g 87, g 88, g 89, g 90, g 91, g 92, g 93, g 94, g 95, g 96, g 97, g 98, g 99, g 100, g 101, g 102, g 103, g 104, g 105, g 106, g 107, g 108, g 109, g 110, g 111, g 112, g 113, g 114, g 115, g 116, g 117, g 118, g 119, g 120, g 121, g 122, g 123, g 124, g 125, g 126, g 127, g 128, g 129, g 130, g 131, g 132, g 133, g 134, g 135, g 136, g 137, g 138, g 139, g 140, g 141, g 142, g 143, g 144, g 145, g 146, g 147, g 148, g 149, g 150, g 151, g 152, g 153, g 154, g 155, g 156, g 157, g 158, g 159, g 160, g 161, g 162, g 163, g 164, g 165]) ∧ n' ≤ nn ∧ ∀ i, i < n' → hh i = h' i := fun hh nn sl more' best' c0 c1 c2 c3 c4 => ⟨kk - 1, by omega, k + 1, more', best', by omega, by omega, c0, c1, c2, c3, c4⟩
        generalize hIQ : (fun (kk : Nat) (σ : St) => ∃ (k more : Nat) (best : Int), k + kk = n ∧ ps.length ≤ k ∧ Scan (fun k => (cf k r).2) ps.length k more best ∧ more ≤ k ∧ (∃ g : Nat → AV, σ.sl = [.ptr W 0, .int .i64 (r : Int), g 2, g 3, .int .i64 (ps.length : Int), .int .i64 best, .int .i64 (more : Int), .int .i64 (k : Int), g 8, g 9, g 10, g 11, g 12, g 13, g 14, g 15, g 16, g 17, g 18, g 19, g 20, g 21, g 22, g 23, g 24, g 25, g 26, g 27, g 28, g 29, g 30, g 31, g 32, g 33, g 34, g 35, g 36, g 37, g 38, g 39, g 40, g 41, g 42, g 43, g 44, g 45, g 46, g 47, g 48, g 49, g 50, g 51, g 52, g 53, g 54, g 55, g 56, g 57, g 58, g 59, g 60, g 61, g 62, g 63, g 64, g 65, g 66, g 67, g 68, g 69, g 70, g 71, g 72, g 73, g 74, g 75, g 76, g 77, g 78, g 79, g 80, g 81, g 82, g 83, g 84, g 85, g 86, g 87, g 88, g 89, g 90, g 91, g 92, g 93, g 94, g 95, g 96, g 97, g 98, g 99, g 100, g 101, g 102, g 103, g 104, g 105, g 106, g 107, g 108, g 109, g 110, g 111, g 112, g 113, g 114, g 115, g 116, g 117, g 118, g 119, g 120, g 121, g 122, g 123, g 124, g 125, g 126, g 127, g 128, g 129, g 130, g 131, g 132, g 133, g 134, g 135, g 136, g 137, g 138, g 139, g 140, g 141, g 142, g 143, g 144, g 145, g 146, g 147, g 148, g 149, g 150, g 151, g 152, g 153, g 154, g 155, g 156, g 157, g 158, g 159, g 160, g 161, g 162, g 163, g 164, g 165]) ∧ n' ≤ σ.nx ∧ ∀ i, i < n' → σ.h i = h' i) = IQ
        by_cases h0 : (cf k r).2 = 0
        · rw [decide_eq_true h0] at hz
          rcases hS.cc k (by omega) with hv1 | ⟨id1, fz1, hv1, hlo1, hlt1, hb1, hh1⟩
          · simp (maxSteps := 4000000) only [go_sem, seval, ↓reduceIte, reduceCtorEq, hw2, hc2, z0, z1, y0, y1, hlc, g1, x1, x2, x3, x4, x7, x8, hz, w1, hv1, cl1a, hrl1, hrc1]
            rw [← hIQ]
            refine hfin _ _ _ more best ?_ ?_ ?_ (by dsimp only; omega) fun i hi => ?_
            · exact hsc.zero h0
            · omega
            · refine garb ?_
              rfl
            · simp only [upd_apply]
              rw [if_neg (by omega), if_neg (by omega)]
              exact hfr2 i hi
          · simp only [List.mem_cons, List.not_mem_nil, or_false, not_or] at hb1
            obtain ⟨hb11, hb12, hb13, hb14⟩ := hb1
            have hh12 := (hfr2 id1 hlt1).trans hh1
            have yx11 : (id1 = n'') = False := eq_false (by omega)
            have yx12 : (n'' = id1) = False := eq_false (by omega)
            simp (maxSteps := 4000000) only [go_sem, seval, ↓reduceIte, reduceCtorEq, hw2, hc2, z0, z1, y0, y1, hlc, g1, x1, x2, x3, x4, x7, x8, hz, w1, hv1, hh12, cl1b, hrd1, yx11, yx12]
            rw [← hIQ]
            refine hfin _ _ _ more best ?_ ?_ ?_ (by dsimp only; omega) fun i hi => ?_
            · exact hsc.zero h0
            · omega
            · refine garb ?_
              rfl
            · simp only [upd_apply]
              rw [if_neg (by omega), if_neg (by omega)]
              exact hfr2 i hi
        · rw [decide_eq_false h0] at hz
          by_cases hm0 : more = 0
          · have hbest := (hsc.none hm0).1
            subst hbest
            subst hm0
            rcases hS.cc k (by omega) with hv1 | ⟨id1, fz1, hv1, hlo1, hlt1, hb1, hh1⟩
            · simp (maxSteps := 4000000) only [go_sem, seval, ↓reduceIte, reduceCtorEq, hw2, hc2, z0, z1, y0, y1, hlc, g1, x1, x2, x3, x4, x7, x8, hz, w1, hv1, cl1a, hrl1, hrc1]
              refine W_drawn ?_
              simp (maxSteps := 4000000) only [go_sem, seval, ↓reduceIte, reduceCtorEq, hw2, hc2, z0, z1, y0, y1, hlc, g1, x1, x2, x3, x4, x7, x8, hz, w1, hv1, cl1a, hrl1, hrc1]
              refine ⟨by refine okR_pairs ?_; (repeat ((with_unfolding_all refine And.intro ?_ ?_); (focus (rw [free_mk] <;> (try simp) <;> (try omega))))); (with_unfolding_all exact True.intro), ?_⟩
              rw [← hIQ]
              refine hfin _ _ _ 1 (k : Int) ?_ ?_ ?_ (by dsimp only; omega) fun i hi => ?_
              · exact hsc.first hpk h0
              · omega
              · refine garb ?_
                rfl
              · simp only [upd_apply]
                rw [if_neg (by omega), if_neg (by omega)]
                exact hfr2 i hi
            · simp only [List.mem_cons, List.not_mem_nil, or_false, not_or] at hb1
              obtain ⟨hb11, hb12, hb13, hb14⟩ := hb1
              have hh12 := (hfr2 id1 hlt1).trans hh1
              have yx11 : (id1 = n'') = False := eq_false (by omega)
              have yx12 : (n'' = id1) = False := eq_false (by omega)
              simp (maxSteps := 4000000) only [go_sem, seval, ↓reduceIte, reduceCtorEq, hw2, hc2, z0, z1, y0, y1, hlc, g1, x1, x2, x3, x4, x7, x8, hz, w1, hv1, hh12, cl1b, hrd1, yx11, yx12]
              refine W_drawn ?_
              simp (maxSteps := 4000000) only [go_sem, seval, ↓reduceIte, reduceCtorEq, hw2, hc2, z0, z1, y0, y1, hlc, g1, x1, x2, x3, x4, x7, x8, hz, w1, hv1, hh12, cl1b, hrd1, yx11, yx12]
              refine ⟨by refine okR_pairs ?_; (repeat ((with_unfolding_all refine And.intro ?_ ?_); (focus (rw [free_mk] <;> (try simp) <;> (try omega))))); (with_unfolding_all exact True.intro), ?_⟩
              rw [← hIQ]
              refine hfin _ _ _ 1 (k : Int) ?_ ?_ ?_ (by dsimp only; omega) fun i hi => ?_
              · exact hsc.first hpk h0
              · omega
              · refine garb ?_
                rfl
              · simp only [upd_apply]
                rw [if_neg (by omega), if_neg (by omega)]
                exact hfr2 i hi
          · obtain ⟨b, hb0, hb1', hb2', hb3', hb4'⟩ := hsc.some hm0
            subst hb0
            have zb0 : ((0 : Int) ≤ (b : Int)) = True := eq_true (by omega)
            have zb1 : ((b : Int) < (n : Int)) = True := eq_true (by omega)
            have zbn : ((b : Int) < 0) = False := eq_false (by omega)
            have g2 := range_get (f := cv) (show b < n by omega)
            have cl2a := cell_lst (f := cf b) hr
            have cl2b := cell_ref (f := cf b) hr
            have hrl2 : ((rl m (cf b)).map ivr).length = m := by rw [List.length_map, rl_len]
            have hrd2 : (r * 2 + 2 ≤ (fr (rl m (cf b))).length) = True := eq_true (by rw [fr_len, rl_len]; omega)
            have hrc2 : ((rl m (cf b)).length : Int) = (m : Int) := by rw [rl_len]
            obtain ⟨o1, sz1⟩ := size_at (cf k r).1 (cf k r).2 (hf k (by omega))
            obtain ⟨o2, sz2⟩ := size_at (cf b r).1 (cf b r).2 (hf b (by omega))
            have cm := exCmp_ret o1 o2 ((cf k r).2.natAbs : Int) ((cf b r).2.natAbs : Int) (by rw [dg_nat]; exact hf k (by omega)) (by rw [dg_nat]; exact hf b (by omega))
            have cmz : (cmpI ((cf k r).2.natAbs : Int) ((cf b r).2.natAbs : Int) < 0) = ((cf k r).2.natAbs < (cf b r).2.natAbs) := by
              unfold cmpI
              refine propext ?_
              (repeat' split) <;> omega
            have hnx := hsc.next hm0 rfl hpk h0
            by_cases hlt : (cf k r).2.natAbs < (cf b r).2.natAbs
            · have zc : (cmpI ((cf k r).2.natAbs : Int) ((cf b r).2.natAbs : Int) < 0) = True := by rw [cmz]; exact eq_true hlt
              rw [if_pos hlt] at hnx
              generalize cmpI ((cf k r).2.natAbs : Int) ((cf b r).2.natAbs : Int) = cc at *
              rcases hS.cc k (by omega) with hv1 | ⟨id1, fz1, hv1, hlo1, hlt1, hb1, hh1⟩ <;> rcases hS.cc b (by omega) with hv2 | ⟨id2, fz2, hv2, hlo2, hlt2, hb2, hh2⟩
              · simp (maxSteps := 4000000) only [go_sem, seval, ↓reduceIte, reduceCtorEq, hw2, hc2, z0, z1, y0, y1, hlc, g1, x1, x2, x3, x4, x7, x8, hz, w1, w2, zb0, zb1, zbn, g2, sz1, sz2, cm, zc, hv1, cl1a, hrl1, hrc1, hv2, cl2a, hrl2, hrc2]
                refine W_drawn ?_
                simp (maxSteps := 4000000) only [go_sem, seval, ↓reduceIte, reduceCtorEq, hw2, hc2, z0, z1, y0, y1, hlc, g1, x1, x2, x3, x4, x7, x8, hz, w1, w2, zb0, zb1, zbn, g2, sz1, sz2, cm, zc, hv1, cl1a, hrl1, hrc1, hv2, cl2a, hrl2, hrc2]
                refine ⟨by refine okR_pairs ?_; (repeat ((with_unfolding_all refine And.intro ?_ ?_); (focus (rw [free_mk] <;> (try simp) <;> (try omega))))); (with_unfolding_all exact True.intro), ?_⟩
                rw [← hIQ]
                refine hfin _ _ _ (more + 1) (k : Int) ?_ ?_ ?_ (by dsimp only; omega) fun i hi => ?_
                · exact hnx
                · omega
                · refine garb ?_
                  rfl
                · simp only [upd_apply]
                  rw [if_neg (by omega), if_neg (by omega)]
                  exact hfr2 i hi
              · simp only [List.mem_cons, List.not_mem_nil, or_false, not_or] at hb2
                obtain ⟨hb21, hb22, hb23, hb24⟩ := hb2
                have hh22 := (hfr2 id2 hlt2).trans hh2
                have yx21 : (id2 = n'') = False := eq_false (by omega)
                have yx22 : (n'' = id2) = False := eq_false (by omega)
                simp (maxSteps := 4000000) only [go_sem, seval, ↓reduceIte, reduceCtorEq, hw2, hc2, z0, z1, y0, y1, hlc, g1, x1, x2, x3, x4, x7, x8, hz, w1, w2, zb0, zb1, zbn, g2, sz1, sz2, cm, zc, hv1, cl1a, hrl1, hrc1, hv2, hh22, cl2b, hrd2, yx21, yx22]
                refine W_drawn ?_
                simp (maxSteps := 4000000) only [go_sem, seval, ↓reduceIte, reduceCtorEq, hw2, hc2, z0, z1, y0, y1, hlc, g1, x1, x2, x3, x4, x7, x8, hz, w1, w2, zb0, zb1, zbn, g2, sz1, sz2, cm, zc, hv1, cl1a, hrl1, hrc1, hv2, hh22, cl2b, hrd2, yx21, yx22]
                refine ⟨by refine okR_pairs ?_; (repeat ((with_unfolding_all refine And.intro ?_ ?_); (focus (rw [free_mk] <;> (try simp) <;> (try omega))))); (with_unfolding_all exact True.intro), ?_⟩
                rw [← hIQ]
                refine hfin _ _ _ (more + 1) (k : Int) ?_ ?_ ?_ (by dsimp only; omega) fun i hi => ?_
                · exact hnx
                · omega
                · refine garb ?_
                  rfl
                · simp only [upd_apply]
                  rw [if_neg (by omega), if_neg (by omega)]
                  exact hfr2 i hi
              · simp only [List.mem_cons, List.not_mem_nil, or_false, not_or] at hb1
                obtain ⟨hb11, hb12, hb13, hb14⟩ := hb1
                have hh12 := (hfr2 id1 hlt1).trans hh1
                have yx11 : (id1 = n'') = False := eq_false (by omega)
                have yx12 : (n'' = id1) = False := eq_false (by omega)
                simp (maxSteps := 4000000) only [go_sem, seval, ↓reduceIte, reduceCtorEq, hw2, hc2, z0, z1, y0, y1, hlc, g1, x1, x2, x3, x4, x7, x8, hz, w1, w2, zb0, zb1, zbn, g2, sz1, sz2, cm, zc, hv1, hh12, cl1b, hrd1, yx11, yx12, hv2, cl2a, hrl2, hrc2]
                refine W_drawn ?_
                simp (maxSteps := 4000000) only [go_sem, seval, ↓reduceIte, reduceCtorEq, hw2, hc2, z0, z1, y0, y1, hlc, g1, x1, x2, x3, x4, x7, x8, hz, w1, w2, zb0, zb1, zbn, g2, sz1, sz2, cm, zc, hv1, hh12, cl1b, hrd1, yx11, yx12, hv2, cl2a, hrl2, hrc2]
                refine ⟨by refine okR_pairs ?_; (repeat ((with_unfolding_all refine And.intro ?_ ?_); (focus (rw [free_mk] <;> (try simp) <;> (try omega))))); (with_unfolding_all exact True.intro), ?_⟩
                rw [← hIQ]
                refine hfin _ _ _ (more + 1) (k : Int) ?_ ?_ ?_ (by dsimp only; omega) fun i hi => ?_
                · exact hnx
                · omega
                · refine garb ?_
                  rfl
                · simp only [upd_apply]
                  rw [if_neg (by omega), if_neg (by omega)]
                  exact hfr2 i hi
              · simp only [List.mem_cons, List.not_mem_nil, or_false, not_or] at hb1
                obtain ⟨hb11, hb12, hb13, hb14⟩ := hb1
                have hh12 := (hfr2 id1 hlt1).trans hh1
                have yx11 : (id1 = n'') = False := eq_false (by omega)
                have yx12 : (n'' = id1) = False := eq_false (by omega)
                simp only [List.mem_cons, List.not_mem_nil, or_false, not_or] at hb2
                obtain ⟨hb21, hb22, hb23, hb24⟩ := hb2
                have hh22 := (hfr2 id2 hlt2).trans hh2
                have yx21 : (id2 = n'') = False := eq_false (by omega)
                have yx22 : (n'' = id2) = False := eq_false (by omega)
                simp (maxSteps := 4000000) only [go_sem, seval, ↓reduceIte, reduceCtorEq, hw2, hc2, z0, z1, y0, y1, hlc, g1, x1, x2, x3, x4, x7, x8, hz, w1, w2, zb0, zb1, zbn, g2, sz1, sz2, cm, zc, hv1, hh12, cl1b, hrd1, yx11, yx12, hv2, hh22, cl2b, hrd2, yx21, yx22]
                refine W_drawn ?_
                simp (maxSteps := 4000000) only [go_sem, seval, ↓reduceIte, reduceCtorEq, hw2, hc2, z0, z1, y0, y1, hlc, g1, x1, x2, x3, x4, x7, x8, hz, w1, w2, zb0, zb1, zbn, g2, sz1, sz2, cm, zc, hv1, hh12, cl1b, hrd1, yx11, yx12, hv2, hh22, cl2b, hrd2, yx21, yx22]
                refine ⟨by refine okR_pairs ?_; (repeat ((with_unfolding_all refine And.intro ?_ ?_); (focus (rw [free_mk] <;> (try simp) <;> (try omega))))); (with_unfolding_all exact True.intro), ?_⟩
                rw [← hIQ]
                refine hfin _ _ _ (more + 1) (k : Int) ?_ ?_ ?_ (by dsimp only; omega) fun i hi => ?_
                · exact hnx
                · omega
                · refine garb ?_
                  rfl
                · simp only [upd_apply]
                  rw [if_neg (by omega), if_neg (by omega)]
                  exact hfr2 i hi
            · have zc : (cmpI ((cf k r).2.natAbs : Int) ((cf b r).2.natAbs : Int) < 0) = False := by rw [cmz]; exact eq_false hlt
              rw [if_neg hlt] at hnx
              generalize cmpI ((cf k r).2.natAbs : Int) ((cf b r).2.natAbs : Int) = cc at *
              rcases hS.cc k (by omega) with hv1 | ⟨id1, fz1, hv1, hlo1, hlt1, hb1, hh1⟩ <;> rcases hS.cc b (by omega) with hv2 | ⟨id2, fz2, hv2, hlo2, hlt2, hb2, hh2⟩
              · simp (maxSteps := 4000000) only [go_sem, seval, ↓reduceIte, reduceCtorEq, hw2, hc2, z0, z1, y0, y1, hlc, g1, x1, x2, x3, x4, x7, x8, hz, w1, w2, zb0, zb1, zbn, g2, sz1, sz2, cm, zc, hv1, cl1a, hrl1, hrc1, hv2, cl2a, hrl2, hrc2]
                refine W_drawn ?_
                simp (maxSteps := 4000000) only [go_sem, seval, ↓reduceIte, reduceCtorEq, hw2, hc2, z0, z1, y0, y1, hlc, g1, x1, x2, x3, x4, x7, x8, hz, w1, w2, zb0, zb1, zbn, g2, sz1, sz2, cm, zc, hv1, cl1a, hrl1, hrc1, hv2, cl2a, hrl2, hrc2]
                refine ⟨by refine okR_pairs ?_; (repeat ((with_unfolding_all refine And.intro ?_ ?_); (focus (rw [free_mk] <;> (try simp) <;> (try omega))))); (with_unfolding_all exact True.intro), ?_⟩
                rw [← hIQ]
                refine hfin _ _ _ (more + 1) (b : Int) ?_ ?_ ?_ (by dsimp only; omega) fun i hi => ?_
                · exact hnx
                · omega
                · refine garb ?_
                  rfl
                · simp only [upd_apply]
                  rw [if_neg (by omega), if_neg (by omega)]
                  exact hfr2 i hi
              · simp only [List.mem_cons, List.not_mem_nil, or_false, not_or] at hb2
                obtain ⟨hb21, hb22, hb23, hb24⟩ := hb2
                have hh22 := (hfr2 id2 hlt2).trans hh2
                have yx21 : (id2 = n'') = False := eq_false (by omega)
                have yx22 : (n'' = id2) = False := eq_false (by omega)
                simp (maxSteps := 4000000) only [go_sem, seval, ↓reduceIte, reduceCtorEq, hw2, hc2, z0, z1, y0, y1, hlc, g1, x1, x2, x3, x4, x7, x8, hz, w1, w2, zb0, zb1, zbn, g2, sz1, sz2, cm, zc, hv1, cl1a, hrl1, hrc1, hv2, hh22, cl2b, hrd2, yx21, yx22]
                refine W_drawn ?_
                simp (maxSteps := 4000000) only [go_sem, seval, ↓reduceIte, reduceCtorEq, hw2, hc2, z0, z1, y0, y1, hlc, g1, x1, x2, x3, x4, x7, x8, hz, w1, w2, zb0, zb1, zbn, g2, sz1, sz2, cm, zc, hv1, cl1a, hrl1, hrc1, hv2, hh22, cl2b, hrd2, yx21, yx22]
                refine ⟨by refine okR_pairs ?_; (repeat ((with_unfolding_all refine And.intro ?_ ?_); (focus (rw [free_mk] <;> (try simp) <;> (try omega))))); (with_unfolding_all exact True.intro), ?_⟩
                rw [← hIQ]
                refine hfin _ _ _ (more + 1) (b : Int) ?_ ?_ ?_ (by dsimp only; omega) fun i hi => ?_
                · exact hnx
                · omega
                · refine garb ?_
                  rfl
                · simp only [upd_apply]
                  rw [if_neg (by omega), if_neg (by omega)]
                  exact hfr2 i hi
              · simp only [List.mem_cons, List.not_mem_nil, or_false, not_or] at hb1
                obtain ⟨hb11, hb12, hb13, hb14⟩ := hb1
                have hh12 := (hfr2 id1 hlt1).trans hh1
                have yx11 : (id1 = n'') = False := eq_false (by omega)
                have yx12 : (n'' = id1) = False := eq_false (by omega)
                simp (maxSteps := 4000000) only [go_sem, seval, ↓reduceIte, reduceCtorEq, hw2, hc2, z0, z1, y0, y1, hlc, g1, x1, x2, x3, x4, x7, x8, hz, w1, w2, zb0, zb1, zbn, g2, sz1, sz2, cm, zc, hv1, hh12, cl1b, hrd1, yx11, yx12, hv2, cl2a, hrl2, hrc2]
                refine W_drawn ?_
                simp (maxSteps := 4000000) only [go_sem, seval, ↓reduceIte, reduceCtorEq, hw2, hc2, z0, z1, y0, y1, hlc, g1, x1, x2, x3, x4, x7, x8, hz, w1, w2, zb0, zb1, zbn, g2, sz1, sz2, cm, zc, hv1, hh12, cl1b, hrd1, yx11, yx12, hv2, cl2a, hrl2, hrc2]
                refine ⟨by refine okR_pairs ?_; (repeat ((with_unfolding_all refine And.intro ?_ ?_); (focus (rw [free_mk] <;> (try simp) <;> (try omega))))); (with_unfolding_all exact True.intro), ?_⟩
                rw [← hIQ]
                refine hfin _ _ _ (more + 1) (b : Int) ?_ ?_ ?_ (by dsimp only; omega) fun i hi => ?_
                · exact hnx
                · omega
                · refine garb ?_
                  rfl
                · simp only [upd_apply]
                  rw [if_neg (by omega), if_neg (by omega)]
                  exact hfr2 i hi
              · simp only [List.mem_cons, List.not_mem_nil, or_false, not_or] at hb1
                obtain ⟨hb11, hb12, hb13, hb14⟩ := hb1
                have hh12 := (hfr2 id1 hlt1).trans hh1
                have yx11 : (id1 = n'') = False := eq_false (by omega)
                have yx12 : (n'' = id1) = False := eq_false (by omega)
                simp only [List.mem_cons, List.not_mem_nil, or_false, not_or] at hb2
                obtain ⟨hb21, hb22, hb23, hb24⟩ := hb2
                have hh22 := (hfr2 id2 hlt2).trans hh2
                have yx21 : (id2 = n'') = False := eq_false (by omega)
                have yx22 : (n'' = id2) = False := eq_false (by omega)
                simp (maxSteps := 4000000) only [go_sem, seval, ↓reduceIte, reduceCtorEq, hw2, hc2, z0, z1, y0, y1, hlc, g1, x1, x2, x3, x4, x7, x8, hz, w1, w2, zb0, zb1, zbn, g2, sz1, sz2, cm, zc, hv1, hh12, cl1b, hrd1, yx11, yx12, hv2, hh22, cl2b, hrd2, yx21, yx22]
                refine W_drawn ?_
                simp (maxSteps := 4000000) only [go_sem, seval, ↓reduceIte, reduceCtorEq, hw2, hc2, z0, z1, y0, y1, hlc, g1, x1, x2, x3, x4, x7, x8, hz, w1, w2, zb0, zb1, zbn, g2, sz1, sz2, cm, zc, hv1, hh12, cl1b, hrd1, yx11, yx12, hv2, hh22, cl2b, hrd2, yx21, yx22]
                refine ⟨by refine okR_pairs ?_; (repeat ((with_unfolding_all refine And.intro ?_ ?_); (focus (rw [free_mk] <;> (try simp) <;> (try omega))))); (with_unfolding_all exact True.intro), ?_⟩
                rw [← hIQ]
                refine hfin _ _ _ (more + 1) (b : Int) ?_ ?_ ?_ (by dsimp only; omega) fun i hi => ?_
                · exact hnx
                · omega
                · refine garb ?_
                  rfl
                · simp only [upd_apply]
                  rw [if_neg (by omega), if_neg (by omega)]
                  exact hfr2 i hi
    rw [hQS]
    rintro ex ⟨sl, H, N⟩ ⟨rfl, hN0, hH, hN, more, best, hsc, g, rfl⟩
    dsimp only at hN0 hH hN
    have hS2 := hS.mono hN hH
    have hP2 := hP.mono hN (fun h1 _ _ _ => hH p h1)
    by_cases hm0 : more = 0
    · have z1 : ((more : Int) = 0) = True := eq_true (by omega)
      simp (maxSteps := 4000000) only [go_sem, seval, ↓reduceIte, reduceCtorEq, z1]
      exact ⟨by omega, fun i hi => (hH i (by omega)).trans (hfr i hi), p, pv, ps, cv, uv, cf, uf, hS2, hP2, H0 cf uf hI fun k k1 k2 => (hsc.none hm0).2 k k1 k2⟩
    have z1 : ((more : Int) = 0) = False := eq_false (by omega)
    obtain ⟨b, hb0, hb1, hb2, hb3, hb4⟩ := hsc.some hm0
    subst hb0
    have hw2 := hS2.w
    simp (maxSteps := 4000000) only [go_sem, seval, ↓reduceIte, reduceCtorEq, z1, hw2]
    refine openK_unit (fun Ha N1 => N ≤ N1 ∧ (∀ j, j ≠ C → Ha j = H j) ∧ Ha C = some ⟨(List.range n).map fun j => cv (Euc.sx ps.length b j), false, 1, false⟩) (swap_open H lo N W C U p pv m n cv uv cf uf hS2 ps.length b (by omega) hb2 hn) ?_
    intro Ha N1 ⟨hN1, hH1, hC1⟩
    have hw3 : Ha W = some ⟨[.ref C 0 n, .ref U 0 n, pv], true, 3, false⟩ := (hH1 W l7).trans hw2
    have hu3 := (hH1 U (fun e => l9 e.symm)).trans hS2.u
    obtain ⟨QT, hQT⟩ : ∃ QT : Ex → St → Prop, QT = fun ex τ => ex = .norm ∧ (∃ g : Nat → AV, τ.sl = [.ptr W 0, .int .i64 (r : Int), g 2, g 3, .int .i64 (ps.length : Int), g 5, .int .i64 (more : Int), g 7, g 8, g 9, g 10, g 11, g 12, g 13, g 14, g 15, g 16, g 17, g 18, g 19, g 20, g 21, g 22, g 23, g 24, g 25, g 26, g 27, g 28, g 29, g 30, g 31, g 32, g 33, g 34, g 35, g 36, g 37, g 38, g 39, g 40, g 41, g 42, g 43, g 44, g 45, g 46, g 47, g 48, g 49, g 50, g 51, g 52, g 53, g 54, g 55, g 56, g 57, g 58, g 59, g 60, g 61, g 62, g 63, g 64, g 65, g 66, g 67, g 68, g 69, g 70, g 71, g 72, g 73, g 74, g 75, g 76, g 77, g 78, g 79, g 80, g 81, g 82, g 83, g 84, g 85, g 86, g 87, g 88, g 89, g 90, g 91, g 92, g 93, g 94, g 95, g 96, g 97, g 98, g 99, g 100, g 101, g 102, g 103, g 104, g 105, g 106, g 107, g 108, g 109, g 110, g 111, g 112, g 113, g 114, g 115, g 116, g 117, g 118, g 119, g 120, g 121, g 122, g 123, g 124, g 125, g 126, g 127, g 128, g 129, g 130, g 131, g 132, g 133, g 134, g 135, g 136, g 137, g 138, g 139, g 140, g 141, g 142, g 143, g 144, g 145, g 146, g 147, g 148, g 149, g 150, g 151, g 152, g 153, g 154, g 155, g 156, g 157, g 158, g 159, g 160, g 161, g 162, g 163, g 164, g 165]) ∧ N1 ≤ τ.nx ∧ (∀ j, j ≠ U → τ.h j = Ha j) ∧ τ.h U = some ⟨(List.range n).map fun j => uv (Euc.sx ps.length b j), false, 1, false⟩ := ⟨_, rfl⟩
    simp (maxSteps := 4000000) only [go_sem, seval, ↓reduceIte, reduceCtorEq, hw3]
    refine W_mono (Q := QT) ?_ ?_
    · refine W_drawn ?_
      have g1 := range_get (f := uv) (show ps.length < n by omega)
      have g2 := range_get (f := uv) hb2
      have hlu : ((List.range n).map uv).length = n := by simp
      have y1 : ((0 : Int) ≤ (ps.length : Int)) = True := eq_true (by omega)
      have y2 : ((0 : Int) ≤ (b : Int)) = True := eq_true (by omega)
      have y3 : ((ps.length : Int) < (n : Int)) = True := eq_true (by omega)
      have y4 : ((b : Int) < (n : Int)) = True := eq_true (by omega)
      have y5 : (ps.length + 1 ≤ n) = True := eq_true (by omega)
      have y6 : (b + 1 ≤ n) = True := eq_true (by omega)
      have x7 : (W = U) = False := eq_false l8
      have x8 : (U = W) = False := eq_false fun e => l8 e.symm
      have hrs := range_swap (f := uv) (show ps.length < n by omega) hb2
      rcases hS2.uu ps.length (by omega) with hv1 | ⟨id1, fz1, hv1, _⟩ <;> rcases hS2.uu b hb2 with hv2 | ⟨id2, fz2, hv2, _⟩ <;>
      (rw [hv1, hv2] at hrs
       simp (maxSteps := 4000000) only [go_sem, seval, ↓reduceIte, reduceCtorEq, hw3, hu3, hlu, g1, g2, hv1, hv2, y1, y2, y3, y4, y5, y6, x7, x8, List.length_set, setCells_cons, setCells_nil]
       refine ⟨by refine okR_pairs ?_; (repeat ((with_unfolding_all refine And.intro ?_ ?_); (focus (rw [free_mk] <;> (try simp) <;> (try omega))))); (with_unfolding_all exact True.intro), ?_⟩
       rw [hQT]
       refine ⟨rfl, ?_, Nat.le_refl _, fun j hj => ?_, ?_⟩
       · refine garb ?_
         rfl
       · simp only [upd_apply]
         rw [if_neg hj, if_neg hj]
       · rw [← hrs]
         simp only [upd_apply, ↓reduceIte, Nat.reduceEqDiff, if_pos])
    rw [hQT]
    clear hQT QT hw3 hu3
    rintro ex ⟨sl, H2', N2⟩ ⟨rfl, ⟨g3, rfl⟩, hN2, hH2, hU2⟩
    dsimp only at hN2 hH2 hU2
    have hS3 : WS H2' lo N2 W C U p pv m n (fun j => cv (Euc.sx ps.length b j)) (fun j => uv (Euc.sx ps.length b j)) (swf cf ps.length b) (swf uf ps.length b) := hS2.swap (by omega) (by omega) hb2 hb1 (fun j _ j2 j3 => (hH2 j j3).trans (hH1 j j2)) ((hH2 C l9).trans hC1) hU2
    have hP3 := hP2.mono (h' := H2') (nx' := N2) (by omega) (fun _ _ p2 p3 => (hH2 p p3).trans (hH1 p p2))
    have hfr3 : ∀ i, i < lo → H2' i = h i := fun i hi => ((hH2 i (by omega)).trans ((hH1 i (by omega)).trans (hH i (by omega)))).trans (hfr i hi)
    have hw4 := hS3.w
    by_cases hm1 : more = 1
    · have z2 : ((more : Int) = 1) = True := eq_true (by omega)
      have hJ := H1 cf uf b hI hb1 hb2 hb3 fun k k1 k2 k3 => hsc.one hm1 k k1 k2 (by omega)
      have x1 : (W = N2) = False := eq_false (by omega)
      have x2 : (N2 = W) = False := eq_false (by omega)
      have x3 : (W = N2 + 1) = False := eq_false (by omega)
      have x4 : (N2 + 1 = W) = False := eq_false (by omega)
      have y1 : (r + 1 ≤ n) = (r + 1 ≤ n) := rfl
      rcases hP3 with ⟨hps0, hpv, hpW⟩ | ⟨hp0, hpv, hp1, hp2, hp3, hp4, hp5, hp6⟩
      · subst hpv
        have hmem : ((2 * 1 + 1000) * 8 ≤ 281474976710656) = True := eq_true (by omega)
        simp (maxSteps := 4000000) only [go_sem, seval, ↓reduceIte, reduceCtorEq, z2, hw4, reps, places, fillAll, appendEff, srcCells, x1, x2, x3, x4, hmem]
        refine ⟨by omega, fun i hi => ?_, N2 + 1, .ref (N2 + 1) 0 1, ps ++ [r], _, _, _, _, hS3.newp (by omega) (by omega) ?_ (fun j j1 j2 j3 => ?_) ⟨by rw [hpW]; exact l7, by rw [hpW]; exact l8⟩, .inr ⟨by simp, by rw [hps0]; rfl, by omega, by omega, by omega, by omega, by omega, ?_⟩, hJ⟩
        · rw [if_neg (by omega), if_neg (by omega), if_neg (by omega)]
          exact hfr3 i hi
        · simp only [upd_apply, ↓reduceIte, Nat.reduceEqDiff, if_pos]
        · simp only [upd_apply]
          rw [if_neg j2, if_neg (by omega), if_neg (by omega)]
        · rw [hps0]
          simp only [upd_apply, ↓reduceIte, Nat.reduceEqDiff, if_pos, x4]
          rfl
      · subst hpv
        have hmem : ((2 * (ps.length + 1) + 1000) * 8 ≤ 281474976710656) = True := eq_true (by omega)
        have hml : (ps.map fun (r : Nat) => AV.int .i64 r).length = ps.length := List.length_map _
        have x5 : (p = N2) = False := eq_false (by omega)
        have x6 : (N2 = p) = False := eq_false (by omega)
        have x7 : (p = W) = False := eq_false hp3
        have x8 : (W = p) = False := eq_false fun e => hp3 e.symm
        have x9 : (p = N2 + 1) = False := eq_false (by omega)
        have x10 : (N2 + 1 = p) = False := eq_false (by omega)
        generalize hcells : (ps.map fun (r : Nat) => AV.int .i64 r) = cells at *
        simp (maxSteps := 4000000) only [go_sem, seval, ↓reduceIte, reduceCtorEq, z2, hw4, hp6, hml, reps, places, fillAll, appendEff, srcCells, x1, x2, x3, x4, x5, x6, x7, x8, x9, x10, hmem]
        refine ⟨by omega, fun i hi => ?_, N2 + 1, .ref (N2 + 1) 0 (ps.length + 1), ps ++ [r], _, _, _, _, hS3.newp (by omega) (by omega) ?_ (fun j j1 j2 j3 => ?_) ⟨hp4, hp5⟩, .inr ⟨by simp, by simp, by omega, by omega, by omega, by omega, by omega, ?_⟩, hJ⟩
        · rw [if_neg (by omega), if_neg (by omega), if_neg (by omega), if_neg (by omega)]
          exact hfr3 i hi
        · simp only [upd_apply, ↓reduceIte, Nat.reduceEqDiff, if_pos]
        · simp only [upd_apply]
          rw [if_neg j2, if_neg (by omega), if_neg j3, if_neg (by omega)]
        · rw [List.map_append, hcells]
          simp only [upd_apply, ↓reduceIte, Nat.reduceEqDiff, if_pos, x4]
          rfl
    have z2 : ((more : Int) = 1) = False := eq_false (by omega)
    have hpcn : ps.length < n := by omega
    obtain ⟨F1, F2, F3, F4⟩ := H2 cf uf b hI hb1 hb2 hb3 hb4 (by
      obtain ⟨j, j1, j2, j3, j4⟩ := hsc.two (by omega)
      exact ⟨j, j1, j2, fun e => j3 (by rw [e]), j4⟩)
    have hpiv : (swf cf ps.length b ps.length r).2 ≠ 0 := by
      unfold swf Euc.sx; rw [if_pos rfl]; exact hb3
    have w0 : IntKind.i64.wrap ((ps.length + 1 : Nat) : Int) = ((ps.length + 1 : Nat) : Int) := wrap64 (by omega) (by omega)
    have hout : ∀ (hh : Heap) (nn : Nat) (sl : List AV) (cv uv : Nat → AV), (∃ g : Nat → AV, sl = [.ptr W 0, .int .i64 (r : Int), g 2, g 3, .int .i64 (ps.length : Int), g 5, g 6, g 7, g 8, g 9, g 10, g 11, g 12, g 13, g 14, g 15, g 16, g 17, g 18, g 19, g 20, g 21, g 22, g 23, g 24, g 25, g 26, g 27, g 28, g 29, g 30, g 31, g 32, g 33, g 34, g 35, g 36, g 37, g 38, g 39, g 40, g 41, g 42, g 43, g 44, g 45, g 46, g 47, g 48, g 49, g 50, g 51, g 52, g 53, g 54, g 55, g 56, g 57, g 58, g 59, g 60, g 61, g 62, g 63, g 64, g 65, g 66, g 67, g 68, g 69, g 70, g 71, g 72, g 73, g 74, g 75, g 76, g 77, g 78, g 79, g 80, g 81, g 82, g 83, g 84, g 85, g 86, g 87, g 88, g 89, g 90, g 91, g 92, g 93, g 94, g 95, g 96, g 97, g 98, g 99, g 100, g 101, g 102, g 103, g 104, g 105, g 106, g 107, g 108, g 109, g 110, g 111, g 112, g 113, g 114, g 115, g 116, g 117, g 118, g 119, g 120, g 121, g 122, g 123, g 124, g 125, g 126, g 127, g 128, g 129, g 130, g 131, g 132, g 133, g 134, g 135, g 136, g 137, g 138, g 139, g 140, g 141, g 142, g 143, g 144, g 145, g 146, g 147, g 148, g 149, g 150, g 151, g 152, g 153, g 154, g 155, g 156, g 157, g 158, g 159, g 160, g 161, g 162, g 163, g 164, g 165]) → WS hh lo nn W C U p pv m n cv uv (rdf ps.length r (swf cf ps.length b) (swf cf ps.length b) n) (rdf ps.length r (swf cf ps.length b) (swf uf ps.length b) n) → PV hh lo nn W C U pv ps p → nx ≤ nn → (∀ i, i < lo → hh i = h i) →
        ∃ k', k' < k0 ∧ ∃ (cv uv : Nat → AV) (cf uf : Nat → Nat → Bool × Int), (∃ g : Nat → AV, sl = [.ptr W 0, .int .i64 (r : Int), g 2, g 3, .int .i64 (ps.length : Int), g 5, g 6, g 7, g 8, g 9, g 10, g 11, g 12, g 13, g 14, g 15, g 16, g 17, g 18, g 19, g 20, g 21, g 22, g 23, g 24, g 25, g 26, g 27, g 28, g 29, g 30, g 31, g 32, g 33, g 34, g 35, g 36, g 37, g 38, g 39, g 40, g 41, g 42, g 43, g 44, g 45, g 46, g 47, g 48, g 49, g 50, g 51, g 52, g 53, g 54, g 55, g 56, g 57, g 58, g 59, g 60, g 61, g 62, g 63, g 64, g 65, g 66, g 67, g 68, g 69, g 70, g 71, g 72, g 73, g 74, g 75, g 76, g 77, g 78, g 79, g 80, g 81, g 82, g 83, g 84, g 85, g 86, g 87, g 88, g 89, g 90, g 91, g 92, g 93, g 94, g 95, g 96, g 97, g 98, g 99, g 100, g 101, g 102, g 103, g 104, g 105, g 106, g 107, g 108, g 109, g 110, g 111, g 112, g 113, g 114, g 115, g 116, g 117, g 118, g 119, g 120, g 121, g 122, g 123, g 124, g 125, g 126, g 127, g 128, g 129, g 130, g 131, g 132, g 133, g 134, g 135, g 136, g 137, g 138, g 139, g 140, g 141, g 142, g 143, g 144, g 145, g 146, g 147, g 148, g 149, g 150, g 151, g 152, g 153, g 154, g 155, g 156, g 157, g 158, g 159, g 160, g 161, g 162, g 163, g 164, g 165]) ∧ WS hh lo nn W C U p pv m n cv uv cf uf ∧ PV hh lo nn W C U pv ps p ∧ I cf uf ∧ μ cf = k' ∧ nx ≤ nn ∧ ∀ i, i < lo → hh i = h i := fun hh nn sl cv uv c0 c1 c2 c3 c4 => ⟨_, by rw [← hk0]; exact F4, cv, uv, _, _, c0, c1, c2, F3, rfl, c3, c4⟩
    generalize hIQ : (fun (k' : Nat) (σ : St) => ∃ (cv uv : Nat → AV) (cf uf : Nat → Nat → Bool × Int), (∃ g : Nat → AV, σ.sl = [.ptr W 0, .int .i64 (r : Int), g 2, g 3, .int .i64 (ps.length : Int), g 5, g 6, g 7, g 8, g 9, g 10, g 11, g 12, g 13, g 14, g 15, g 16, g 17, g 18, g 19, g 20, g 21, g 22, g 23, g 24, g 25, g 26, g 27, g 28, g 29, g 30, g 31, g 32, g 33, g 34, g 35, g 36, g 37, g 38, g 39, g 40, g 41, g 42, g 43, g 44, g 45, g 46, g 47, g 48, g 49, g 50, g 51, g 52, g 53, g 54, g 55, g 56, g 57, g 58, g 59, g 60, g 61, g 62, g 63, g 64, g 65, g 66, g 67, g 68, g 69, g 70, g 71, g 72, g 73, g 74, g 75, g 76, g 77, g 78, g 79, g 80, g 81, g 82, g 83, g 84, g 85, g 86, g 87, g 88, g 89, g 90, g 91, g 92, g 93, g 94, g 95, g 96, g 97, g 98, g 99, g 100, g 101, g 102, g 103, g 104, g 105, g 106, g 107, g 108, g 109, g 110, g 111, g 112, g 113, g 114, g 115, g 116, g 117, g 118, g 119, g 120, g 121, g 122, g 123, g 124, g 125, g 126, g 127, g 128, g 129, g 130, g 131, g 132, g 133, g 134, g 135, g 136, g 137, g 138, g 139, g 140, g 141, g 142, g 143, g 144, g 145, g 146, g 147, g 148, g 149, g 150, g 151, g 152, g 153, g 154, g 155, g 156, g 157, g 158, g 159, g 160, g 161, g 162, g 163, g 164, g 165]) ∧ WS σ.h lo σ.nx W C U p pv m n cv uv cf uf ∧ PV σ.h lo σ.nx W C U pv ps p ∧ I cf uf ∧ μ cf = k' ∧ nx ≤ σ.nx ∧ ∀ i, i < lo → σ.h i = h i) = IQ
    have hstart : WS H2' lo N2 W C U p pv m n (fun j => cv (Euc.sx ps.length b j)) (fun j => uv (Euc.sx ps.length b j)) (rdf ps.length r (swf cf ps.length b) (swf cf ps.length b) (ps.length + 1)) (rdf ps.length r (swf cf ps.length b) (swf uf ps.length b) (ps.length + 1)) := by
      have e : ∀ f : Nat → Nat → Bool × Int, rdf ps.length r (swf cf ps.length b) f (ps.length + 1) = f := fun f => by
        funext j; unfold rdf; rw [if_neg (by omega)]
      rw [e, e]; exact hS3
    generalize hcS : swf cf ps.length b = c1 at *
    generalize huS : swf uf ps.length b = u1 at *
    simp (maxSteps := 4000000) only [go_sem, seval, ↓reduceIte, reduceCtorEq, z2, w0]
    refine W_loopS (fun kk sl hh nn => ∃ (k : Nat) (cv uv : Nat → AV), k + kk = n ∧ ps.length < k ∧ (∃ g : Nat → AV, sl = [.ptr W 0, .int .i64 (r : Int), g 2, g 3, .int .i64 (ps.length : Int), g 5, g 6, g 7, g 8, .int .i64 (k : Int), g 10, g 11, g 12, g 13, g 14, g 15, g 16, g 17, g 18, g 19, g 20, g 21, g 22, g 23, g 24, g 25, g 26, g 27, g 28, g 29, g 30, g 31, g 32, g 33, g 34, g 35, g 36, g 37, g 38, g 39, g 40, g 41, g 42, g 43, g 44, g 45, g 46, g 47, g 48, g 49, g 50, g 51, g 52, g 53, g 54, g 55, g 56, g 57, g 58, g 59, g 60, g 61, g 62, g 63, g 64, g 65, g 66, g 67, g 68, g 69, g 70, g 71, g 72, g 73, g 74, g 75, g 76, g 77, g 78, g 79, g 80, g 81, g 82, g 83, g 84, g 85, g 86, g 87, g 88, g 89, g 90, g 91, g 92, g 93, g 94, g 95, g 96, g 97, g 98, g 99, g 100, g 101, g 102, g 103, g 104, g 105, g 106, g 107, g 108, g 109, g 110, g 111, g 112, g 113, g 114, g 115, g 116, g 117, g 118, g 119, g 120, g 121, g 122, g 123, g 124, g 125, g 126, g 127, g 128, g 129, g 130, g 131, g 132, g 133, g 134, g 135, g 136, g 137, g 138, g 139, g 140, g 141, g 142, g 143, g 144, g 145, g 146, g 147, g 148, g 149, g 150, g 151, g 152, g 153, g 154, g 155, g 156, g 157, g 158, g 159, g 160, g 161, g 162, g 163, g 164, g 165]) ∧ WS hh lo nn W C U p pv m n cv uv (rdf ps.length r c1 c1 k) (rdf ps.length r c1 u1 k) ∧ PV hh lo nn W C U pv ps p ∧ nx ≤ nn ∧ ∀ i, i < lo → hh i = h i) (n - (ps.length + 1)) ⟨ps.length + 1, _, _, by omega, by omega, ?_, hstart, hP3, ?_, hfr3⟩ ?_
    · refine garb ?_
      rfl
    · dsimp only; omega
    clear hstart hP3 hfr3 hS3 hw4 hS2 hP2 hsc hS hP hf
    rintro kk _ hh Nk ⟨k, cvk, uvk, hkk, hpk, ⟨g5, rfl⟩, hSk, hPk, hNk, hfrk⟩
    have hwk := hSk.w
    have hck := hSk.c
    by_cases hkn : k = n
    · have z1 : ((k : Int) < (n : Int)) = False := eq_false (by omega)
      simp (maxSteps := 4000000) only [go_sem, seval, ↓reduceIte, reduceCtorEq, hwk, hck, z1]
      rw [← hIQ]
      rw [hkn] at hSk
      refine hout _ _ _ cvk uvk ?_ hSk hPk hNk hfrk
      refine garb ?_
      rfl
    · have z1 : ((k : Int) < (n : Int)) = True := eq_true (by omega)
      have z0 : ((0 : Int) ≤ (k : Int)) = True := eq_true (by omega)
      have zp0 : ((0 : Int) ≤ (ps.length : Int)) = True := eq_true (by omega)
      have zp1 : ((ps.length : Int) < (n : Int)) = True := eq_true (by omega)
      have y0 : ((0 : Int) ≤ (r : Int)) = True := eq_true (by omega)
      have y1 : ((r : Int) < (m : Int)) = True := eq_true (by omega)
      have hlc : ((List.range n).map cvk).length = n := by simp
      have g1 := range_get (f := cvk) (show k < n by omega)
      have g2 := range_get (f := cvk) hpcn
      have w1 : IntKind.i64.wrap ((k + 1 : Nat) : Int) = ((k + 1 : Nat) : Int) := wrap64 (by omega) (by omega)
      obtain ⟨q1, q2, q3, q4, q5, q6, q7, q8, q9⟩ := hSk.lt
      have ek : rdf ps.length r c1 c1 k k = c1 k := by unfold rdf; rw [if_neg (by omega)]
      have ep : rdf ps.length r c1 c1 k ps.length = c1 ps.length := by unfold rdf; rw [if_neg (by omega)]
      have euk : rdf ps.length r c1 u1 k k = u1 k := by unfold rdf; rw [if_neg (by omega)]
      have eup : rdf ps.length r c1 u1 k ps.length = u1 ps.length := by unfold rdf; rw [if_neg (by omega)]
      have hfk := F1 k (by omega)
      have hfp := F1 ps.length hpcn
      have hflag := hSk.fc k r (by omega) hr
      rw [ek] at hflag
      obtain ⟨fl, dv, dv1, dv2⟩ := exDiv_ret (c1 k r).1 (c1 ps.length r).1 (c1 k r).2 (c1 ps.length r).2 hfk hfp hpiv hflag
      have hz := exZero (c1 k r).1 (c1 k r).2
      have cl1a := cell_lst (f := c1 k) hr
      have cl1b := cell_ref (f := c1 k) hr
      have cl2a := cell_lst (f := c1 ps.length) hr
      have cl2b := cell_ref (f := c1 ps.length) hr
      have hrl1 : ((rl m (c1 k)).map ivr).length = m := by rw [List.length_map, rl_len]
      have hrl2 : ((rl m (c1 ps.length)).map ivr).length = m := by rw [List.length_map, rl_len]
      have hrd1 : (r * 2 + 2 ≤ (fr (rl m (c1 k))).length) = True := eq_true (by rw [fr_len, rl_len]; omega)
      have hrd2 : (r * 2 + 2 ≤ (fr (rl m (c1 ps.length))).length) = True := eq_true (by rw [fr_len, rl_len]; omega)
      have hrc1 : ((rl m (c1 k)).length : Int) = (m : Int) := by rw [rl_len]
      have hrc2 : ((rl m (c1 ps.length)).length : Int) = (m : Int) := by rw [rl_len]
      have x1 : (W = Nk) = False := eq_false (by omega)
      have x2 : (Nk = W) = False := eq_false (by omega)
      have x3 : (C = Nk) = False := eq_false (by omega)
      have x4 : (Nk = C) = False := eq_false (by omega)
      have x5 : (W = Nk + 1) = False := eq_false (by omega)
      have x6 : (Nk + 1 = W) = False := eq_false (by omega)
      have x7 : (C = Nk + 1) = False := eq_false (by omega)
      have x8 : (Nk + 1 = C) = False := eq_false (by omega)
      have x9 : (W = C) = False := eq_false q7
      have x10 : (C = W) = False := eq_false fun e => q7 e.symm
      have xs1 : (Nk + 1 = Nk) = False := eq_false (by omega)
      have xs2 : (Nk = Nk + 1) = False := eq_false (by omega)
      have hkk := hSk.cc k (by omega)
      have hkp := hSk.cc ps.length hpcn
      rw [ek] at hkk
      rw [ep] at hkp
      obtain ⟨QD, hQD⟩ : ∃ QD : Ex → St → Prop, QD = fun ex τ => ex = .norm ∧ (∃ g : Nat → AV, τ.sl = [.ptr W 0, .int .i64 (r : Int), g 2, g 3, .int .i64 (ps.length : Int), g 5, g 6, g 7, g 8, .int .i64 (k : Int), .ptr Nk 0, g 11, g 12, g 13, g 14, g 15, g 16, g 17, g 18, g 19, g 20, g 21, g 22, g 23, g 24, g 25, g 26, g 27, g 28, g 29, g 30, g 31, g 32, g 33, g 34, g 35, g 36, g 37, g 38, g 39, g 40, g 41, g 42, g 43, g 44, g 45, g 46, g 47, g 48, g 49, g 50, g 51, g 52, g 53, g 54, g 55, g 56, g 57, g 58, g 59, g 60, g 61, g 62, g 63, g 64, g 65, g 66, g 67, g 68, g 69, g 70, g 71, g 72, g 73, g 74, g 75, g 76, g 77, g 78, g 79, g 80, g 81, g 82, g 83, g 84, g 85, g 86, g 87, g 88, g 89, g 90, g 91, g 92, g 93, g 94, g 95, g 96, g 97, g 98, g 99, g 100, g 101, g 102, g 103, g 104, g 105, g 106, g 107, g 108, g 109, g 110, g 111, g 112, g 113, g 114, g 115, g 116, g 117, g 118, g 119, g 120, g 121, g 122, g 123, g 124, g 125, g 126, g 127, g 128, g 129, g 130, g 131, g 132, g 133, g 134, g 135, g 136, g 137, g 138, g 139, g 140, g 141, g 142, g 143, g 144, g 145, g 146, g 147, g 148, g 149, g 150, g 151, g 152, g 153, g 154, g 155, g 156, g 157, g 158, g 159, g 160, g 161, g 162, g 163, g 164, g 165]) ∧ Nk + 1 ≤ τ.nx ∧ τ.h Nk = some ⟨[.bool (ng ((c1 k r).2 / (c1 ps.length r).2)), .lst fl.1 ((dg ((c1 k r).2 / (c1 ps.length r).2)).map wd)], true, 2, false⟩ ∧ ∀ i, i < Nk → τ.h i = hh i := ⟨_, rfl⟩
      simp (maxSteps := 4000000) only [go_sem, seval, ↓reduceIte, reduceCtorEq, hwk, hck, z1]
      refine W_mono (Q := QD) ?_ ?_
      · refine W_drawn ?_
        rcases hkk with hv1 | ⟨id1, fz1, hv1, hlo1, hlt1, hb1, hh1⟩ <;> rcases hkp with hv2 | ⟨id2, fz2, hv2, hlo2, hlt2, hb2, hh2⟩
        · simp (maxSteps := 4000000) only [go_sem, seval, ↓reduceIte, reduceCtorEq, hwk, hck, z0, z1, zp0, zp1, y0, y1, hlc, g1, g2, x1, x2, x3, x4, x5, x6, x7, x8, x9, x10, dv, hv1, cl1a, hrl1, hrc1, hv2, cl2a, hrl2, hrc2, xs1, xs2, reps, places, fillAll]
          refine ⟨by refine okR_pairs ?_; (repeat ((with_unfolding_all refine And.intro ?_ ?_); (focus (rw [free_mk] <;> (try simp) <;> (try omega))))); (with_unfolding_all exact True.intro), ?_⟩
          rw [hQD]
          refine ⟨rfl, ?_, by dsimp only; omega, ?_, fun i hi => ?_⟩
          · refine garb ?_
            rfl
          · simp only [upd_apply, ↓reduceIte, Nat.reduceEqDiff, xs1, xs2, if_pos]
          · simp only [upd_apply]
            rw [if_neg (by omega), if_neg (by omega), if_neg (by omega), if_neg (by omega)]
        · simp only [List.mem_cons, List.not_mem_nil, or_false, not_or] at hb2
          obtain ⟨hb21, hb22, hb23, hb24⟩ := hb2
          have yx20 : (id2 = Nk) = False := eq_false (by omega)
          have yx21 : (Nk = id2) = False := eq_false (by omega)
          have yx22 : (id2 = Nk + 1) = False := eq_false (by omega)
          have yx23 : (Nk + 1 = id2) = False := eq_false (by omega)
          simp (maxSteps := 4000000) only [go_sem, seval, ↓reduceIte, reduceCtorEq, hwk, hck, z0, z1, zp0, zp1, y0, y1, hlc, g1, g2, x1, x2, x3, x4, x5, x6, x7, x8, x9, x10, dv, hv1, cl1a, hrl1, hrc1, hv2, hh2, cl2b, hrd2, yx20, yx21, yx22, yx23, xs1, xs2, reps, places, fillAll]
          refine ⟨by refine okR_pairs ?_; (repeat ((with_unfolding_all refine And.intro ?_ ?_); (focus (rw [free_mk] <;> (try simp) <;> (try omega))))); (with_unfolding_all exact True.intro), ?_⟩
          rw [hQD]
          refine ⟨rfl, ?_, by dsimp only; omega, ?_, fun i hi => ?_⟩
          · refine garb ?_
            rfl
          · simp only [upd_apply, ↓reduceIte, Nat.reduceEqDiff, xs1, xs2, if_pos]
          · simp only [upd_apply]
            rw [if_neg (by omega), if_neg (by omega), if_neg (by omega), if_neg (by omega)]
        · simp only [List.mem_cons, List.not_mem_nil, or_false, not_or] at hb1
          obtain ⟨hb11, hb12, hb13, hb14⟩ := hb1
          have yx10 : (id1 = Nk) = False := eq_false (by omega)
          have yx11 : (Nk = id1) = False := eq_false (by omega)
          have yx12 : (id1 = Nk + 1) = False := eq_false (by omega)
          have yx13 : (Nk + 1 = id1) = False := eq_false (by omega)
          simp (maxSteps := 4000000) only [go_sem, seval, ↓reduceIte, reduceCtorEq, hwk, hck, z0, z1, zp0, zp1, y0, y1, hlc, g1, g2, x1, x2, x3, x4, x5, x6, x7, x8, x9, x10, dv, hv1, hh1, cl1b, hrd1, yx10, yx11, yx12, yx13, hv2, cl2a, hrl2, hrc2, xs1, xs2, reps, places, fillAll]
          refine ⟨by refine okR_pairs ?_; (repeat ((with_unfolding_all refine And.intro ?_ ?_); (focus (rw [free_mk] <;> (try simp) <;> (try omega))))); (with_unfolding_all exact True.intro), ?_⟩
          rw [hQD]
          refine ⟨rfl, ?_, by dsimp only; omega, ?_, fun i hi => ?_⟩
          · refine garb ?_
            rfl
          · simp only [upd_apply, ↓reduceIte, Nat.reduceEqDiff, xs1, xs2, if_pos]
          · simp only [upd_apply]
            rw [if_neg (by omega), if_neg (by omega), if_neg (by omega), if_neg (by omega)]
        · simp only [List.mem_cons, List.not_mem_nil, or_false, not_or] at hb1
          obtain ⟨hb11, hb12, hb13, hb14⟩ := hb1
          have yx10 : (id1 = Nk) = False := eq_false (by omega)
          have yx11 : (Nk = id1) = False := eq_false (by omega)
          have yx12 : (id1 = Nk + 1) = False := eq_false (by omega)
          have yx13 : (Nk + 1 = id1) = False := eq_false (by omega)
          simp only [List.mem_cons, List.not_mem_nil, or_false, not_or] at hb2
          obtain ⟨hb21, hb22, hb23, hb24⟩ := hb2
          have yx20 : (id2 = Nk) = False := eq_false (by omega)
          have yx21 : (Nk = id2) = False := eq_false (by omega)
          have yx22 : (id2 = Nk + 1) = False := eq_false (by omega)
          have yx23 : (Nk + 1 = id2) = False := eq_false (by omega)
          simp (maxSteps := 4000000) only [go_sem, seval, ↓reduceIte, reduceCtorEq, hwk, hck, z0, z1, zp0, zp1, y0, y1, hlc, g1, g2, x1, x2, x3, x4, x5, x6, x7, x8, x9, x10, dv, hv1, hh1, cl1b, hrd1, yx10, yx11, yx12, yx13, hv2, hh2, cl2b, hrd2, yx20, yx21, yx22, yx23, xs1, xs2, reps, places, fillAll]
          refine ⟨by refine okR_pairs ?_; (repeat ((with_unfolding_all refine And.intro ?_ ?_); (focus (rw [free_mk] <;> (try simp) <;> (try omega))))); (with_unfolding_all exact True.intro), ?_⟩
          rw [hQD]
          refine ⟨rfl, ?_, by dsimp only; omega, ?_, fun i hi => ?_⟩
          · refine garb ?_
            rfl
          · simp only [upd_apply, ↓reduceIte, Nat.reduceEqDiff, xs1, xs2, if_pos]
          · simp only [upd_apply]
            rw [if_neg (by omega), if_neg (by omega), if_neg (by omega), if_neg (by omega)]
      · rw [hQD]
        clear hQD QD
        rintro ex ⟨sl, hd, Nd⟩ ⟨rfl, ⟨g6, rfl⟩, hNd, hq, hfd⟩
        dsimp only at hNd hq hfd
        have hSd := hSk.mono (nx' := Nd) (by omega) hfd
        have hPd := hPk.mono (h' := hd) (nx' := Nd) (by omega) (fun p1 _ _ _ => hfd p p1)
        have hwd := hSd.w
        have hcd := hSd.c
        have hin : ∀ (h4 : Heap) (N4 : Nat) (sl : List AV) (cv uv : Nat → AV), (∃ g : Nat → AV, sl = [.ptr W 0, .int .i64 (r : Int), g 2, g 3, .int .i64 (ps.length : Int), g 5, g 6, g 7, g 8, .int .i64 ((k + 1 : Nat) : Int), g 10, g 11, g 12, g 13, g 14, g 15, g 16, g 17, g 18, g 19, g 20, g 21, g 22, g 23, g 24, g 25, g 26, g 27, g 28, g 29, g 30, g 31, g 32, g 33, g 34, g 35, g 36, g 37, g 38, g 39, g 40, g 41, g 42, g 43, g 44, g 45, g 46, g 47, g 48, g 49, g 50, g 51, g 52, g 53, g 54, g 55, g 56, g 57, g 58, g 59, g 60, g 61, g 62, g 63, g 64, g 65, g 66, g 67, g 68, g 69, g 70, g 71, g 72, g 73, g 74, g 75, g 76, g 77, g 78, g 79, g 80, g 81, g 82, g 83, g 84, g 85, g 86, g 87, g 88, g 89, g 90, g 91, g 92, g 93, g 94, g 95, g 96, g 97, g 98, g 99, g 100, g 101, g 102, g 103, g 104, g 105, g 106, g 107, g 108, g 109, g 110, g 111, g 112, g 113, g 114, g 115, g 116, g 117, g 118, g 119, g 120, g 121, g 122, g 123, g 124, g 125, g 126, g 127, g 128, g 129, g 130, g 131, g 132, g 133, g 134, g 135, g 136, g 137, g 138, g 139, g 140, g 141, g 142, g 143, g 144, g 145, g 146, g 147, g 148, g 149, g 150, g 151, g 152, g 153, g 154, g 155, g 156, g 157, g 158, g 159, g 160, g 161, g 162, g 163, g 164, g 165]) → WS h4 lo N4 W C U p pv m n cv uv (rdf ps.length r c1 c1 (k + 1)) (rdf ps.length r c1 u1 (k + 1)) → PV h4 lo N4 W C U pv ps p → nx ≤ N4 → (∀ i, i < lo → h4 i = h i) →
            ∃ kk', kk' < kk ∧ ∃ (k : Nat) (cv uv : Nat → AV), k + kk' = n ∧ ps.length < k ∧ (∃ g : Nat → AV, sl = [.ptr W 0, .int .i64 (r : Int), g 2, g 3, .int .i64 (ps.length : Int), g 5, g 6, g 7, g 8, .int .i64 (k : Int), g 10, g 11, g 12, g 13, g 14, g 15, g 16, g 17, g 18, g 19, g 20, g 21, g 22, g 23, g 24, g 25, g 26, g 27, g 28, g 29, g 30, g 31, g 32, g 33, g 34, g 35, g 36, g 37, g 38, g 39, g 40, g 41, g 42, g 43, g 44, g 45, g 46, g 47, g 48, g 49, g 50, g 51, g 52, g 53, g 54, g 55, g 56, g 57, g 58, g 59, g 60, g 61, g 62, g 63, g 64, g 65, g 66, g 67, g 68, g 69, g 70, g 71, g 72, g 73, g 74, g 75, g 76, g 77, g 78, g 79, g 80, g 81, g 82, g 83, g 84, g 85, g 86, g 87, g 88, g 89, g 90, g 91, g 92, g 93, g 94, g 95, g 96, g 97, g 98, g 99, g 100, g 101, g 102, g 103, g 104, g 105, g 106, g 107, g 108, g 109, g 110, g 111, g 112, g 113, g 114, g 115, g 116, g 117, g 118, g 119, g 120, g 121, g 122, g 123, g 124, g 125, g 126, g 127, g 128, g 129, g 130, g 131, g 132, g 133, g 134, g 135, g 136, g 137, g 138, g 139, g 140, g 141, g 142, g 143, g 144, g 145, g 146, g 147, g 148, g 149, g 150, g 151, g 152, g 153, g 154, g 155, g 156, g 157, g 158, g 159, g 160, g 161, g 162, g 163, g 164, g 165]) ∧ WS h4 lo N4 W C U p pv m n cv uv (rdf ps.length r c1 c1 k) (rdf ps.length r c1 u1 k) ∧ PV h4 lo N4 W C U pv ps p ∧ nx ≤ N4 ∧ ∀ i, i < lo → h4 i = h i := fun h4 N4 sl cv uv e0 e1 e2 e3 e4 => ⟨kk - 1, by omega, k + 1, cv, uv, by omega, by omega, e0, e1, e2, e3, e4⟩
        generalize hIQ2 : (fun (kk : Nat) (σ : St) => ∃ (k : Nat) (cv uv : Nat → AV), k + kk = n ∧ ps.length < k ∧ (∃ g : Nat → AV, σ.sl = [.ptr W 0, .int .i64 (r : Int), g 2, g 3, .int .i64 (ps.length : Int), g 5, g 6, g 7, g 8, .int .i64 (k : Int), g 10, g 11, g 12, g 13, g 14, g 15, g 16, g 17, g 18, g 19, g 20, g 21, g 22, g 23, g 24, g 25, g 26, g 27, g 28, g 29, g 30, g 31, g 32, g 33, g 34, g 35, g 36, g 37, g 38, g 39, g 40, g 41, g 42, g 43, g 44, g 45, g 46, g 47, g 48, g 49, g 50, g 51, g 52, g 53, g 54, g 55, g 56, g 57, g 58, g 59, g 60, g 61, g 62, g 63, g 64, g 65, g 66, g 67, g 68, g 69, g 70, g 71, g 72, g 73, g 74, g 75, g 76, g 77, g 78, g 79, g 80, g 81, g 82, g 83, g 84, g 85, g 86, g 87, g 88, g 89, g 90, g 91, g 92, g 93, g 94, g 95, g 96, g 97, g 98, g 99, g 100, g 101, g 102, g 103, g 104, g 105, g 106, g 107, g 108, g 109, g 110, g 111, g 112, g 113, g 114, g 115, g 116, g 117, g 118, g 119, g 120, g 121, g 122, g 123, g 124, g 125, g 126, g 127, g 128, g 129, g 130, g 131, g 132, g 133, g 134, g 135, g 136, g 137, g 138, g 139, g 140, g 141, g 142, g 143, g 144, g 145, g 146, g 147, g 148, g 149, g 150, g 151, g 152, g 153, g 154, g 155, g 156, g 157, g 158, g 159, g 160, g 161, g 162, g 163, g 164, g 165]) ∧ WS σ.h lo σ.nx W C U p pv m n cv uv (rdf ps.length r c1 c1 k) (rdf ps.length r c1 u1 k) ∧ PV σ.h lo σ.nx W C U pv ps p ∧ nx ≤ σ.nx ∧ ∀ i, i < lo → σ.h i = h i) = IQ2
        have hkd := hSd.cc k (by omega)
        rw [ek] at hkd
        by_cases h0 : (c1 k r).2 = 0
        · rw [decide_eq_true h0] at hz
          have er : ∀ f : Nat → Nat → Bool × Int, rdf ps.length r c1 f (k + 1) = rdf ps.length r c1 f k := fun f => by
            funext j; unfold rdf
            by_cases ej : j = k
            · subst ej; rw [if_neg (fun e => e.2.2 h0), if_neg (fun e => e.2.2 h0)]
            · by_cases e1 : ps.length < j ∧ j < k ∧ (c1 j r).2 ≠ 0
              · rw [if_pos ⟨e1.1, by omega, e1.2.2⟩, if_pos e1]
              · rw [if_neg (fun e => e1 ⟨e.1, by omega, e.2.2⟩), if_neg e1]
          rw [er, er] at hin
          rcases hkd with hv1 | ⟨id1, fz1, hv1, hlo1, hlt1, hb1, hh1⟩
          · simp (maxSteps := 4000000) only [go_sem, seval, ↓reduceIte, reduceCtorEq, hwd, hcd, z0, z1, y0, y1, hlc, g1, x9, x10, hz, w1, hv1, cl1a, hrl1, hrc1, purify_lraw]
            rw [← hIQ2]
            refine hin _ _ _ cvk uvk ?_ hSd hPd (by dsimp only; omega) (fun i hi => (hfd i (by omega)).trans (hfrk i hi))
            refine garb ?_
            rfl
          · simp (maxSteps := 4000000) only [go_sem, seval, ↓reduceIte, reduceCtorEq, hwd, hcd, z0, z1, y0, y1, hlc, g1, x9, x10, hz, w1, hv1, hh1, cl1b, hrd1, purify_lraw]
            rw [← hIQ2]
            refine hin _ _ _ cvk uvk ?_ hSd hPd (by dsimp only; omega) (fun i hi => (hfd i (by omega)).trans (hfrk i hi))
            refine garb ?_
            rfl
        · rw [decide_eq_false h0] at hz
          obtain ⟨G1, G2, G3⟩ := F2 k hpk (by omega) h0
          have er : ∀ f : Nat → Nat → Bool × Int, rdf ps.length r c1 f (k + 1) = fun j => if j = k then tkf (rdf ps.length r c1 f k k) (rdf ps.length r c1 f k ps.length) ((c1 k r).2 / (c1 ps.length r).2) else rdf ps.length r c1 f k j := fun f => by
            funext j
            have e1 : rdf ps.length r c1 f k k = f k := by unfold rdf; rw [if_neg (by omega)]
            have e2 : rdf ps.length r c1 f k ps.length = f ps.length := by unfold rdf; rw [if_neg (by omega)]
            rw [e1, e2]
            by_cases ej : j = k
            · subst ej; rw [if_pos rfl]; unfold rdf; rw [if_pos ⟨hpk, by omega, h0⟩]
            · rw [if_neg ej]; unfold rdf
              by_cases e1 : ps.length < j ∧ j < k ∧ (c1 j r).2 ≠ 0
              · rw [if_pos ⟨e1.1, by omega, e1.2.2⟩, if_pos e1]
              · rw [if_neg (fun e => e1 ⟨e.1, by omega, e.2.2⟩), if_neg e1]
          rw [er, er] at hin
          have htk := take_open hd lo Nd W C U p pv m n cvk uvk _ _ hSd k ps.length (by omega) hpcn hm hn fl.1 ((c1 k r).2 / (c1 ps.length r).2) G1 (by rw [ek, ep]; exact G2) (by rw [euk, eup]; exact G3)
          rcases hkd with hv1 | ⟨id1, fz1, hv1, hlo1, hlt1, hb1, hh1⟩
          · simp (maxSteps := 4000000) only [go_sem, seval, ↓reduceIte, reduceCtorEq, hwd, hcd, z0, z1, y0, y1, hlc, g1, x9, x10, hz, w1, hq, hv1, cl1a, hrl1, hrc1, purify_lraw]
            refine openK_unit _ htk ?_
            rintro h4 N4 ⟨t1, t2, t3, t4⟩
            simp (maxSteps := 4000000) only [go_sem, seval, ↓reduceIte, reduceCtorEq, w1]
            rw [← hIQ2]
            refine hin _ _ _ _ _ ?_ t4 (hPd.mono t1 t3) (by dsimp only; omega) (fun i hi => (t2 i hi).trans ((hfd i (by omega)).trans (hfrk i hi)))
            refine garb ?_
            rfl
          · simp (maxSteps := 4000000) only [go_sem, seval, ↓reduceIte, reduceCtorEq, hwd, hcd, z0, z1, y0, y1, hlc, g1, x9, x10, hz, w1, hq, hv1, hh1, cl1b, hrd1, purify_lraw]
            refine openK_unit _ htk ?_
            rintro h4 N4 ⟨t1, t2, t3, t4⟩
            simp (maxSteps := 4000000) only [go_sem, seval, ↓reduceIte, reduceCtorEq, w1]
            rw [← hIQ2]
            refine hin _ _ _ _ _ ?_ t4 (hPd.mono t1 t3) (by dsimp only; omega) (fun i hi => (t2 i hi).trans ((hfd i (by omega)).trans (hfrk i hi)))
            refine garb ?_
            rfl

  obtain ⟨v, h', n', d1, rfl, d2⟩ := key
  exact ⟨h', n', d1, d2⟩
end Go.Proofs.Ytnpomadbaanpkaa

/- Walks: a matrix in steps. (Own work of this repo.) -/
namespace Go.Proofs.Ytnpomadbaanpkaa
open Vm
set_option maxRecDepth 10000

theorem rz_num {q : Raw} (h : NumQ q) : rz (q.2.1, zv q) = q := by
  obtain ⟨a, b, c⟩ := q
  obtain ⟨_, h2, h3⟩ := h
  simp only [rz, h2, h3]
/-- The columns at the start. -/
def cf0 (A : Mat) (k i : Nat) : Bool × Int := (((A.getD i default).2.getD k default).2.1, rowz A i k)
def uf0 (k j : Nat) : Bool × Int := if j = k then (false, 1) else (true, 0)
theorem colL_rl {A : Mat} {w k : Nat} (hA : MatV A w) (hk : k < w) : colL A A.length 0 k = rl A.length (cf0 A k) := by
  unfold colL rl
  rw [if_neg (Nat.not_lt_zero k)]
  refine List.map_congr_left fun i hi => ?_
  have hi' := List.mem_range.1 hi
  obtain ⟨h1, h2⟩ := hA i hi'
  have hm : ∀ (L : List Raw) (k : Nat), k < L.length → L.getD k default ∈ L := fun L k hk => by rw [List.getD_eq_getElem?_getD, List.getElem?_eq_getElem hk]; exact List.getElem_mem _
  exact (rz_num (h1.num (hm _ k (by omega)))).symm
/-- The unit columns, as they are made. -/
def UV (h : Heap) (lo nx W C : Nat) (v : AV) (n k U : Nat) (uv : Nat → AV) : Prop :=
  ((k = 0 ∧ v = .lst true []) ∨ (0 < k ∧ v = .ref U 0 k ∧ lo ≤ U ∧ U < nx ∧ W < U ∧ U ≠ C ∧ h U = some ⟨(List.range k).map uv, false, 1, false⟩)) ∧
  ∀ j, j < k → ∃ id, uv j = .ref id 0 n ∧ lo ≤ id ∧ id < nx ∧ id ≠ W ∧ id ≠ C ∧ (0 < k → id ≠ U) ∧ h id = some ⟨fr (rl n (uf0 j)), true, 2, false⟩
theorem UV.push {h h' : Heap} {lo nx W C : Nat} {v : AV} {n k U : Nat} {uv : Nat → AV} (hU : UV h lo nx W C v n k U uv) (hlo : lo ≤ nx) (hW : W < nx) (hC : C < nx) (hrow : h' (nx + 1 + 1) = some ⟨(List.range k).map uv ++ [.ref nx 0 n], false, 1, false⟩) (hnew : h' nx = some ⟨fr (rl n (uf0 k)), true, 2, false⟩)
    (hh : ∀ i, i < nx → i ≠ W → (k = 0 ∨ i ≠ U) → h' i = h i) : UV h' lo (nx + 1 + 1 + 1) W C (.ref (nx + 1 + 1) 0 (k + 1)) n (k + 1) (nx + 1 + 1) (fun j => if j = k then .ref nx 0 n else uv j) := by
  refine ⟨.inr ⟨by omega, rfl, by omega, by omega, by omega, by omega, ?_⟩, fun j hj => ?_⟩
  · rw [hrow]
    congr 2
    rw [List.range_succ, List.map_append]
    congr 1
    · refine List.map_congr_left fun j hj => ?_
      rw [if_neg (by have := List.mem_range.1 hj; omega)]
    · simp
  · by_cases e : j = k
    · subst e
      exact ⟨nx, if_pos rfl, hlo, by omega, by omega, by omega, fun _ => by omega, hnew⟩
    · obtain ⟨id, i1, i2, i3, i4, i5, i6, i7⟩ := hU.2 j (by omega)
      refine ⟨id, (if_neg e).trans i1, i2, by omega, i4, i5, fun _ => by omega, ?_⟩
      rw [hh id i3 i4 (.inr (i6 (by omega)))]
      exact i7
/-- What a row needs (Rwo's hypotheses), for a predicate J of the rows done. -/
def RowHyp (m n : Nat) (J : Nat → List Nat → (Nat → Nat → Bool × Int) → (Nat → Nat → Bool × Int) → Prop) : Prop :=
  ∀ r ps c1 u1, r < m → J r ps c1 u1 → ps.length ≤ n ∧ ∃ (I : (Nat → Nat → Bool × Int) → (Nat → Nat → Bool × Int) → Prop) (μ : (Nat → Nat → Bool × Int) → Nat), I c1 u1 ∧
    (∀ cf uf, I cf uf → ∀ k, k < n → (dg (cf k r).2).length ≤ 4096) ∧
    (∀ cf uf, I cf uf → (∀ k, ps.length ≤ k → k < n → (cf k r).2 = 0) → J (r + 1) ps cf uf) ∧
    (∀ cf uf b, I cf uf → ps.length ≤ b → b < n → (cf b r).2 ≠ 0 → (∀ k, ps.length ≤ k → k < n → k ≠ b → (cf k r).2 = 0) → J (r + 1) (ps ++ [r]) (swf cf ps.length b) (swf uf ps.length b)) ∧
    (∀ cf uf b, I cf uf → ps.length ≤ b → b < n → (cf b r).2 ≠ 0 → (∀ k, ps.length ≤ k → k < n → (cf k r).2 ≠ 0 → (cf b r).2.natAbs ≤ (cf k r).2.natAbs) → (∃ k, ps.length ≤ k ∧ k < n ∧ k ≠ b ∧ (cf k r).2 ≠ 0) →
      (∀ k, k < n → (dg (swf cf ps.length b k r).2).length ≤ 4096) ∧
      (∀ k, ps.length < k → k < n → (swf cf ps.length b k r).2 ≠ 0 → (dg ((swf cf ps.length b k r).2 / (swf cf ps.length b ps.length r).2)).length ≤ 4096 ∧ TkFit m (swf cf ps.length b k) (swf cf ps.length b ps.length) ((swf cf ps.length b k r).2 / (swf cf ps.length b ps.length r).2) ∧ TkFit n (swf uf ps.length b k) (swf uf ps.length b ps.length) ((swf cf ps.length b k r).2 / (swf cf ps.length b ps.length r).2)) ∧
      I (rdf ps.length r (swf cf ps.length b) (swf cf ps.length b) n) (rdf ps.length r (swf cf ps.length b) (swf uf ps.length b) n) ∧ μ (rdf ps.length r (swf cf ps.length b) (swf cf ps.length b) n) < μ cf)
set_option maxHeartbeats 8000000 in
theorem reduced_open (na : Bool) (A : Mat) (n : Nat) (hA : MatV A n) (hnil : ∀ i, i < A.length → ∀ k, k < n → (cf0 A k i).1 = true → (cf0 A k i).2 = 0) (h1 : 1 ≤ A.length) (hAm : A.length ≤ 100) (hn1 : 1 ≤ n) (hn : n ≤ 100) (h0 : Heap) (lo : Nat)
    
    (J : Nat → List Nat → (Nat → Nat → Bool × Int) → (Nat → Nat → Bool × Int) → Prop) (hJ0 : J 0 [] (cf0 A) uf0) (hR : RowHyp A.length n J) :
    ∃ v h' n', denO E 57 [mraw na A] h0 lo = some (.ret v, h', n') ∧ (∀ i, i < lo → h' i = h0 i) ∧ lo ≤ n' ∧ ∃ (W C U p : Nat) (pv : AV) (ps : List Nat) (cv uv : Nat → AV) (cf uf : Nat → Nat → Bool × Int), v = .ptr W 0 ∧ WS h' lo n' W C U p pv A.length n cv uv cf uf ∧ PV h' lo n' W C U pv ps p ∧ J A.length ps cf uf := by
  refine denO_intro E57 rfl ?_
  obtain ⟨c, N1, H1, ids, d1, d2, d3⟩ := turned_open na A n hA h1 hAm hn h0 lo
  have hcl := d2.cl
  have hcol : ∀ k, k < n → lo ≤ ids k ∧ ids k < N1 ∧ ids k ≠ c ∧ H1 (ids k) = some ⟨fr (rl A.length (cf0 A k)), true, 2, false⟩ := fun k hk => by
    have hl : (colL A A.length 0 k).length ≠ 0 := by rw [colL_len, if_neg (Nat.not_lt_zero k)]; omega
    obtain ⟨k1, k2, k3, k4⟩ := d2.col k hk hl
    rw [colL_rl hA hk] at k4
    exact ⟨k1, k2, k3, k4⟩
  have hrow : H1 c = some ⟨(List.range n).map fun k => .ref (ids k) 0 A.length, false, 1, false⟩ := by
    rw [d2.row]
    congr 2
    refine List.map_congr_left fun k hk => ?_
    unfold colv
    rw [colL_len, if_neg (Nat.not_lt_zero k), if_neg (by omega)]
  have x1 : (c = N1) = False := eq_false (by omega)
  have x2 : (N1 = c) = False := eq_false (by omega)
  simp (maxSteps := 4000000) only [go_sem, seval, ↓reduceIte, reduceCtorEq, Try.f57, d1, openK_ret, places, fillAll, hrow, x1, x2]
  refine W_loopS (fun kk sl h nx => ∃ (k U : Nat) (v : AV) (uv : Nat → AV), (∃ g : Nat → AV, sl = [mraw na A, g 1, g 2, .ptr N1 0, g 4, g 5, g 6, g 7, g 8, g 9, g 10, g 11, g 12, g 13, g 14, g 15, g 16, .int .i64 (n : Int), .int .i64 (k : Int), g 19, g 20, g 21, g 22, g 23, g 24, g 25, g 26, g 27, g 28, g 29, g 30, g 31, g 32, g 33, g 34, g 35, g 36, g 37, g 38, g 39, g 40, g 41, g 42, g 43, g 44, g 45, g 46, g 47, g 48, g 49, g 50, g 51, g 52]) ∧ k + kk = n ∧ h N1 = some ⟨[.ref c 0 n, v, .lst true []], true, 3, false⟩ ∧ UV h lo nx N1 c v n k U uv ∧ N1 + 1 ≤ nx ∧ (∀ i, i < N1 → h i = H1 i)) n ⟨0, 0, .lst true [], fun _ => .nilp, garb rfl, by omega, ?_, ⟨.inl ⟨rfl, rfl⟩, by omega⟩, Nat.le_refl _, fun i hi => ?_⟩ ?_
  · simp only [upd_apply, ↓reduceIte, Nat.reduceEqDiff, if_pos]
  · exact upd_ne (by omega)
  rintro kk _ h nx ⟨k, U, v, uv, ⟨g, rfl⟩, hkk, hw, hUV, hnx, hfr⟩
  have hc := (hfr c hcl.2).trans hrow
  by_cases hkn : k = n
  · have z1 : ((k : Int) < (n : Int)) = False := eq_false (by omega)
    simp (maxSteps := 4000000) only [go_sem, seval, ↓reduceIte, reduceCtorEq, z1]
    subst hkn
    rcases hUV.1 with ⟨u0, _⟩ | ⟨hk0, rfl, u1, u2, u3, u4, u5⟩
    · exact absurd u0 (by omega)
    have hS : WS h lo nx N1 c U N1 (.lst true []) A.length k (fun k => .ref (ids k) 0 A.length) uv (cf0 A) uf0 := by
      refine ⟨hw, hc, u5, by omega, fun j hj => ?_, fun j hj => ?_, fun j i hj hi => hnil i hi j hj, fun j i hj hi => ?_⟩
      · obtain ⟨k1, k2, k3, k4⟩ := hcol j hj
        refine .inr ⟨ids j, false, rfl, k1, by omega, ?_, (hfr _ k2).trans k4⟩
        simp only [List.mem_cons, List.not_mem_nil, or_false, not_or]
        exact ⟨by omega, k3, by omega, by omega⟩
      · obtain ⟨id, i1, i2, i3, i4, i5, i6, i7⟩ := hUV.2 j hj
        refine .inr ⟨id, false, i1, i2, i3, ?_, i7⟩
        simp only [List.mem_cons, List.not_mem_nil, or_false, not_or]
        exact ⟨i4, i5, i6 hk0, i4⟩
      · unfold uf0
        split
        · intro e; cases e
        · intro _; rfl
    have hfr0 : ∀ i, i < lo → h i = h0 i := fun i hi => (hfr i (by omega)).trans (d3 i hi)
    clear hUV hc hcol hrow d1 d2 d3 hfr hw
    refine W_loopS (fun rr sl h nx => ∃ (r p : Nat) (pv : AV) (ps : List Nat) (cv uv : Nat → AV) (cf uf : Nat → Nat → Bool × Int), (∃ g : Nat → AV, sl = [g 0, g 1, g 2, .ptr N1 0, g 4, g 5, g 6, g 7, g 8, g 9, g 10, g 11, g 12, g 13, g 14, g 15, g 16, g 17, g 18, g 19, g 20, g 21, g 22, g 23, g 24, g 25, g 26, g 27, g 28, g 29, g 30, g 31, g 32, g 33, g 34, g 35, g 36, g 37, g 38, g 39, g 40, g 41, g 42, mraw na A, .int .i64 (A.length : Int), .int .i64 (r : Int), g 46, g 47, g 48, g 49, g 50, g 51, g 52]) ∧ r + rr = A.length ∧ WS h lo nx N1 c U p pv A.length k cv uv cf uf ∧ PV h lo nx N1 c U pv ps p ∧ J r ps cf uf ∧ lo ≤ nx ∧ (∀ i, i < lo → h i = h0 i)) A.length ⟨0, N1, .lst true [], [], _, _, _, _, garb rfl, by omega, hS, .inl ⟨rfl, rfl, rfl⟩, hJ0, by dsimp only; omega, hfr0⟩ ?_
    clear hS hfr0 u5
    rintro rr _ h2 n2 ⟨r, p, pv, ps, cv, uv2, cf, uf, ⟨g2, rfl⟩, hrr, hS, hP, hJ, hlo2, hfr2⟩
    by_cases hrm : r = A.length
    · have z1 : ((r : Int) < (A.length : Int)) = False := eq_false (by omega)
      simp (maxSteps := 4000000) only [go_sem, seval, ↓reduceIte, reduceCtorEq, z1]
      rw [hrm] at hJ
      exact ⟨hfr2, hlo2, N1, c, U, p, pv, ps, cv, uv2, cf, uf, rfl, hS, hP, hJ⟩
    · have z1 : ((r : Int) < (A.length : Int)) = True := eq_true (by omega)
      have w1 : IntKind.i64.wrap ((r + 1 : Nat) : Int) = ((r + 1 : Nat) : Int) := wrap64 (by omega) (by omega)
      obtain ⟨hps, I, μ, hI, f1, f2, f3, f4⟩ := hR r ps cf uf (by omega) hJ
      obtain ⟨h3, n3, e1, e2, e3, p', pv', ps', cv', uv', cf', uf', e4, e5, e6⟩ := row_open lo N1 c U A.length k hAm hn ps r (by omega) hps I (J (r + 1)) μ f1 f2 f3 f4 h2 n2 p pv cv uv2 cf uf hS hP hI
      simp (maxSteps := 4000000) only [go_sem, seval, ↓reduceIte, reduceCtorEq, z1, e1, openK_ret, w1]
      exact ⟨rr - 1, by omega, r + 1, p', pv', ps', cv', uv', cf', uf', garb rfl, by omega, e4, e5, e6, by omega, fun i hi => (e3 i hi).trans (hfr2 i hi)⟩
  · have z1 : ((k : Int) < (n : Int)) = True := eq_true (by omega)
    have z0 : ((0 : Int) ≤ (k : Int)) = True := eq_true (by omega)
    have zn0 : ((0 : Int) ≤ (n : Int)) = True := eq_true (by omega)
    have zn1 : ((n : Int) * 32 ≤ 281474976710656) = True := eq_true (by omega)
    have zn2 : ((n : Int) ≤ 9223372036854775807) = True := eq_true (by omega)
    have w1 : IntKind.i64.wrap ((k + 1 : Nat) : Int) = ((k + 1 : Nat) : Int) := wrap64 (by omega) (by omega)
    have o1 := of_spec 1 (by decide) (by decide)
    have hfl : (fr (rl n fun _ => (true, 0))).length = n * 2 := by rw [fr_len, rl_len]
    have hin : (k * 2 + 2 ≤ n * 2) = True := eq_true (by omega)
    have hset := fr_set (rl n fun _ => (true, 0)) k (rz (false, 1)) (by rw [rl_len]; omega)
    rw [rl_set] at hset
    have hset' : setCells (fr (rl n fun _ => (true, 0))) (k * 2) [.bool (ng 1), .lst false ((dg 1).map wd)] = fr (rl n (uf0 k)) := hset
    rw [setCells_cons, setCells_cons, setCells_nil] at hset'
    have y1 : (N1 = nx) = False := eq_false (by omega)
    have y2 : (nx = N1) = False := eq_false (by omega)
    have y3 : (N1 = nx + 1) = False := eq_false (by omega)
    have y4 : (nx + 1 = N1) = False := eq_false (by omega)
    have y5 : (N1 = nx + 1 + 1) = False := eq_false (by omega)
    have y6 : (nx + 1 + 1 = N1) = False := eq_false (by omega)
    have y7 : (c = nx) = False := eq_false (by omega)
    have s1 : (nx = nx + 1 + 1) = False := eq_false (by omega)
    have s2 : (nx = nx + 1) = False := eq_false (by omega)
    have hpush := fun h' => hUV.push (h' := h') (by omega) (by omega) (by omega)
    have hfin : ∀ (h' : Heap) (sl : List AV), (∃ g : Nat → AV, sl = [mraw na A, g 1, g 2, .ptr N1 0, g 4, g 5, g 6, g 7, g 8, g 9, g 10, g 11, g 12, g 13, g 14, g 15, g 16, .int .i64 (n : Int), .int .i64 ((k + 1 : Nat) : Int), g 19, g 20, g 21, g 22, g 23, g 24, g 25, g 26, g 27, g 28, g 29, g 30, g 31, g 32, g 33, g 34, g 35, g 36, g 37, g 38, g 39, g 40, g 41, g 42, g 43, g 44, g 45, g 46, g 47, g 48, g 49, g 50, g 51, g 52]) → h' N1 = some ⟨[.ref c 0 n, .ref (nx + 1 + 1) 0 (k + 1), .lst true []], true, 3, false⟩ → h' (nx + 1 + 1) = some ⟨(List.range k).map uv ++ [.ref nx 0 n], false, 1, false⟩ → h' nx = some ⟨fr (rl n (uf0 k)), true, 2, false⟩ → (∀ i, i < nx → i ≠ N1 → (k = 0 ∨ i ≠ U) → h' i = h i) →
        ∃ kk', kk' < kk ∧ ∃ (k U : Nat) (v : AV) (uv : Nat → AV), (∃ g : Nat → AV, sl = [mraw na A, g 1, g 2, .ptr N1 0, g 4, g 5, g 6, g 7, g 8, g 9, g 10, g 11, g 12, g 13, g 14, g 15, g 16, .int .i64 (n : Int), .int .i64 (k : Int), g 19, g 20, g 21, g 22, g 23, g 24, g 25, g 26, g 27, g 28, g 29, g 30, g 31, g 32, g 33, g 34, g 35, g 36, g 37, g 38, g 39, g 40, g 41, g 42, g 43, g 44, g 45, g 46, g 47, g 48, g 49, g 50, g 51, g 52]) ∧ k + kk' = n ∧ h' N1 = some ⟨[.ref c 0 n, v, .lst true []], true, 3, false⟩ ∧ UV h' lo (nx + 1 + 1 + 1) N1 c v n k U uv ∧ N1 + 1 ≤ nx + 1 + 1 + 1 ∧ (∀ i, i < N1 → h' i = H1 i) := fun h' sl e0 e1 e2 e3 e4 =>
      ⟨kk - 1, by omega, k + 1, nx + 1 + 1, _, _, e0, by omega, e1, hpush h' e2 e3 e4, by omega, fun i hi => (e4 i (by omega) (by omega) (by
        rcases hUV.1 with ⟨u1, _⟩ | ⟨_, _, _, _, u2, _, _⟩
        · exact .inl u1
        · exact .inr (by omega))).trans (hfr i hi)⟩
    generalize hIQ : (fun (kk : Nat) (σ : St) => ∃ (k U : Nat) (v : AV) (uv : Nat → AV), (∃ g : Nat → AV, σ.sl = [mraw na A, g 1, g 2, .ptr N1 0, g 4, g 5, g 6, g 7, g 8, g 9, g 10, g 11, g 12, g 13, g 14, g 15, g 16, .int .i64 (n : Int), .int .i64 (k : Int), g 19, g 20, g 21, g 22, g 23, g 24, g 25, g 26, g 27, g 28, g 29, g 30, g 31, g 32, g 33, g 34, g 35, g 36, g 37, g 38, g 39, g 40, g 41, g 42, g 43, g 44, g 45, g 46, g 47, g 48, g 49, g 50, g 51, g 52]) ∧ k + kk = n ∧ σ.h N1 = some ⟨[.ref c 0 n, v, .lst true []], true, 3, false⟩ ∧ UV σ.h lo σ.nx N1 c v n k U uv ∧ N1 + 1 ≤ σ.nx ∧ (∀ i, i < N1 → σ.h i = H1 i)) = IQ
    rcases hUV.1 with ⟨hk0, rfl⟩ | ⟨hk0, rfl, u1, u2, u3, u4, u5⟩
    · have hmem : ((2 * 1 + 1000) * 24 ≤ 281474976710656) = True := eq_true (by omega)
      simp (maxSteps := 4000000) only [go_sem, seval, ↓reduceIte, reduceCtorEq, z0, z1, zn0, zn1, zn2, hw, hc, w1, o1, Int.le_refl, Int.toNat_natCast, reps_fr, hfl, hin, hset', y1, y2, y3, y4, y5, y6, y7, reps, places, fillAll, appendEff, srcCells, hmem]
      rw [← hIQ]
      refine hfin _ _ ?_ ?_ ?_ ?_ fun i h1 h2 h3 => ?_
      · rw [hk0]
        refine garb ?_
        rfl
      · rw [hk0]
        simp only [upd_apply, ↓reduceIte, Nat.reduceEqDiff, if_pos]
      · rw [hk0]
        simp only [upd_apply, ↓reduceIte, Nat.reduceEqDiff, if_pos, y5, y6]
        rfl
      · simp only [upd_apply, ↓reduceIte, Nat.reduceEqDiff, if_pos, y1, y2, y3, y4, y5, y6, s1, s2]
      · simp only [upd_apply]
        rw [if_neg (by omega), if_neg (by omega), if_neg (by omega), if_neg (by omega), if_neg (by omega)]
    · have hmem : ((2 * (k + 1) + 1000) * 24 ≤ 281474976710656) = True := eq_true (by omega)
      have v1 : (U = nx) = False := eq_false (by omega)
      have v2 : (nx = U) = False := eq_false (by omega)
      have v3 : (U = nx + 1) = False := eq_false (by omega)
      have v4 : (nx + 1 = U) = False := eq_false (by omega)
      have v5 : (U = N1) = False := eq_false (by omega)
      have v6 : (N1 = U) = False := eq_false (by omega)
      have hml : ((List.range k).map uv).length = k := by simp
      simp (maxSteps := 4000000) only [go_sem, seval, ↓reduceIte, reduceCtorEq, z0, z1, zn0, zn1, zn2, hw, hc, w1, o1, Int.le_refl, Int.toNat_natCast, reps_fr, hfl, hin, hset', y1, y2, y3, y4, y5, y6, y7, v1, v2, v3, v4, v5, v6, u5, hml, reps, places, fillAll, appendEff, srcCells, hmem]
      rw [← hIQ]
      refine hfin _ _ ?_ ?_ ?_ ?_ fun i h1 h2 h3 => ?_
      · refine garb ?_
        rfl
      · simp only [upd_apply, ↓reduceIte, Nat.reduceEqDiff, if_pos]
      · simp only [upd_apply, ↓reduceIte, Nat.reduceEqDiff, if_pos, y5, y6]
      · simp only [upd_apply, ↓reduceIte, Nat.reduceEqDiff, if_pos, y1, y2, y3, y4, y5, y6, s1, s2, v1, v2]
      · simp only [upd_apply]
        rw [if_neg (by omega), if_neg (by omega), if_neg (by omega), if_neg (by omega), if_neg (by omega), if_neg (by omega)]
end Go.Proofs.Ytnpomadbaanpkaa

/- Walks: numbers in new memory. (Own work of this repo.) -/
namespace Go.Proofs.Ytnpomadbaanpkaa
open Vm
set_option maxRecDepth 10000

/-- Pairs of cells, one behind the other. -/
def pr2 : List (AV × AV) → List AV
  | [] => []
  | (a, b) :: l => a :: b :: pr2 l
theorem pr2_len : ∀ l : List (AV × AV), (pr2 l).length = l.length * 2
  | [] => rfl
  | (a, b) :: l => by simp only [pr2, List.length_cons, pr2_len l]; omega
theorem pr2_set : ∀ (l : List (AV × AV)) (i : Nat) (a b : AV), i < l.length → ((pr2 l).set (i * 2) a).set (i * 2 + 1) b = pr2 (l.set i (a, b))
  | [], i, a, b, h => by simp at h
  | (x, y) :: l, 0, a, b, h => rfl
  | (x, y) :: l, i + 1, a, b, h => by
    have ih := pr2_set l i a b (by simpa using h)
    rw [Nat.succ_mul]
    simp only [List.set_cons_succ, pr2, ← ih]
theorem pr2_reps (a b : AV) : ∀ n, reps n [a, b] = pr2 (List.replicate n (a, b))
  | 0 => rfl
  | n + 1 => by rw [reps, List.replicate_succ, pr2, pr2_reps a b n]; rfl
theorem mapL_pr2 {n : Nat} {H : Heap} (L : Nat → Raw) (w : Nat → AV) : ∀ l : List Nat, (∀ j ∈ l, ∃ is, purify (n + 1) H (w j) = some (.lst (L j).2.1 ((L j).2.2.map wd), is)) →
    ∃ ids, mapL (purify (n + 1) H) (pr2 (l.map fun j => (.bool (L j).1, w j))) = some (fr (l.map L), ids)
  | [], _ => ⟨[], rfl⟩
  | j :: l, h => by
    obtain ⟨is, h1⟩ := h j (by simp)
    obtain ⟨ids, h2⟩ := mapL_pr2 L w l fun i hi => h i (by simp [hi])
    exact ⟨[] ++ (is ++ ids), by simp only [List.map_cons, pr2, mapL, h1, h2, purify_bool, fr]⟩
/-- A list of numbers whose words lie in rows of their own, out of the heap. -/
theorem refP_pr2 {n : Nat} {H : Heap} {id k : Nat} {L : Nat → Raw} {w : Nat → AV} {fz : Bool} (h : ∀ j, j < k → ∃ is, purify (n + 1) H (w j) = some (.lst (L j).2.1 ((L j).2.2.map wd), is)) :
    ∃ ids, refP (n + 1) H id 0 k (some ⟨pr2 ((List.range k).map fun j => (.bool (L j).1, w j)), true, 2, fz⟩) = some (.lst false (((List.range k).map L).map ivr), ids) := by
  obtain ⟨ids, h1⟩ := mapL_pr2 (n := n) (H := H) L w (List.range k) fun j hj => h j (List.mem_range.1 hj)
  refine ⟨id :: ids, ?_⟩
  have hl : (pr2 ((List.range k).map fun j => ((AV.bool (L j).1 : AV), w j))).length = k * 2 := by rw [pr2_len]; simp
  unfold refP
  dsimp only
  rw [if_pos ⟨by rw [hl]; omega, by simp, .inl rfl⟩, show ((pr2 ((List.range k).map fun j => ((AV.bool (L j).1 : AV), w j))).drop 0).take (k * 2) = pr2 ((List.range k).map fun j => (.bool (L j).1, w j)) from by rw [List.drop_zero, ← hl, List.take_length], h1]
  dsimp only
  rw [elems_fr _ _ (by simp)]
/-- A number copied. -/
def cpq (q : Raw) : Raw := (q.1, decide (q.2.2.length = 0), q.2.2)
set_option maxHeartbeats 1000000 in
theorem copy_spec (nl : Bool) (L : List Raw) (hl : L.length ≤ 100) (hs : ∀ q ∈ L, q.2.2.length ≤ 1000000) : denP E 66 [lraw nl L] = some (.ret (lraw false (L.map cpq))) := by
  refine denP_eq E66 rfl (by simp [AV.pureL, AV.pure, pure_ivr]) ?_
  have zn0 : ((0 : Int) ≤ (L.length : Int)) = True := eq_true (by omega)
  have zn1 : ((L.length : Int) * 32 ≤ 281474976710656) = True := eq_true (by omega)
  have zn2 : ((L.length : Int) ≤ 9223372036854775807) = True := eq_true (by omega)
  simp (maxSteps := 4000000) only [go_sem, seval, ↓reduceIte, reduceCtorEq, Try.f66, zn0, zn1, zn2, Int.le_refl, Int.toNat_natCast, places, fillAll]
  refine W_loopS (fun kk sl h nx => ∃ (i : Nat) (w : Nat → AV), (∃ g : Nat → AV, sl = [g 0, g 1, g 2, .ref 0 0 L.length, g 4, g 5, g 6, g 7, g 8, lraw nl L, .int .i64 (L.length : Int), .int .i64 (i : Int), g 12, g 13, g 14, g 15, g 16, g 17, g 18, g 19, g 20, g 21, g 22, g 23, g 24, g 25, g 26]) ∧ i + kk = L.length ∧ 1 ≤ nx ∧ h 0 = some ⟨pr2 ((List.range L.length).map fun j => if j < i then (.bool (L.getD j default).1, w j) else (.bool false, .lst true [])), true, 2, false⟩ ∧
      ∀ j, j < i → (w j = .lst true [] ∧ (L.getD j default).2.2 = []) ∨ (0 < (L.getD j default).2.2.length ∧ ∃ id, id ≠ 0 ∧ id < nx ∧ w j = .ref id 0 (L.getD j default).2.2.length ∧ h id = some ⟨(L.getD j default).2.2.map wd, false, 1, false⟩)) L.length ⟨0, fun _ => .nilp, garb rfl, by omega, Nat.le_refl _, ?_, fun j hj => absurd hj (Nat.not_lt_zero j)⟩ ?_
  · simp only [upd_apply, ↓reduceIte, Nat.reduceEqDiff, if_pos]
    rw [pr2_reps]
    congr 3
    rw [List.map_congr_left (g := fun _ => ((AV.bool false : AV), AV.lst true [])) fun j _ => if_neg (Nat.not_lt_zero j), List.map_const', List.length_range]
  rintro kk _ h nx ⟨i, w, ⟨g, rfl⟩, hkk, hnx, h0, hw⟩
  by_cases hi : i = L.length
  · have z1 : ((i : Int) < (L.length : Int)) = False := eq_false (by omega)
    have hcells : ((List.range L.length).map fun j => if j < i then ((AV.bool (L.getD j default).1 : AV), w j) else (.bool false, .lst true [])) = (List.range L.length).map fun j => (.bool (cpq (L.getD j default)).1, w j) := List.map_congr_left fun j hj => by rw [if_pos (by have := List.mem_range.1 hj; omega)]; rfl
    rw [hcells] at h0
    obtain ⟨ids, hp⟩ := refP_pr2 (n := 3) (H := h) (id := 0) (k := L.length) (L := fun j => cpq (L.getD j default)) (w := w) (fz := false) fun j hj => by
      rcases hw j (by omega) with ⟨e1, e2⟩ | ⟨e0, id, e1, e2, e3, e4⟩
      · refine ⟨[], ?_⟩
        rw [e1]
        show _ = some (AV.lst (decide ((L.getD j default).2.2.length = 0)) ((L.getD j default).2.2.map wd), [])
        rw [e2]; rfl
      · refine ⟨[id], ?_⟩
        rw [e3, purify_ref, e4]
        show _ = some (AV.lst (decide ((L.getD j default).2.2.length = 0)) ((L.getD j default).2.2.map wd), [id])
        rw [refP_wd (by omega), decide_eq_false (by omega), List.drop_zero, List.take_length]
    have hL : (List.range L.length).map (fun j => cpq (L.getD j default)) = L.map cpq := by
      refine List.ext_getElem? fun j => ?_
      rw [List.getElem?_map, List.getElem?_map]
      by_cases hj : j < L.length
      · rw [List.getElem?_range hj, Option.map_some, List.getD_eq_getElem?_getD, List.getElem?_eq_getElem hj]; rfl
      · rw [List.getElem?_eq_none (by simpa using hj), List.getElem?_eq_none (by omega)]; rfl
    rw [hL] at hp
    generalize hM : L.map cpq = M at *
    simp (maxSteps := 4000000) only [go_sem, seval, ↓reduceIte, reduceCtorEq, z1, h0, hp]
  · have z1 : ((i : Int) < (L.length : Int)) = True := eq_true (by omega)
    have z0 : ((0 : Int) ≤ (i : Int)) = True := eq_true (by omega)
    have w1 : IntKind.i64.wrap ((i + 1 : Nat) : Int) = ((i + 1 : Nat) : Int) := wrap64 (by omega) (by omega)
    have hg := get_ivr (L := L) (i := i) (by omega)
    have hml : (L.map ivr).length = L.length := List.length_map _
    have hql : (L.getD i default).2.2.length ≤ 1000000 := hs _ (by rw [List.getD_eq_getElem?_getD, List.getElem?_eq_getElem (by omega)]; exact List.getElem_mem _)
    have hpl : (pr2 ((List.range L.length).map fun j => if j < i then ((AV.bool (L.getD j default).1 : AV), w j) else (.bool false, .lst true []))).length = L.length * 2 := by rw [pr2_len]; simp
    have hin : (i * 2 + 2 ≤ L.length * 2) = True := eq_true (by omega)
    have hset := fun v : AV => pr2_set ((List.range L.length).map fun j => if j < i then ((AV.bool (L.getD j default).1 : AV), w j) else (.bool false, .lst true [])) i (.bool (L.getD i default).1) v (by simp; omega)
    have hcl : ∀ v : AV, ((List.range L.length).map fun j => if j < i then ((AV.bool (L.getD j default).1 : AV), w j) else (.bool false, .lst true [])).set i (.bool (L.getD i default).1, v) = (List.range L.length).map fun j => if j < i + 1 then ((AV.bool (L.getD j default).1 : AV), (if j = i then v else w j)) else (.bool false, .lst true []) := fun v => by
      refine List.ext_getElem? fun j => ?_
      rw [List.getElem?_set, List.getElem?_map, List.getElem?_map]
      by_cases hj : j < L.length
      · rw [List.getElem?_range hj]
        by_cases e : i = j
        · subst e
          rw [if_pos rfl, if_pos (by simpa using hj)]
          simp
        · rw [if_neg e]
          by_cases e2 : j < i
          · simp [e2, show j < i + 1 by omega, show ¬ j = i by omega]
          · simp [e2, show ¬ j < i + 1 by omega]
      · rw [if_neg (by omega), List.getElem?_eq_none (by simpa using hj)]; rfl
    have hfin : ∀ (h' : Heap) (n' : Nat) (sl : List AV) (v : AV), (∃ g : Nat → AV, sl = [g 0, g 1, g 2, .ref 0 0 L.length, g 4, g 5, g 6, g 7, g 8, lraw nl L, .int .i64 (L.length : Int), .int .i64 ((i + 1 : Nat) : Int), g 12, g 13, g 14, g 15, g 16, g 17, g 18, g 19, g 20, g 21, g 22, g 23, g 24, g 25, g 26]) → nx ≤ n' → h' 0 = some ⟨((pr2 ((List.range L.length).map fun j => if j < i then ((AV.bool (L.getD j default).1 : AV), w j) else (.bool false, .lst true []))).set (i * 2) (.bool (L.getD i default).1)).set (i * 2 + 1) v, true, 2, false⟩ →
        ((v = .lst true [] ∧ (L.getD i default).2.2 = []) ∨ (0 < (L.getD i default).2.2.length ∧ ∃ id, id ≠ 0 ∧ id < n' ∧ v = .ref id 0 (L.getD i default).2.2.length ∧ h' id = some ⟨(L.getD i default).2.2.map wd, false, 1, false⟩)) → (∀ j, j < nx → j ≠ 0 → h' j = h j) →
        ∃ kk', kk' < kk ∧ ∃ (i : Nat) (w : Nat → AV), (∃ g : Nat → AV, sl = [g 0, g 1, g 2, .ref 0 0 L.length, g 4, g 5, g 6, g 7, g 8, lraw nl L, .int .i64 (L.length : Int), .int .i64 (i : Int), g 12, g 13, g 14, g 15, g 16, g 17, g 18, g 19, g 20, g 21, g 22, g 23, g 24, g 25, g 26]) ∧ i + kk' = L.length ∧ 1 ≤ n' ∧ h' 0 = some ⟨pr2 ((List.range L.length).map fun j => if j < i then (.bool (L.getD j default).1, w j) else (.bool false, .lst true [])), true, 2, false⟩ ∧
          ∀ j, j < i → (w j = .lst true [] ∧ (L.getD j default).2.2 = []) ∨ (0 < (L.getD j default).2.2.length ∧ ∃ id, id ≠ 0 ∧ id < n' ∧ w j = .ref id 0 (L.getD j default).2.2.length ∧ h' id = some ⟨(L.getD j default).2.2.map wd, false, 1, false⟩) := fun h' n' sl v c0 c1 c2 c3 c4 =>
      ⟨kk - 1, by omega, i + 1, fun j => if j = i then v else w j, c0, by omega, by omega, by rw [c2, hset v, hcl v], fun j hj => by
        dsimp only
        by_cases e : j = i
        · rw [if_pos e, e]; exact c3
        · rw [if_neg e]
          rcases hw j (by omega) with h1 | ⟨e0, id, e1, e2, e3, e4⟩
          · exact .inl h1
          · exact .inr ⟨e0, id, e1, by omega, e3, (c4 id e2 e1).trans e4⟩⟩
    generalize hIQ : (fun (kk : Nat) (σ : St) => ∃ (i : Nat) (w : Nat → AV), (∃ g : Nat → AV, σ.sl = [g 0, g 1, g 2, .ref 0 0 L.length, g 4, g 5, g 6, g 7, g 8, lraw nl L, .int .i64 (L.length : Int), .int .i64 (i : Int), g 12, g 13, g 14, g 15, g 16, g 17, g 18, g 19, g 20, g 21, g 22, g 23, g 24, g 25, g 26]) ∧ i + kk = L.length ∧ 1 ≤ σ.nx ∧ σ.h 0 = some ⟨pr2 ((List.range L.length).map fun j => if j < i then (.bool (L.getD j default).1, w j) else (.bool false, .lst true [])), true, 2, false⟩ ∧
          ∀ j, j < i → (w j = .lst true [] ∧ (L.getD j default).2.2 = []) ∨ (0 < (L.getD j default).2.2.length ∧ ∃ id, id ≠ 0 ∧ id < σ.nx ∧ w j = .ref id 0 (L.getD j default).2.2.length ∧ σ.h id = some ⟨(L.getD j default).2.2.map wd, false, 1, false⟩)) = IQ
    clear hset hcl hw hs
    generalize hcs : pr2 ((List.range L.length).map fun j => if j < i then ((AV.bool (L.getD j default).1 : AV), w j) else (.bool false, .lst true [])) = cs at *
    generalize L.getD i default = q at *
    have x0 : (nx = 0) = False := eq_false (by omega)
    have x1 : (0 = nx) = False := eq_false (by omega)
    have x2 : (0 = nx + 1) = False := eq_false (by omega)
    have x3 : (nx + 1 = 0) = False := eq_false (by omega)
    have hqm : (q.2.2.map wd).length = q.2.2.length := List.length_map _
    have hfl := flat_wd q.2.2
    by_cases hq0 : q.2.2.length = 0
    · have hqn : q.2.2 = [] := List.eq_nil_of_length_eq_zero hq0
      obtain ⟨qs, qf, qw⟩ := q
      dsimp only at hqn hg hfin hql hqm hfl
      subst hqn
      simp (maxSteps := 4000000) only [go_sem, seval, ↓reduceIte, reduceCtorEq, z1, z0, hg, hml, places, fillAll]
      refine W_drawn ?_
      simp (maxSteps := 4000000) only [go_sem, seval, ↓reduceIte, reduceCtorEq, z1, z0, h0, hpl, hin, x0, x1, x2, x3, appendEff, srcCells, flat, places, fillAll]
      refine ⟨by refine okR_pairs ?_; (repeat ((with_unfolding_all refine And.intro ?_ ?_); (focus (rw [free_mk] <;> (try simp) <;> (try omega))))); (with_unfolding_all exact True.intro), ?_⟩
      rw [w1, ← hIQ]
      refine hfin _ _ _ (.lst true []) (garb rfl) (by dsimp only; omega) ?_ (.inl ⟨rfl, rfl⟩) fun j j1 j2 => ?_
      · simp only [upd_apply, ↓reduceIte, Nat.reduceEqDiff, if_pos]
      · simp only [upd_apply]
        (repeat rw [if_neg (by omega)])
    · have hq1 : (q.2.2.length = 0) = False := eq_false hq0
      have hmem : ((2 * q.2.2.length + 1000) * 4 ≤ 281474976710656) = True := eq_true (by omega)
      simp (maxSteps := 4000000) only [go_sem, seval, ↓reduceIte, reduceCtorEq, z1, z0, hg, hml, places, fillAll]
      refine W_drawn ?_
      simp (maxSteps := 4000000) only [go_sem, seval, ↓reduceIte, reduceCtorEq, z1, z0, h0, hpl, hin, hq1, hmem, hqm, hfl, x0, x1, x2, x3, appendEff, srcCells, places, fillAll]
      refine ⟨by refine okR_pairs ?_; (repeat ((with_unfolding_all refine And.intro ?_ ?_); (focus (rw [free_mk] <;> (try simp) <;> (try omega))))); (with_unfolding_all exact True.intro), ?_⟩
      rw [w1, ← hIQ]
      refine hfin _ _ _ (.ref (nx + 1) 0 q.2.2.length) (garb rfl) (by dsimp only; omega) ?_ (.inr ⟨by omega, nx + 1, by omega, by dsimp only; omega, rfl, ?_⟩) fun j j1 j2 => ?_
      · simp only [upd_apply, ↓reduceIte, Nat.reduceEqDiff, if_pos]
      · simp only [upd_apply, ↓reduceIte, Nat.reduceEqDiff, if_pos, x3]
      · simp only [upd_apply]
        (repeat rw [if_neg (by omega)])
end Go.Proofs.Ytnpomadbaanpkaa
