/- Part 7 of a proof about this seat: Kt3, Awake5, Fit8, Fit5. (Own work of this repo.) -/
import Derived.Test.YtnpomadbaanpkaaZLinearRows6
set_option linter.unusedVariables false
set_option linter.unusedSimpArgs false
/- Small runs of chapter 5. (Own work of this repo.) -/
namespace Go.Proofs.Ytnpomadbaanpkaa
open Vm
set_option maxRecDepth 1000000
theorem ki24 : denP E 46 [.lst false [.int .i64 2, .int .i64 4]] = some (.ret (.lst false [I false 2, I false 4])) := denP_ker 600 (by kernel_rfl)
theorem ki3 : denP E 46 [.lst false [.int .i64 3]] = some (.ret (.lst false [I false 3])) := denP_ker 600 (by kernel_rfl)
theorem ki1 : denP E 46 [.lst false [.int .i64 1]] = some (.ret (.lst false [I false 1])) := denP_ker 600 (by kernel_rfl)
theorem ki0 : denP E 46 [.lst false [.int .i64 0]] = some (.ret (.lst false [I false 0])) := denP_ker 600 (by kernel_rfl)
theorem ki35 : denP E 46 [.lst false [.int .i64 3, .int .i64 5]] = some (.ret (.lst false [I false 3, I false 5])) := denP_ker 600 (by kernel_rfl)
theorem ki21 : denP E 46 [.lst false [.int .i64 2, .int .i64 (-1)]] = some (.ret (.lst false [I false 2, I false (-1)])) := denP_ker 600 (by kernel_rfl)
theorem kref : denP E 10 [.lst false [.lst false [I false 2, I false 4]], .lst false [I false 3], .lst false [I false 1], I false 2] = some (.ret (.tup [.bool true, .int .i64 0])) := denP_ker 600 (by kernel_rfl)
theorem khol : denP E 9 [.lst false [.lst false [I false 3, I false 5]], .lst false [I false 1], .lst false [I false 2, I false (-1)]] = some (.ret (.tup [.bool true, .int .i64 0])) := denP_ker 600 (by kernel_rfl)
theorem ktim : denP E 24 [.lst false [.lst false [I false 3, I false 5]], .lst false [I false (-5), I false 3]] = some (.ret (.lst false [I true 0])) := denP_ker 600 (by kernel_rfl)
theorem ksam : denP E 26 [.lst false [I true 0], .lst false [I false 0]] = some (.ret (.bool true)) := denP_ker 600 (by kernel_rfl)
end Go.Proofs.Ytnpomadbaanpkaa

/- The examples of chapter 5 hold. (Own work of this repo.) -/
namespace Go.Proofs.Ytnpomadbaanpkaa
open Vm
set_option maxRecDepth 10000

theorem purify_I {n : Nat} {H : Heap} {f : Bool} {z : Int} : purify (n + 2) H (I f z) = some (I f z, []) := by
  simp only [purify_agg, mapL_cons, mapL_nil, purify_bool, purify_wd, List.append_nil]
set_option maxHeartbeats 4000000 in
theorem awake5 : denP E 15 [] = some (.ret (.bool true)) := by
  refine denP_eq E15 rfl rfl ?_
  have k1 := kt1
  have k2 := kt2
  have r1 := ki24
  have r2 := ki3
  have r3 := ki1
  have r4 := ki0
  have r5 := ki35
  have r6 := ki21
  have q1 := kref
  have q2 := khol
  have q3 := ktim
  have q4 := ksam
  have o2 := of_spec 2 (by decide) (by decide)
  have pl1 : ∀ (n : Nat) (H : Heap) (f : Bool) (x : Int), purify (n + 1) H (.lst false [I f x]) = some (.lst false [I f x], []) := fun n H f x => purify_lst (by simp [AV.pureL, AV.pure, pure_wd])
  have pl2 : ∀ (n : Nat) (H : Heap) (f g : Bool) (x y : Int), purify (n + 1) H (.lst false [I f x, I g y]) = some (.lst false [I f x, I g y], []) := fun n H f g x y => purify_lst (by simp [AV.pureL, AV.pure, pure_wd])
  simp (maxSteps := 4000000) only [go_sem, ↓reduceIte, Nat.reduceAdd, Nat.reduceSub, Nat.reduceMul, Nat.reduceEqDiff, reduceCtorEq, Int.reduceAdd, Int.reduceLT, Int.reduceLE, Int.reduceToNat, Int.reduceNeg, Int.reduceSub, ← List.map_take, ← List.map_drop, ne_eq, Nat.reduceLeDiff, Nat.reduceLT, Nat.zero_le, Nat.le_refl, wrap64, wrapu64, wrapu32, ← Int.natCast_add, ← Int.natCast_mul, cast_succ, wrapu32_nat, shr32, reps_wd, map_set_wd, List.length_set, zs_len, Try.f15, reps, places, fillAll, refP, elems, List.headD_cons, r1, r2, r3, r4, r5, r6, pl1, pl2, k1, k2, q1, q2, o2]
  refine W_drawn ?_
  simp (maxSteps := 4000000) only [go_sem, ↓reduceIte, Nat.reduceAdd, Nat.reduceSub, Nat.reduceMul, Nat.reduceEqDiff, reduceCtorEq, Int.reduceAdd, Int.reduceLT, Int.reduceLE, Int.reduceToNat, Int.reduceNeg, Int.reduceSub, ← List.map_take, ← List.map_drop, ne_eq, Nat.reduceLeDiff, Nat.reduceLT, Nat.zero_le, Nat.le_refl, wrap64, wrapu64, wrapu32, ← Int.natCast_add, ← Int.natCast_mul, cast_succ, wrapu32_nat, shr32, reps_wd, map_set_wd, List.length_set, zs_len, reps, places, fillAll, refP, elems, List.headD_cons, r4, r5, pl1, pl2, q3, q4, Int.reduceEq, if_pos]
  rfl
end Go.Proofs.Ytnpomadbaanpkaa

/- Walks: whole numbers of eight bytes as arguments. (Own work of this repo.) -/
namespace Go.Proofs.Ytnpomadbaanpkaa
open Vm
theorem fit_int8 {m : Nat} {cs : List AV} (h : Fit E (m + 1) 3 cs) : ∃ n : Int, -9223372036854775808 ≤ n ∧ n < 9223372036854775808 ∧ cs = [.int .i64 n] := by
  simp only [Fit, T3, FitD] at h
  obtain ⟨_, i, rfl, hi⟩ := h
  have hi' : -9223372036854775808 ≤ i ∧ i < 9223372036854775808 := by simp [Lit.wf, IntKind.max, IntKind.min, IntKind.bits, IntKind.signed] at hi; omega
  exact ⟨i, hi'.1, hi'.2, rfl⟩
end Go.Proofs.Ytnpomadbaanpkaa

/- What lists are, as arguments. (Own work of this repo.) -/
namespace Go.Proofs.Ytnpomadbaanpkaa
open Vm
set_option maxRecDepth 10000

/-- A list out of parts that are each of a kind. -/
theorem list_of {α : Type} {f : α → AV} {P : α → Prop} : ∀ (xs : List AV), (∀ x ∈ xs, ∃ a, x = f a ∧ P a) → ∃ l : List α, xs = l.map f ∧ ∀ a ∈ l, P a
  | [], _ => ⟨[], rfl, by simp⟩
  | x :: xs, h => by
    obtain ⟨a, rfl, ha⟩ := h x (by simp)
    obtain ⟨l, rfl, hl⟩ := list_of xs fun y hy => h y (by simp [hy])
    exact ⟨a :: l, rfl, by simpa using ⟨ha, hl⟩⟩
theorem fit_list {m : Nat} {cs : List AV} {t : Nat} (ht : E.T t = some ⟨1, 24, false, .lst true [], .slice 26⟩) (h : Fit E (m + 4) t cs) : ∃ (nl : Bool) (L : List Raw), cs = [lraw nl L] ∧ Short L ∧ (∀ q ∈ L, InR q.2.2) ∧ (nl = true → L = []) := by
  rw [Fit, ht] at h
  obtain ⟨_, h⟩ := h
  simp only [FitD, opn_eq, T1, T2, T3, T4, T5, T6, T9, T10, T11, T12, T15, T16, T17, T20, T21, T22, T23, T24, T25, T26, T27, T28, T29, T31, T32, T34, T35, T37, T38, T39, T40, T41, T42, T43, T44, T45, T46, T47, T48, T49, T50, T51, T52, T53, T54, T56, T57, T59, T60, T61, T62, T63, T64, T65, T66, T67, T69, T70, T71, T72, T73, T74, T75, T76, T77, T78, T80, T81, T82, T83, T84, T85, T86, T88, T89, T90, T91, T92, T93, T94, T95, T96, T98, T99, T100, T101, T102, T103, T104, T106, T107, T108, T109, T110, T111, T112, T113, T115, T116, T117, T118, T119, T120, T122, T123, T125, T126, T127, T128, T129, T131, T132, T133, T134, T135, T136, T137, T140, T143, T144, T145, T146, T147, T148, T149] at h
  rcases h with rfl | ⟨xs, rfl, hl, hx⟩
  · exact ⟨true, [], rfl, ⟨by decide, by simp⟩, by simp, fun _ => rfl⟩
  · obtain ⟨L, rfl, hL⟩ := list_of (f := ivr) (P := fun q : Raw => InR q.2.2 ∧ q.2.2.length ≤ maxLen) xs fun x hx0 => by
      obtain ⟨cs, rfl, _, hf⟩ := hx x hx0
      obtain ⟨q, rfl, h1, _, h3⟩ := fit_raw (m := m) hf
      exact ⟨q, rfl, h1, h3⟩
    refine ⟨false, L, rfl, ⟨?_, fun q hq => ?_⟩, fun q hq => (hL q hq).1, by simp⟩
    · rw [List.length_map] at hl; unfold maxLen at hl; omega
    · have := (hL q hq).2; unfold maxLen at this; omega
theorem fit_mat {m : Nat} {cs : List AV} {t u : Nat} (hu : E.T u = some ⟨1, 24, false, .lst true [], .slice 26⟩) (ht : E.T t = some ⟨1, 24, false, .lst true [], .slice u⟩) (h : Fit E (m + 5) t cs) : ∃ (nl : Bool) (A : Mat), cs = [mraw nl A] ∧ ShortM A ∧ (∀ r ∈ A, ∀ q ∈ r.2, InR q.2.2) := by
  rw [Fit, ht] at h
  obtain ⟨_, h⟩ := h
  simp only [FitD, hu] at h
  rcases h with rfl | ⟨xs, rfl, hl, hx⟩
  · exact ⟨true, [], rfl, ⟨by decide, by simp⟩, by simp⟩
  · obtain ⟨L, rfl, hL⟩ := list_of (f := lr) (P := fun r : Bool × List Raw => Short r.2 ∧ ∀ q ∈ r.2, InR q.2.2) xs fun x hx0 => by
      obtain ⟨cs, rfl, _, hf⟩ := hx x hx0
      obtain ⟨nl, L, rfl, h1, h2, _⟩ := fit_list (m := m) hu hf
      exact ⟨(nl, L), rfl, h1, h2⟩
    refine ⟨false, L, rfl, ⟨?_, fun r hr => (hL r hr).1⟩, fun r hr => (hL r hr).2⟩
    rw [List.length_map] at hl; unfold maxLen at hl; omega
end Go.Proofs.Ytnpomadbaanpkaa
