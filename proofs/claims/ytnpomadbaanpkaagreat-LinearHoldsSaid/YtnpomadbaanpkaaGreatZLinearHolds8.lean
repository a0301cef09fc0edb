/- Part 8 of a proof about this seat: Rft, Rfs, Wi2, Lho. (Own work of this repo.) -/
import Derived.Test.YtnpomadbaanpkaaGreatZLinearHolds7
set_option linter.unusedVariables false
set_option linter.unusedSimpArgs false
/- Walks: the reference's Turned, Solution, Refutes. (Own work of this repo.) -/
namespace Go.Proofs.YtnpomadbaanpkaaGreat
open Vm
set_option maxRecDepth 10000

theorem mapL_rows {n : Nat} {H : Heap} (v : Nat → AV) (P : Nat → Bool × List Raw) : ∀ l : List Nat, (∀ j ∈ l, ∃ is, purify n H (v j) = some (lr (P j), is)) → ∃ ids, mapL (purify n H) (l.map v) = some (l.map fun j => lr (P j), ids)
  | [], _ => ⟨[], rfl⟩
  | j :: l, h => by
    obtain ⟨is, h1⟩ := h j (by simp)
    obtain ⟨ids, h2⟩ := mapL_rows v P l fun i hi => h i (by simp [hi])
    exact ⟨is ++ ids, by simp only [List.map_cons, mapL, h1, h2]⟩
/-- A list of lists, out of the heap. -/
theorem refP_rows {n : Nat} {H : Heap} {id k : Nat} {v : Nat → AV} {P : Nat → Bool × List Raw} {fz : Bool} (h : ∀ j, j < k → ∃ is, purify n H (v j) = some (lr (P j), is)) :
    ∃ ids, refP n H id 0 k (some ⟨(List.range k).map v, false, 1, fz⟩) = some (.lst false ((List.range k).map fun j => lr (P j)), ids) := by
  obtain ⟨ids, h1⟩ := mapL_rows (n := n) (H := H) v P (List.range k) fun j hj => h j (List.mem_range.1 hj)
  refine ⟨id :: ids, ?_⟩
  unfold refP
  dsimp only
  rw [if_pos ⟨by simp, by simp, .inr rfl⟩, show (((List.range k).map v).drop 0).take (k * 1) = (List.range k).map v from by rw [List.drop_zero]; exact List.take_of_length_le (by simp), h1]
  dsimp only
  rw [elems_one _ _ (by simp)]
theorem colL_succ (A : Mat) (i k : Nat) : colL A (i + 1) 0 k = colL A i 0 k ++ [(A.getD i default).2.getD k default] := by
  unfold colL
  rw [if_neg (Nat.not_lt_zero k), if_neg (Nat.not_lt_zero k), List.range_succ, List.map_append]
  rfl
theorem colL_zero (A : Mat) (k : Nat) : colL A 0 0 k = [] := by unfold colL; rw [if_neg (Nat.not_lt_zero k)]; rfl
/-- A matrix turned. -/
def TurnM (A : Mat) (w : Nat) : Mat := (List.range w).map fun k => (false, colR A k)
theorem TurnM_len (A : Mat) (w : Nat) : (TurnM A w).length = w := by unfold TurnM; simp
theorem TurnM_get {A : Mat} {w k : Nat} (h : k < w) : (TurnM A w).getD k default = (false, colR A k) := by
  unfold TurnM
  rw [List.getD_eq_getElem?_getD, List.getElem?_map, List.getElem?_range h]; rfl
set_option maxHeartbeats 2000000 in
theorem rTurned_spec (na : Bool) (A : Mat) (w : Nat) (hA : MatV A w) (h1 : 1 ≤ A.length) (hAm : A.length ≤ 100) (hw1 : 1 ≤ w) (hw : w ≤ 100) :
    denP E 17 [mraw na A, .int .i64 (w : Int)] = some (.ret (mraw false (TurnM A w))) := by
  refine denP_eq E17 rfl (by simp [AV.pureL, AV.pure, pure_lr]) ?_
  simp (maxSteps := 4000000) only [go_sem, ↓reduceIte, Nat.reduceAdd, Nat.reduceSub, Nat.reduceMul, Nat.reduceEqDiff, reduceCtorEq, Int.reduceAdd, Int.reduceLT, Int.reduceLE, Int.reduceToNat, Int.reduceNeg, Int.reduceSub, ← List.map_take, ← List.map_drop, ne_eq, Nat.reduceLeDiff, Nat.reduceLT, Nat.zero_le, Nat.le_refl, wrap64, wrapu64, wrapu32, ← Int.natCast_add, ← Int.natCast_mul, cast_succ, wrapu32_nat, shr32, reps_wd, map_set_wd, List.length_set, zs_len, Tryz.f17, places, fillAll]
  refine W_loopS (fun kk sl h nx => ∃ (k id : Nat) (ids : Nat → Nat), (∃ g : Nat → AV, sl = [mraw na A, .int .i64 (w : Int), g 2, g 3, g 4, (if k = 0 then .lst true [] else .ref id 0 k), .int .i64 (k : Int), g 7, g 8, g 9, g 10, g 11, g 12, g 13, g 14, g 15, g 16, g 17, g 18, g 19, g 20, g 21, g 22, g 23, g 24, g 25, g 26, g 27, g 28, g 29, g 30, g 31, g 32, g 33, g 34]) ∧ k + kk = w ∧ (k ≠ 0 → id < nx ∧ h id = some ⟨(List.range k).map fun j => .ref (ids j) 0 A.length, false, 1, false⟩) ∧ ∀ j, j < k → ids j < nx ∧ ids j ≠ id ∧ h (ids j) = some ⟨fr (colR A j), true, 2, false⟩) w ⟨0, 0, fun _ => 0, garb rfl, by omega, fun e => absurd rfl e, fun j hj => absurd hj (Nat.not_lt_zero j)⟩ ?_
  rintro kk _ h nx ⟨k, id, ids, ⟨g, rfl⟩, hkk, hid, hids⟩
  by_cases hk : k = w
  · have z1 : ((k : Int) < (w : Int)) = False := eq_false (by omega)
    have hk0 : k ≠ 0 := by omega
    obtain ⟨d1, d2⟩ := hid hk0
    obtain ⟨is, hp⟩ := refP_rows (n := 4) (H := h) (id := id) (k := k) (v := fun j => .ref (ids j) 0 A.length) (P := fun j => (false, colR A j)) (fz := false) fun j hj => by
      refine ⟨[ids j], ?_⟩
      rw [show (4 : Nat) = 3 + 1 from rfl, purify_ref, (hids j hj).2.2]
      exact refP_fr (colR_len A j)
    have hT : (List.range k).map (fun j => lr (false, colR A j)) = (TurnM A w).map lr := by rw [hk]; unfold TurnM; rw [List.map_map]; rfl
    rw [hT] at hp
    rw [if_neg hk0]
    generalize hTT : (TurnM A w).map lr = T at *
    simp (maxSteps := 4000000) only [go_sem, ↓reduceIte, Nat.reduceAdd, Nat.reduceSub, Nat.reduceMul, Nat.reduceEqDiff, reduceCtorEq, Int.reduceAdd, Int.reduceLT, Int.reduceLE, Int.reduceToNat, Int.reduceNeg, Int.reduceSub, ← List.map_take, ← List.map_drop, ne_eq, Nat.reduceLeDiff, Nat.reduceLT, Nat.zero_le, Nat.le_refl, wrap64, wrapu64, wrapu32, ← Int.natCast_add, ← Int.natCast_mul, cast_succ, wrapu32_nat, shr32, reps_wd, map_set_wd, List.length_set, zs_len, z1, d2, hp]
    rw [← hTT]
  · have z1 : ((k : Int) < (w : Int)) = True := eq_true (by omega)
    have z0k : ((0 : Int) ≤ (k : Int)) = True := eq_true (by omega)
    have w1 : IntKind.i64.wrap ((k + 1 : Nat) : Int) = ((k + 1 : Nat) : Int) := wrap64 (by omega) (by omega)
    have hml : (A.map lr).length = A.length := List.length_map _
    have hfin : ∀ (h' : Heap) (n' : Nat) (sl : List AV) (id' idl : Nat), (∃ g : Nat → AV, sl = [mraw na A, .int .i64 (w : Int), g 2, g 3, g 4, .ref id' 0 (k + 1), .int .i64 ((k + 1 : Nat) : Int), g 7, g 8, g 9, g 10, g 11, g 12, g 13, g 14, g 15, g 16, g 17, g 18, g 19, g 20, g 21, g 22, g 23, g 24, g 25, g 26, g 27, g 28, g 29, g 30, g 31, g 32, g 33, g 34]) → idl < n' → h' id' = some ⟨((List.range k).map fun j => .ref (ids j) 0 A.length) ++ [.ref idl 0 A.length], false, 1, false⟩ → h' idl = some ⟨fr (colR A k), true, 2, false⟩ → nx ≤ id' → id' < n' → idl ≠ id' → (∀ i, i < nx → i ≠ id → h' i = h i) →
        ∃ kk', kk' < kk ∧ ∃ (k id : Nat) (ids : Nat → Nat), (∃ g : Nat → AV, sl = [mraw na A, .int .i64 (w : Int), g 2, g 3, g 4, (if k = 0 then .lst true [] else .ref id 0 k), .int .i64 (k : Int), g 7, g 8, g 9, g 10, g 11, g 12, g 13, g 14, g 15, g 16, g 17, g 18, g 19, g 20, g 21, g 22, g 23, g 24, g 25, g 26, g 27, g 28, g 29, g 30, g 31, g 32, g 33, g 34]) ∧ k + kk' = w ∧ (k ≠ 0 → id < n' ∧ h' id = some ⟨(List.range k).map fun j => .ref (ids j) 0 A.length, false, 1, false⟩) ∧ ∀ j, j < k → ids j < n' ∧ ids j ≠ id ∧ h' (ids j) = some ⟨fr (colR A j), true, 2, false⟩ := fun h' n' sl id' idl c0 c2 c3 c4 c5 c1 c7 c6 =>
      ⟨kk - 1, by omega, k + 1, id', fun j => if j = k then idl else ids j, by rw [if_neg (Nat.succ_ne_zero k)]; exact c0, by omega, fun _ => ⟨c1, by
        have e1 : (List.range k).map (fun j => AV.ref (if j = k then idl else ids j) 0 A.length) = (List.range k).map fun j => AV.ref (ids j) 0 A.length := List.map_congr_left fun j hj => by rw [if_neg (Nat.ne_of_lt (List.mem_range.1 hj))]
        rw [c3, List.range_succ, List.map_append, e1]
        simp⟩, fun j hj => by
        by_cases e : j = k
        · simp only [e, if_true]; exact ⟨c2, c7, c4⟩
        · simp only [e, if_false]
          obtain ⟨a1, a3, a2⟩ := hids j (by omega)
          exact ⟨by omega, by omega, (c6 _ a1 a3).trans a2⟩⟩
    generalize hIQ : (fun (kk : Nat) (σ : St) => ∃ (k id : Nat) (ids : Nat → Nat), (∃ g : Nat → AV, σ.sl = [mraw na A, .int .i64 (w : Int), g 2, g 3, g 4, (if k = 0 then .lst true [] else .ref id 0 k), .int .i64 (k : Int), g 7, g 8, g 9, g 10, g 11, g 12, g 13, g 14, g 15, g 16, g 17, g 18, g 19, g 20, g 21, g 22, g 23, g 24, g 25, g 26, g 27, g 28, g 29, g 30, g 31, g 32, g 33, g 34]) ∧ k + kk = w ∧ (k ≠ 0 → id < σ.nx ∧ σ.h id = some ⟨(List.range k).map fun j => .ref (ids j) 0 A.length, false, 1, false⟩) ∧ ∀ j, j < k → ids j < σ.nx ∧ ids j ≠ id ∧ σ.h (ids j) = some ⟨fr (colR A j), true, 2, false⟩) = IQ
    simp (maxSteps := 4000000) only [go_sem, ↓reduceIte, Nat.reduceAdd, Nat.reduceSub, Nat.reduceMul, Nat.reduceEqDiff, reduceCtorEq, Int.reduceAdd, Int.reduceLT, Int.reduceLE, Int.reduceToNat, Int.reduceNeg, Int.reduceSub, ← List.map_take, ← List.map_drop, ne_eq, Nat.reduceLeDiff, Nat.reduceLT, Nat.zero_le, Nat.le_refl, wrap64, wrapu64, wrapu32, ← Int.natCast_add, ← Int.natCast_mul, cast_succ, wrapu32_nat, shr32, reps_wd, map_set_wd, List.length_set, zs_len, z1]
    refine W_loopS (fun ii sl h' nx' => ∃ (i : Nat) (v : AV), (∃ g : Nat → AV, sl = [mraw na A, .int .i64 (w : Int), g 2, g 3, g 4, (if k = 0 then .lst true [] else .ref id 0 k), .int .i64 (k : Int), v, .int .i64 (i : Int), g 9, g 10, g 11, g 12, g 13, g 14, g 15, g 16, g 17, g 18, g 19, g 20, g 21, g 22, g 23, g 24, g 25, g 26, g 27, g 28, g 29, g 30, g 31, g 32, g 33, g 34]) ∧ i + ii = A.length ∧ GrowQ h' nx' v (colL A i 0 k) ∧ nx ≤ nx' ∧ (∀ i, i < nx → h' i = h i) ∧ ∀ a b, v = .ref a 0 b → nx ≤ a) A.length ⟨0, .lst true [], garb rfl, by omega, .inl ⟨colL_zero A k, rfl⟩, Nat.le_refl _, fun i hi => rfl, fun a b e => by cases e⟩ ?_
    rintro ii _ h' nx' ⟨i, v, ⟨g2, rfl⟩, hii, hG, hnx, hfr, hlo⟩
    have hlen := colL_len A i 0 k
    rw [if_neg (Nat.not_lt_zero k)] at hlen
    by_cases hi : i = A.length
    · have z2 : ((i : Int) < (A.length : Int)) = False := eq_false (by omega)
      rcases hG with ⟨g1, _⟩ | ⟨h0, idl, hidl, rfl, hH⟩
      · rw [g1] at hlen; simp at hlen; omega
      · rw [hlen]
        rw [hi] at hH
        have hcR : colL A A.length 0 k = colR A k := rfl
        rw [hcR] at hH
        have hmem1 : ((2 * 1 + 1000) * 24 ≤ 281474976710656) = True := eq_true (by omega)
        have hmem2 : ((2 * (k + 1) + 1000) * 24 ≤ 281474976710656) = True := eq_true (by omega)
        have ai : (i : Nat) = A.length := hi
        by_cases hk0 : k = 0
        · rw [if_pos hk0]
          have x1 : (idl = nx') = False := eq_false (by omega)
          have x2 : (idl = nx' + 1) = False := eq_false (by omega)
          simp (maxSteps := 4000000) only [go_sem, ↓reduceIte, Nat.reduceAdd, Nat.reduceSub, Nat.reduceMul, Nat.reduceEqDiff, reduceCtorEq, Int.reduceAdd, Int.reduceLT, Int.reduceLE, Int.reduceToNat, Int.reduceNeg, Int.reduceSub, ← List.map_take, ← List.map_drop, ne_eq, Nat.reduceLeDiff, Nat.reduceLT, Nat.zero_le, Nat.le_refl, wrap64, wrapu64, wrapu32, ← Int.natCast_add, ← Int.natCast_mul, cast_succ, wrapu32_nat, shr32, reps_wd, map_set_wd, List.length_set, zs_len, z2, appendEff, srcCells, reps, places, fillAll, flat, hmem1]
          rw [w1, ← hIQ]
          subst hk0
          refine hfin _ _ _ (nx' + 1) idl ?_ (by dsimp only; omega) ?_ ?_ (by omega) (by dsimp only; omega) (by omega) fun j hj _ => ?_
          · exact garb rfl
          · simp only [upd_apply, ↓reduceIte, Nat.reduceEqDiff, if_pos]; rw [hi]; rfl
          · simp only [upd_apply, ↓reduceIte, Nat.reduceEqDiff, x1, x2]; exact hH
          · exact (upd_ne (by omega)).trans ((upd_ne (by omega)).trans (hfr j hj))
        · obtain ⟨d1, d2⟩ := hid hk0
          have d3 := (hfr id d1).trans d2
          have x1 : (idl = nx') = False := eq_false (by omega)
          have x2 : (idl = nx' + 1) = False := eq_false (by omega)
          have x3 : (id = nx') = False := eq_false (by omega)
          have x4 : (nx' = id) = False := eq_false (by omega)
          have x5 : (id = nx' + 1) = False := eq_false (by omega)
          have x6 : (nx' + 1 = id) = False := eq_false (by omega)
          have x7 : (idl = id) = False := eq_false fun e => by rw [e, d3] at hH; simp at hH
          have hll : ((List.range k).map fun j => AV.ref (ids j) 0 A.length).length = k := by simp
          rw [if_neg hk0]
          generalize hcs : ((List.range k).map fun j => AV.ref (ids j) 0 A.length) = cs at *
          simp (maxSteps := 4000000) only [go_sem, ↓reduceIte, Nat.reduceAdd, Nat.reduceSub, Nat.reduceMul, Nat.reduceEqDiff, reduceCtorEq, Int.reduceAdd, Int.reduceLT, Int.reduceLE, Int.reduceToNat, Int.reduceNeg, Int.reduceSub, ← List.map_take, ← List.map_drop, ne_eq, Nat.reduceLeDiff, Nat.reduceLT, Nat.zero_le, Nat.le_refl, wrap64, wrapu64, wrapu32, ← Int.natCast_add, ← Int.natCast_mul, cast_succ, wrapu32_nat, shr32, reps_wd, map_set_wd, List.length_set, zs_len, z2, d3, hll, x3, x4, x5, x6, appendEff, srcCells, reps, places, fillAll, flat, hmem2]
          rw [w1, ← hIQ]
          refine hfin _ _ _ (nx' + 1) idl ?_ (by dsimp only; omega) ?_ ?_ (by omega) (by dsimp only; omega) (by omega) fun j hj hj2 => ?_
          · exact garb rfl
          · simp only [upd_apply, ↓reduceIte, Nat.reduceEqDiff, if_pos]; rw [hi]
          · simp only [upd_apply, ↓reduceIte, Nat.reduceEqDiff, x1, x2, x7]; exact hH
          · simp only [upd_apply]
            (repeat rw [if_neg (by omega)])
            exact hfr j hj
    · have z2 : ((i : Int) < (A.length : Int)) = True := eq_true (by omega)
      have z0i : ((0 : Int) ≤ (i : Int)) = True := eq_true (by omega)
      have hgr := get_lr (A := A) (i := i) (by omega)
      have hrl := (hA i (by omega)).2
      have hge := get_ivr (L := (A.getD i default).2) (i := k) (by omega)
      have hlr : ((A.getD i default).2.length : Int) = (w : Int) := by rw [hrl]
      have hmr : ((A.getD i default).2.map ivr).length = w := by rw [List.length_map, hrl]
      have w2 : IntKind.i64.wrap ((i + 1 : Nat) : Int) = ((i + 1 : Nat) : Int) := wrap64 (by omega) (by omega)
      have hs := colL_succ A i k
      have hfin2 : ∀ (H : Heap) (N : Nat) (sl : List AV) (v' : AV), (∃ g : Nat → AV, sl = [mraw na A, .int .i64 (w : Int), g 2, g 3, g 4, (if k = 0 then .lst true [] else .ref id 0 k), .int .i64 (k : Int), v', .int .i64 ((i + 1 : Nat) : Int), g 9, g 10, g 11, g 12, g 13, g 14, g 15, g 16, g 17, g 18, g 19, g 20, g 21, g 22, g 23, g 24, g 25, g 26, g 27, g 28, g 29, g 30, g 31, g 32, g 33, g 34]) → GrowQ H N v' (colL A i 0 k ++ [(A.getD i default).2.getD k default]) → nx' ≤ N → (∀ i, i < nx → H i = h' i) → (∀ a b, v' = .ref a 0 b → nx ≤ a) →
          ∃ ii', ii' < ii ∧ ∃ (i : Nat) (v : AV), (∃ g : Nat → AV, sl = [mraw na A, .int .i64 (w : Int), g 2, g 3, g 4, (if k = 0 then .lst true [] else .ref id 0 k), .int .i64 (k : Int), v, .int .i64 (i : Int), g 9, g 10, g 11, g 12, g 13, g 14, g 15, g 16, g 17, g 18, g 19, g 20, g 21, g 22, g 23, g 24, g 25, g 26, g 27, g 28, g 29, g 30, g 31, g 32, g 33, g 34]) ∧ i + ii' = A.length ∧ GrowQ H N v (colL A i 0 k) ∧ nx ≤ N ∧ (∀ i, i < nx → H i = h i) ∧ ∀ a b, v = .ref a 0 b → nx ≤ a := fun H N sl v' c0 c1 c2 c3 c4 => ⟨ii - 1, by omega, i + 1, v', c0, by omega, by rw [hs]; exact c1, by omega, fun j hj => (c3 j hj).trans (hfr j hj), c4⟩
      generalize hIQ2 : (fun (ii : Nat) (σ : St) => ∃ (i : Nat) (v : AV), (∃ g : Nat → AV, σ.sl = [mraw na A, .int .i64 (w : Int), g 2, g 3, g 4, (if k = 0 then .lst true [] else .ref id 0 k), .int .i64 (k : Int), v, .int .i64 (i : Int), g 9, g 10, g 11, g 12, g 13, g 14, g 15, g 16, g 17, g 18, g 19, g 20, g 21, g 22, g 23, g 24, g 25, g 26, g 27, g 28, g 29, g 30, g 31, g 32, g 33, g 34]) ∧ i + ii = A.length ∧ GrowQ σ.h σ.nx v (colL A i 0 k) ∧ nx ≤ σ.nx ∧ (∀ i, i < nx → σ.h i = h i) ∧ ∀ a b, v = .ref a 0 b → nx ≤ a) = IQ2
      clear hs hfin hIQ hids hid
      generalize (A.getD i default).2.getD k default = q at *
      generalize colL A i 0 k = M at *
      generalize (if k = 0 then AV.lst true [] else .ref id 0 k) = ov at *
      have hmem : ((2 * (i + 1) + 1000) * 32 ≤ 281474976710656) = True := eq_true (by omega)
      have hmem1 : ((2 * 1 + 1000) * 32 ≤ 281474976710656) = True := eq_true (by omega)
      rcases hG with ⟨rfl, rfl⟩ | ⟨h0, idl, hidl, rfl, hH⟩
      · simp (maxSteps := 4000000) only [go_sem, ↓reduceIte, Nat.reduceAdd, Nat.reduceSub, Nat.reduceMul, Nat.reduceEqDiff, reduceCtorEq, Int.reduceAdd, Int.reduceLT, Int.reduceLE, Int.reduceToNat, Int.reduceNeg, Int.reduceSub, ← List.map_take, ← List.map_drop, ne_eq, Nat.reduceLeDiff, Nat.reduceLT, Nat.zero_le, Nat.le_refl, wrap64, wrapu64, wrapu32, ← Int.natCast_add, ← Int.natCast_mul, cast_succ, wrapu32_nat, shr32, reps_wd, map_set_wd, List.length_set, zs_len, z2, z0i, z0k, z1, hgr, hge, hlr, hml, hmr, appendEff, srcCells, reps, places, fillAll, flat, hmem1]
        rw [w2, ← hIQ2]
        refine hfin2 _ _ _ _ (garb rfl) (.inr ⟨by simp, nx' + 1, by dsimp only; omega, rfl, ?_⟩) (by dsimp only; omega) (fun j hj => (upd_ne (by omega)).trans (upd_ne (by omega))) (fun a b e => by injection e with e1; omega)
        simp only [upd_apply, ↓reduceIte, Nat.reduceEqDiff, if_pos]
        rfl
      · have x1 : (idl = nx') = False := eq_false (by omega)
        have x2 : (nx' = idl) = False := eq_false (by omega)
        have x3 : (idl = nx' + 1) = False := eq_false (by omega)
        have x4 : (nx' + 1 = idl) = False := eq_false (by omega)
        have hfl := fr_len M
        rw [hlen] at hfl
        simp (maxSteps := 4000000) only [go_sem, ↓reduceIte, Nat.reduceAdd, Nat.reduceSub, Nat.reduceMul, Nat.reduceEqDiff, reduceCtorEq, Int.reduceAdd, Int.reduceLT, Int.reduceLE, Int.reduceToNat, Int.reduceNeg, Int.reduceSub, ← List.map_take, ← List.map_drop, ne_eq, Nat.reduceLeDiff, Nat.reduceLT, Nat.zero_le, Nat.le_refl, wrap64, wrapu64, wrapu32, ← Int.natCast_add, ← Int.natCast_mul, cast_succ, wrapu32_nat, shr32, reps_wd, map_set_wd, List.length_set, zs_len, z2, z0i, z0k, z1, hgr, hge, hlr, hml, hmr, hH, hlen, hfl, x1, x2, x3, x4, appendEff, srcCells, reps, places, fillAll, flat, hmem]
        rw [w2, ← hIQ2]
        refine hfin2 _ _ _ _ (garb rfl) (.inr ⟨by simp, nx' + 1, by dsimp only; omega, by rw [List.length_append, hlen]; rfl, ?_⟩) (by dsimp only; omega) (fun j hj => by have := hlo _ _ rfl; simp only [upd_apply]; (repeat rw [if_neg (by omega)])) (fun a b e => by injection e with e1; omega)
        rw [fr_app]
        simp only [upd_apply, ↓reduceIte, Nat.reduceEqDiff, if_pos]
        rfl
end Go.Proofs.YtnpomadbaanpkaaGreat

/- Walks: the reference's Solution and Refutes. (Own work of this repo.) -/
namespace Go.Proofs.YtnpomadbaanpkaaGreat
open Vm
set_option maxRecDepth 10000

theorem rDivs (mx : Bool) (x : Int) (my : Bool) (y : Int) (hx : (dg x).length < 2 ^ 30) (hy : (dg y).length < 2 ^ 30) : denP E 44 [I mx x, I my y] = some (.ret (.bool (decide (y % x = 0)))) := by
  refine denP_eq E44 rfl (by simp [AV.pureL, AV.pure, pure_wd]) ?_
  have z1 := rZero_spec mx x
  by_cases h0 : x = 0
  · subst h0
    have z2 := rZero_spec my y
    rw [decide_eq_true rfl] at z1
    rw [Int.emod_zero]
    simp (maxSteps := 4000000) only [go_sem, ↓reduceIte, Nat.reduceAdd, Nat.reduceSub, Nat.reduceMul, Nat.reduceEqDiff, reduceCtorEq, Int.reduceAdd, Int.reduceLT, Int.reduceLE, Int.reduceToNat, Int.reduceNeg, Int.reduceSub, ← List.map_take, ← List.map_drop, ne_eq, Nat.reduceLeDiff, Nat.reduceLT, Nat.zero_le, Nat.le_refl, wrap64, wrapu64, wrapu32, ← Int.natCast_add, ← Int.natCast_mul, cast_succ, wrapu32_nat, shr32, reps_wd, map_set_wd, List.length_set, zs_len, Tryz.f44, z1, z2, places, fillAll]
  · rw [decide_eq_false h0] at z1
    obtain ⟨m, d1, _, _⟩ := rDiv_spec my y mx x hy hx h0
    have z2 := rZero_spec m.2 (y % x)
    generalize y % x = r at *
    generalize y / x = q at *
    generalize decide (r = 0) = d at *
    simp (maxSteps := 4000000) only [go_sem, ↓reduceIte, Nat.reduceAdd, Nat.reduceSub, Nat.reduceMul, Nat.reduceEqDiff, reduceCtorEq, Int.reduceAdd, Int.reduceLT, Int.reduceLE, Int.reduceToNat, Int.reduceNeg, Int.reduceSub, ← List.map_take, ← List.map_drop, ne_eq, Nat.reduceLeDiff, Nat.reduceLT, Nat.zero_le, Nat.le_refl, wrap64, wrapu64, wrapu32, ← Int.natCast_add, ← Int.natCast_mul, cast_succ, wrapu32_nat, shr32, reps_wd, map_set_wd, List.length_set, zs_len, Tryz.f44, z1, d1, z2, places, fillAll]
theorem rSameAll_spec (na : Bool) (L : List Raw) (nb : Bool) (M : List Raw) (hL : NumL L) (hM : NumL M) (hl : L.length = M.length) (hl2 : L.length ≤ 1000) :
    ∃ s : Bool, denP E 25 [lraw na L, lraw nb M] = some (.ret (.bool s)) ∧ (s = true ↔ ∀ i, i < L.length → zg L i = zg M i) := by
  refine denP_ex (F := fun s : Bool => .bool s) E25 rfl (by simp [AV.pureL, AV.pure, pure_ivr]) ?_
  have z0 : ((L.length : Int) = (M.length : Int)) = True := eq_true (by omega)
  simp (maxSteps := 4000000) only [go_sem, ↓reduceIte, Nat.reduceAdd, Nat.reduceSub, Nat.reduceMul, Nat.reduceEqDiff, reduceCtorEq, Int.reduceAdd, Int.reduceLT, Int.reduceLE, Int.reduceToNat, Int.reduceNeg, Int.reduceSub, ← List.map_take, ← List.map_drop, ne_eq, Nat.reduceLeDiff, Nat.reduceLT, Nat.zero_le, Nat.le_refl, wrap64, wrapu64, wrapu32, ← Int.natCast_add, ← Int.natCast_mul, cast_succ, wrapu32_nat, shr32, reps_wd, map_set_wd, List.length_set, zs_len, Tryz.f25, z0, places, fillAll]
  refine W_loopS (fun k sl h nx => ∃ (i : Nat), (∃ g : Nat → AV, sl = [lraw na L, lraw nb M, g 2, g 3, g 4, .int .i64 (i : Int), g 6, g 7, g 8, g 9, g 10, g 11, g 12, g 13, g 14, g 15, g 16, g 17, g 18, g 19, g 20, g 21, g 22, g 23, g 24, g 25, g 26]) ∧ i + k = L.length ∧ ∀ j, j < i → zg L j = zg M j) L.length ⟨0, garb rfl, by omega, fun j hj => absurd hj (Nat.not_lt_zero j)⟩ ?_
  rintro k _ h nx ⟨i, ⟨g, rfl⟩, hk, hall⟩
  by_cases hi : i = L.length
  · have z1 : ((i : Int) < (L.length : Int)) = False := eq_false (by omega)
    simp (maxSteps := 4000000) only [go_sem, ↓reduceIte, Nat.reduceAdd, Nat.reduceSub, Nat.reduceMul, Nat.reduceEqDiff, reduceCtorEq, Int.reduceAdd, Int.reduceLT, Int.reduceLE, Int.reduceToNat, Int.reduceNeg, Int.reduceSub, ← List.map_take, ← List.map_drop, ne_eq, Nat.reduceLeDiff, Nat.reduceLT, Nat.zero_le, Nat.le_refl, wrap64, wrapu64, wrapu32, ← Int.natCast_add, ← Int.natCast_mul, cast_succ, wrapu32_nat, shr32, reps_wd, map_set_wd, List.length_set, zs_len, z1]
    exact ⟨true, rfl, by simp; rw [← hi]; exact hall⟩
  · have z1 : ((i : Int) < (L.length : Int)) = True := eq_true (by omega)
    have zi : ((0 : Int) ≤ (i : Int)) = True := eq_true (by omega)
    have zb : ((i : Int) < (M.length : Int)) = True := eq_true (by omega)
    have w1 : IntKind.i64.wrap ((i + 1 : Nat) : Int) = ((i + 1 : Nat) : Int) := wrap64 (by omega) (by omega)
    have hga := get_ivr (L := L) (i := i) (by omega)
    have hgb := get_ivr (L := M) (i := i) (by omega)
    obtain ⟨a1, a2⟩ := hL.get (show i < L.length by omega)
    obtain ⟨b1, b2⟩ := hM.get (show i < M.length by omega)
    rw [← a1.2.1, ← a1.2.2] at hga
    rw [← b1.2.1, ← b1.2.2] at hgb
    have ea : zv (L.getD i default) = zg L i := rfl
    have eb : zv (M.getD i default) = zg M i := rfl
    rw [ea] at hga
    rw [eb] at hgb
    have hml : (L.map ivr).length = L.length := List.length_map _
    have hmlb : (M.map ivr).length = M.length := List.length_map _
    have s1 := rSame_spec (L.getD i default).2.1 (zg L i) (M.getD i default).2.1 (zg M i) (Nat.lt_of_le_of_lt (hL.len (by omega)) (by decide)) (Nat.lt_of_le_of_lt (hM.len (by omega)) (by decide))
    by_cases he : zg L i = zg M i
    · rw [decide_eq_true he] at s1
      have hall' : ∀ j, j < i + 1 → zg L j = zg M j := fun j hj => by
        by_cases e : j = i
        · rw [e]; exact he
        · exact hall j (by omega)
      clear he a1 a2 b1 b2 ea eb
      simp (maxSteps := 4000000) only [go_sem, ↓reduceIte, Nat.reduceAdd, Nat.reduceSub, Nat.reduceMul, Nat.reduceEqDiff, reduceCtorEq, Int.reduceAdd, Int.reduceLT, Int.reduceLE, Int.reduceToNat, Int.reduceNeg, Int.reduceSub, ← List.map_take, ← List.map_drop, ne_eq, Nat.reduceLeDiff, Nat.reduceLT, Nat.zero_le, Nat.le_refl, wrap64, wrapu64, wrapu32, ← Int.natCast_add, ← Int.natCast_mul, cast_succ, wrapu32_nat, shr32, reps_wd, map_set_wd, List.length_set, zs_len, z1]
      refine W_drawn ?_
      simp (maxSteps := 4000000) only [go_sem, ↓reduceIte, Nat.reduceAdd, Nat.reduceSub, Nat.reduceMul, Nat.reduceEqDiff, reduceCtorEq, Int.reduceAdd, Int.reduceLT, Int.reduceLE, Int.reduceToNat, Int.reduceNeg, Int.reduceSub, ← List.map_take, ← List.map_drop, ne_eq, Nat.reduceLeDiff, Nat.reduceLT, Nat.zero_le, Nat.le_refl, wrap64, wrapu64, wrapu32, ← Int.natCast_add, ← Int.natCast_mul, cast_succ, wrapu32_nat, shr32, reps_wd, map_set_wd, List.length_set, zs_len, zi, z1, zb, hga, hgb, hml, hmlb, s1, places, fillAll]
      refine ⟨by rfl, ?_⟩
      simp (maxSteps := 4000000) only [go_sem, ↓reduceIte, Nat.reduceAdd, Nat.reduceSub, Nat.reduceMul, Nat.reduceEqDiff, reduceCtorEq, Int.reduceAdd, Int.reduceLT, Int.reduceLE, Int.reduceToNat, Int.reduceNeg, Int.reduceSub, ← List.map_take, ← List.map_drop, ne_eq, Nat.reduceLeDiff, Nat.reduceLT, Nat.zero_le, Nat.le_refl, wrap64, wrapu64, wrapu32, ← Int.natCast_add, ← Int.natCast_mul, cast_succ, wrapu32_nat, shr32, reps_wd, map_set_wd, List.length_set, zs_len, w1]
      exact ⟨k - 1, by omega, i + 1, garb rfl, by omega, hall'⟩
    · rw [decide_eq_false he] at s1
      have hno : ¬ ∀ j, j < L.length → zg L j = zg M j := fun h => he (h i (by omega))
      clear he a1 a2 b1 b2 ea eb
      simp (maxSteps := 4000000) only [go_sem, ↓reduceIte, Nat.reduceAdd, Nat.reduceSub, Nat.reduceMul, Nat.reduceEqDiff, reduceCtorEq, Int.reduceAdd, Int.reduceLT, Int.reduceLE, Int.reduceToNat, Int.reduceNeg, Int.reduceSub, ← List.map_take, ← List.map_drop, ne_eq, Nat.reduceLeDiff, Nat.reduceLT, Nat.zero_le, Nat.le_refl, wrap64, wrapu64, wrapu32, ← Int.natCast_add, ← Int.natCast_mul, cast_succ, wrapu32_nat, shr32, reps_wd, map_set_wd, List.length_set, zs_len, z1]
      refine W_drawn ?_
      simp (maxSteps := 4000000) only [go_sem, ↓reduceIte, Nat.reduceAdd, Nat.reduceSub, Nat.reduceMul, Nat.reduceEqDiff, reduceCtorEq, Int.reduceAdd, Int.reduceLT, Int.reduceLE, Int.reduceToNat, Int.reduceNeg, Int.reduceSub, ← List.map_take, ← List.map_drop, ne_eq, Nat.reduceLeDiff, Nat.reduceLT, Nat.zero_le, Nat.le_refl, wrap64, wrapu64, wrapu32, ← Int.natCast_add, ← Int.natCast_mul, cast_succ, wrapu32_nat, shr32, reps_wd, map_set_wd, List.length_set, zs_len, zi, z1, zb, hga, hgb, hml, hmlb, s1, places, fillAll]
      refine ⟨by rfl, ?_⟩
      exact ⟨false, rfl, by simp only [Bool.false_eq_true, false_iff]; exact hno⟩
theorem due_spec (nl : Bool) (L : List Raw) (hL : NumL L) (hl : L.length ≤ 1000) (h : ∀ i, i < L.length → (dg (zg L i)).length ≤ 4096) : denP E 14 [lraw nl L] = some (.ret (.bool false)) := by
  refine denP_eq E14 rfl (by simp [AV.pureL, AV.pure, pure_ivr]) ?_
  simp (maxSteps := 4000000) only [go_sem, ↓reduceIte, Nat.reduceAdd, Nat.reduceSub, Nat.reduceMul, Nat.reduceEqDiff, reduceCtorEq, Int.reduceAdd, Int.reduceLT, Int.reduceLE, Int.reduceToNat, Int.reduceNeg, Int.reduceSub, ← List.map_take, ← List.map_drop, ne_eq, Nat.reduceLeDiff, Nat.reduceLT, Nat.zero_le, Nat.le_refl, wrap64, wrapu64, wrapu32, ← Int.natCast_add, ← Int.natCast_mul, cast_succ, wrapu32_nat, shr32, reps_wd, map_set_wd, List.length_set, zs_len, Tryz.f14, places, fillAll]
  refine W_loopS (fun k sl h nx => ∃ (i : Nat), (∃ g : Nat → AV, sl = [lraw nl L, g 1, g 2, .int .i64 (i : Int), g 4, g 5, g 6, g 7, g 8, g 9, g 10, g 11, g 12, g 13, g 14, g 15]) ∧ i + k = L.length) L.length ⟨0, garb rfl, by omega⟩ ?_
  rintro k _ h' nx ⟨i, ⟨g, rfl⟩, hk⟩
  by_cases hi : i = L.length
  · have z1 : ((i : Int) < (L.length : Int)) = False := eq_false (by omega)
    simp (maxSteps := 4000000) only [go_sem, ↓reduceIte, Nat.reduceAdd, Nat.reduceSub, Nat.reduceMul, Nat.reduceEqDiff, reduceCtorEq, Int.reduceAdd, Int.reduceLT, Int.reduceLE, Int.reduceToNat, Int.reduceNeg, Int.reduceSub, ← List.map_take, ← List.map_drop, ne_eq, Nat.reduceLeDiff, Nat.reduceLT, Nat.zero_le, Nat.le_refl, wrap64, wrapu64, wrapu32, ← Int.natCast_add, ← Int.natCast_mul, cast_succ, wrapu32_nat, shr32, reps_wd, map_set_wd, List.length_set, zs_len, z1]
  · have z1 : ((i : Int) < (L.length : Int)) = True := eq_true (by omega)
    have zi : ((0 : Int) ≤ (i : Int)) = True := eq_true (by omega)
    have w1 : IntKind.i64.wrap ((i + 1 : Nat) : Int) = ((i + 1 : Nat) : Int) := wrap64 (by omega) (by omega)
    have hga := get_ivr (L := L) (i := i) (by omega)
    obtain ⟨a1, a2⟩ := hL.get (show i < L.length by omega)
    rw [← a1.2.1, ← a1.2.2] at hga
    have ea : zv (L.getD i default) = zg L i := rfl
    rw [ea] at hga
    have hml : (L.map ivr).length = L.length := List.length_map _
    have s1 := rFits_spec (L.getD i default).2.1 (zg L i)
    rw [decide_eq_true (h i (by omega))] at s1
    clear a1 a2 ea h
    simp (maxSteps := 4000000) only [go_sem, ↓reduceIte, Nat.reduceAdd, Nat.reduceSub, Nat.reduceMul, Nat.reduceEqDiff, reduceCtorEq, Int.reduceAdd, Int.reduceLT, Int.reduceLE, Int.reduceToNat, Int.reduceNeg, Int.reduceSub, ← List.map_take, ← List.map_drop, ne_eq, Nat.reduceLeDiff, Nat.reduceLT, Nat.zero_le, Nat.le_refl, wrap64, wrapu64, wrapu32, ← Int.natCast_add, ← Int.natCast_mul, cast_succ, wrapu32_nat, shr32, reps_wd, map_set_wd, List.length_set, zs_len, z1, zi, hga, hml, s1, w1, places, fillAll]
    exact ⟨k - 1, by omega, i + 1, garb rfl, by omega⟩
theorem TimesL_num {A : Mat} {X : Nat → Int} {n : Nat} (h : ∀ i, i < n → (dg (rx A X i)).length ≤ 1000000) : NumL (TimesL A X n) := by
  intro q hq
  obtain ⟨i, hi, rfl⟩ := List.mem_map.1 hq
  exact ⟨num_rz _, h i (List.mem_range.1 hi)⟩
theorem TimesL_zg {A : Mat} {X : Nat → Int} {n i : Nat} (h : i < n) : zg (TimesL A X n) i = rx A X i := by
  unfold zg; rw [TimesL_get h]; exact zv_rz _
/-- Whether numbers are a solution, as the reference says. -/
theorem rSolution_spec (na : Bool) (A : Mat) (nb : Bool) (B : List Raw) (nx' : Bool) (X : List Raw) (w : Nat) (hA : ∀ i, i < A.length → NumL (A.getD i default).2 ∧ (A.getD i default).2.length = w) (h0 : 1 ≤ A.length) (hw : w ≤ 1000) (hX : NumL X) (hXw : X.length = w) (hAl : A.length ≤ 1000) (hB : NumL B) (hBl : B.length = A.length)
    (hs : ∀ i, i < A.length → (dg (rx A (zg X) i)).length ≤ 1000000) :
    denP E 13 [mraw na A, lraw nb B, lraw nx' X] = some (.ret (.bool (solB A (zg B) (zg X) A.length))) := by
  refine denP_eq E13 rfl (by simp [AV.pureL, AV.pure, pure_ivr, pure_lr]) ?_
  have t1 := rTimes_spec na A nx' X (fun i hi => ⟨(hA i hi).1, by rw [(hA i hi).2, hXw]; exact Nat.le_refl _, by rw [(hA i hi).2]; exact hw⟩) hX hAl
  obtain ⟨s, s1, s2⟩ := rSameAll_spec (decide (A.length = 0)) (TimesL A (zg X) A.length) nb B (TimesL_num hs) hB (by rw [TimesL_len, hBl]) (by rw [TimesL_len]; exact hAl)
  have hse : s = solB A (zg B) (zg X) A.length := by
    rw [Bool.eq_iff_iff, s2, solB_iff, TimesL_len]
    constructor
    · intro h i hi; rw [← h i hi, TimesL_zg hi]
    · intro h i hi; rw [TimesL_zg hi]; exact h i hi
  rw [← hse]
  have hg0 := get_lr (A := A) (i := 0) (by omega)
  have z00 : ((0 : Int) < (A.length : Int)) = True := eq_true (by omega)
  have hml : (A.map lr).length = A.length := List.length_map _
  have hml0 : ((A.getD 0 default).2.map ivr).length = w := by rw [List.length_map, (hA 0 (by omega)).2]
  have hwi : ((A.getD 0 default).2.length : Int) = (w : Int) := by rw [(hA 0 (by omega)).2]
  have z1 : ((X.length : Int) = (w : Int)) = True := eq_true (by omega)
  clear hse s2 hs hA hX hB
  generalize TimesL A (zg X) A.length = T at *
  generalize decide (A.length = 0) = fT at *
  simp (maxSteps := 4000000) only [go_sem, ↓reduceIte, Nat.reduceAdd, Nat.reduceSub, Nat.reduceMul, Nat.reduceEqDiff, reduceCtorEq, Int.reduceAdd, Int.reduceLT, Int.reduceLE, Int.reduceToNat, Int.reduceNeg, Int.reduceSub, ← List.map_take, ← List.map_drop, ne_eq, Nat.reduceLeDiff, Nat.reduceLT, Nat.zero_le, Nat.le_refl, wrap64, wrapu64, wrapu32, ← Int.natCast_add, ← Int.natCast_mul, cast_succ, wrapu32_nat, shr32, reps_wd, map_set_wd, List.length_set, zs_len, Tryz.f13, hg0, z00, hml, hml0, hwi, z1, t1, s1, purify_lraw, purify_mraw, Int.toNat_zero, places, fillAll]
theorem rfB_false {A : Mat} {B Y : Nat → Int} {m : Int} {k : Nat} (h : ¬ dz Y (fun r => rowz A r k) A.length % m = 0) : ∀ w, k < w → rfB A B Y m w = false
  | 0, hk => absurd hk (Nat.not_lt_zero k)
  | w + 1, hk => by
    show (decide _ && rfB A B Y m w) = false
    by_cases e : k = w
    · subst e; rw [decide_eq_false h]; rfl
    · rw [rfB_false h w (by omega), Bool.and_false]
theorem rfB_all {A : Mat} {B Y : Nat → Int} {m : Int} : ∀ w, (∀ k, k < w → dz Y (fun r => rowz A r k) A.length % m = 0) → rfB A B Y m w = !decide (dz Y B A.length % m = 0)
  | 0, _ => rfl
  | w + 1, h => by
    show (decide _ && rfB A B Y m w) = _
    rw [decide_eq_true (h w (Nat.lt_succ_self w)), Bool.true_and, rfB_all w fun k hk => h k (by omega)]
theorem dz_comm (a b : Nat → Int) : ∀ n, dz a b n = dz b a n
  | 0 => rfl
  | n + 1 => by show dz a b n + a n * b n = dz b a n + b n * a n; rw [dz_comm a b n, Int.mul_comm]
theorem rx_turn {A : Mat} {Y : Nat → Int} {w k : Nat} (hk : k < w) : rx (TurnM A w) Y k = dz Y (fun r => rowz A r k) A.length := by
  unfold rx rowz
  rw [TurnM_get hk, colR_len, dz_comm]
  exact dz_cong2 A.length fun i hi => ⟨rfl, colR_zg hi⟩
theorem AllV.numL {L : List Raw} (h : AllV L) : NumL L := fun q hq => ⟨h.num hq, by have := zv_spec (h q hq).1 (h q hq).2; omega⟩
set_option maxHeartbeats 1000000 in
theorem rRefutes_spec (na : Bool) (A : Mat) (nb : Bool) (B : List Raw) (ny : Bool) (Y : List Raw) (w : Nat) (fm : Bool) (m : Int) (hA : MatV A w) (h1 : 1 ≤ A.length) (hAm : A.length ≤ 100) (hw1 : 1 ≤ w) (hw : w ≤ 100) (hB : AllV B) (hBl : B.length = A.length) (hY : AllV Y) (hYl : Y.length = A.length) (lm : (dg m).length ≤ 4096) :
    denP E 19 [mraw na A, lraw nb B, lraw ny Y, I fm m] = some (.ret (.bool (rfB A (zg B) (zg Y) m w))) := by
  refine denP_eq E19 rfl (by simp [AV.pureL, AV.pure, pure_ivr, pure_lr, pure_wd]) ?_
  have hg0 := get_lr (A := A) (i := 0) (by omega)
  have z00 : ((0 : Int) < (A.length : Int)) = True := eq_true (by omega)
  have hml : (A.map lr).length = A.length := List.length_map _
  have hml0 : ((A.getD 0 default).2.map ivr).length = w := by rw [List.length_map, (hA 0 (by omega)).2]
  have hwi : ((A.getD 0 default).2.length : Int) = (w : Int) := by rw [(hA 0 (by omega)).2]
  have t1 := rTurned_spec na A w hA h1 hAm hw1 hw
  have t2 := rTimes_spec false (TurnM A w) ny Y (fun i hi => by rw [TurnM_len] at hi; rw [TurnM_get hi]; exact ⟨(colR_v hA hi).numL, by rw [colR_len]; omega, by rw [colR_len]; omega⟩) hY.numL (by rw [TurnM_len]; omega)
  have hd : decide ((TurnM A w).length = 0) = false := decide_eq_false (by rw [TurnM_len]; omega)
  rw [hd, TurnM_len] at t2
  have hrx : ∀ k, k < w → (dg (rx (TurnM A w) (zg Y) k)).length ≤ 2000100 := fun k hk => by
    rw [rx_turn hk]
    have := dz_len (a := zg Y) (b := fun r => rowz A r k) A.length fun i hi => ⟨hY.numL.len (by omega), (hA i hi).1.numL.len (by rw [(hA i hi).2]; exact hk)⟩
    omega
  have d1 := rDot_spec ny Y nb B hY.numL hB.numL (by omega) (by omega)
  have ld := dz_len (a := zg Y) (b := zg B) A.length fun i hi => ⟨hY.numL.len (by omega), hB.numL.len (by omega)⟩
  rw [hYl] at d1
  have v1 := rDivs fm m (decide (dz (zg Y) (zg B) A.length = 0)) (dz (zg Y) (zg B) A.length) (by omega) (by omega)
  simp only [RM] at d1
  have hfin : (∀ k, k < w → dz (zg Y) (fun r => rowz A r k) A.length % m = 0) → rfB A (zg B) (zg Y) m w = !decide (dz (zg Y) (zg B) A.length % m = 0) := rfB_all w
  have hno : ∀ k, k < w → ¬ dz (zg Y) (fun r => rowz A r k) A.length % m = 0 → rfB A (zg B) (zg Y) m w = false := fun k hk h => rfB_false h w hk
  have hTl := TimesL_len (TurnM A w) (zg Y) w
  have hTg : ∀ k, k < w → (TimesL (TurnM A w) (zg Y) w).getD k default = rz (decide (dz (zg Y) (fun r => rowz A r k) A.length = 0), dz (zg Y) (fun r => rowz A r k) A.length) := fun k hk => by rw [TimesL_get hk, rx_turn hk]
  have hrx' : ∀ k, k < w → (dg (dz (zg Y) (fun r => rowz A r k) A.length)).length ≤ 2000100 := fun k hk => by rw [← rx_turn hk]; exact hrx k hk
  clear hrx ld hA hB hY
  generalize TimesL (TurnM A w) (zg Y) w = T at *
  generalize TurnM A w = TM at *
  generalize rfB A (zg B) (zg Y) m w = res at *
  generalize dz (zg Y) (zg B) A.length = dyb at *
  generalize hcf : (fun k => dz (zg Y) (fun r => rowz A r k) A.length) = cf at *
  have hcf' : ∀ k, dz (zg Y) (fun r => rowz A r k) A.length = cf k := fun k => by rw [← hcf]
  simp only [hcf'] at hfin hno hTg hrx'
  clear hcf hcf'
  obtain ⟨fd, hfd⟩ : ∃ f, f = decide (dyb = 0) := ⟨_, rfl⟩
  rw [← hfd] at d1 v1
  clear hfd
  simp (maxSteps := 4000000) only [go_sem, ↓reduceIte, Nat.reduceAdd, Nat.reduceSub, Nat.reduceMul, Nat.reduceEqDiff, reduceCtorEq, Int.reduceAdd, Int.reduceLT, Int.reduceLE, Int.reduceToNat, Int.reduceNeg, Int.reduceSub, ← List.map_take, ← List.map_drop, ne_eq, Nat.reduceLeDiff, Nat.reduceLT, Nat.zero_le, Nat.le_refl, wrap64, wrapu64, wrapu32, ← Int.natCast_add, ← Int.natCast_mul, cast_succ, wrapu32_nat, shr32, reps_wd, map_set_wd, List.length_set, zs_len, Tryz.f19, hg0, z00, hml, hml0, hwi, t1, t2, purify_lraw, purify_mraw, Int.toNat_zero, places, fillAll]
  refine W_loopS (fun kk sl h nx => ∃ (k : Nat), (∃ g : Nat → AV, sl = [g 0, lraw nb B, lraw ny Y, g 3, g 4, g 5, g 6, .ptr 0 0, g 8, lraw false T, .int .i64 (k : Int), g 11, g 12, g 13, g 14, g 15, g 16, g 17, g 18, g 19, g 20, g 21, g 22, g 23, g 24, g 25, g 26, g 27, g 28, g 29, g 30, g 31, g 32, g 33, g 34, g 35, g 36, g 37]) ∧ k + kk = w ∧ h 0 = some ⟨[.bool (ng m), .lst fm ((dg m).map wd)], true, 2, false⟩ ∧ ∀ j, j < k → cf j % m = 0) w ⟨0, garb rfl, by omega, ?_, fun j hj => absurd hj (Nat.not_lt_zero j)⟩ ?_
  · simp only [upd_apply, ↓reduceIte, Nat.reduceEqDiff, if_pos]
  rintro kk _ h nx ⟨k, ⟨g, rfl⟩, hkk, e0, hall⟩
  clear t1 t2 hg0 hml0
  by_cases hk : k = w
  · have z1 : ((k : Int) < (T.length : Int)) = False := eq_false (by omega)
    rw [hfin (by rw [← hk]; exact hall)]
    clear hfin hno
    generalize decide (dyb % m = 0) = D at *
    simp (maxSteps := 4000000) only [go_sem, ↓reduceIte, Nat.reduceAdd, Nat.reduceSub, Nat.reduceMul, Nat.reduceEqDiff, reduceCtorEq, Int.reduceAdd, Int.reduceLT, Int.reduceLE, Int.reduceToNat, Int.reduceNeg, Int.reduceSub, ← List.map_take, ← List.map_drop, ne_eq, Nat.reduceLeDiff, Nat.reduceLT, Nat.zero_le, Nat.le_refl, wrap64, wrapu64, wrapu32, ← Int.natCast_add, ← Int.natCast_mul, cast_succ, wrapu32_nat, shr32, reps_wd, map_set_wd, List.length_set, zs_len, z1]
    refine W_drawn ?_
    simp (maxSteps := 4000000) only [go_sem, ↓reduceIte, Nat.reduceAdd, Nat.reduceSub, Nat.reduceMul, Nat.reduceEqDiff, reduceCtorEq, Int.reduceAdd, Int.reduceLT, Int.reduceLE, Int.reduceToNat, Int.reduceNeg, Int.reduceSub, ← List.map_take, ← List.map_drop, ne_eq, Nat.reduceLeDiff, Nat.reduceLT, Nat.zero_le, Nat.le_refl, wrap64, wrapu64, wrapu32, ← Int.natCast_add, ← Int.natCast_mul, cast_succ, wrapu32_nat, shr32, reps_wd, map_set_wd, List.length_set, zs_len, e0, d1, v1, purify_lraw, places, fillAll]
    rfl
  · have z1 : ((k : Int) < (T.length : Int)) = True := eq_true (by omega)
    have zi : ((0 : Int) ≤ (k : Int)) = True := eq_true (by omega)
    have w1 : IntKind.i64.wrap ((k + 1 : Nat) : Int) = ((k + 1 : Nat) : Int) := wrap64 (by omega) (by omega)
    have hga := get_ivr (L := T) (i := k) (by omega)
    rw [hTg k (by omega)] at hga
    have hmlT : (T.map ivr).length = T.length := List.length_map _
    have v2 := rDivs fm m (decide (cf k = 0)) (cf k) (by omega) (by have := hrx' k (by omega); omega)
    by_cases he : cf k % m = 0
    · rw [decide_eq_true he] at v2
      have hall' : ∀ j, j < k + 1 → cf j % m = 0 := fun j hj => by
        by_cases e : j = k
        · rw [e]; exact he
        · exact hall j (by omega)
      clear he d1 v1 hno hfin hTg hrx'
      generalize cf k = c at *
      generalize decide (c = 0) = fc at *
      simp (maxSteps := 4000000) only [go_sem, ↓reduceIte, Nat.reduceAdd, Nat.reduceSub, Nat.reduceMul, Nat.reduceEqDiff, reduceCtorEq, Int.reduceAdd, Int.reduceLT, Int.reduceLE, Int.reduceToNat, Int.reduceNeg, Int.reduceSub, ← List.map_take, ← List.map_drop, ne_eq, Nat.reduceLeDiff, Nat.reduceLT, Nat.zero_le, Nat.le_refl, wrap64, wrapu64, wrapu32, ← Int.natCast_add, ← Int.natCast_mul, cast_succ, wrapu32_nat, shr32, reps_wd, map_set_wd, List.length_set, zs_len, z1]
      refine W_drawn ?_
      simp (maxSteps := 4000000) only [go_sem, ↓reduceIte, Nat.reduceAdd, Nat.reduceSub, Nat.reduceMul, Nat.reduceEqDiff, reduceCtorEq, Int.reduceAdd, Int.reduceLT, Int.reduceLE, Int.reduceToNat, Int.reduceNeg, Int.reduceSub, ← List.map_take, ← List.map_drop, ne_eq, Nat.reduceLeDiff, Nat.reduceLT, Nat.zero_le, Nat.le_refl, wrap64, wrapu64, wrapu32, ← Int.natCast_add, ← Int.natCast_mul, cast_succ, wrapu32_nat, shr32, reps_wd, map_set_wd, List.length_set, zs_len, zi, z1, hga, hmlT, e0, v2, places, fillAll]
      refine ⟨by rfl, ?_⟩
      simp (maxSteps := 4000000) only [go_sem, ↓reduceIte, Nat.reduceAdd, Nat.reduceSub, Nat.reduceMul, Nat.reduceEqDiff, reduceCtorEq, Int.reduceAdd, Int.reduceLT, Int.reduceLE, Int.reduceToNat, Int.reduceNeg, Int.reduceSub, ← List.map_take, ← List.map_drop, ne_eq, Nat.reduceLeDiff, Nat.reduceLT, Nat.zero_le, Nat.le_refl, wrap64, wrapu64, wrapu32, ← Int.natCast_add, ← Int.natCast_mul, cast_succ, wrapu32_nat, shr32, reps_wd, map_set_wd, List.length_set, zs_len, w1]
      exact ⟨kk - 1, by omega, k + 1, garb rfl, by omega, hall'⟩
    · rw [decide_eq_false he] at v2
      rw [hno k (by omega) he]
      clear he d1 v1 hno hfin hTg hrx'
      generalize cf k = c at *
      generalize decide (c = 0) = fc at *
      simp (maxSteps := 4000000) only [go_sem, ↓reduceIte, Nat.reduceAdd, Nat.reduceSub, Nat.reduceMul, Nat.reduceEqDiff, reduceCtorEq, Int.reduceAdd, Int.reduceLT, Int.reduceLE, Int.reduceToNat, Int.reduceNeg, Int.reduceSub, ← List.map_take, ← List.map_drop, ne_eq, Nat.reduceLeDiff, Nat.reduceLT, Nat.zero_le, Nat.le_refl, wrap64, wrapu64, wrapu32, ← Int.natCast_add, ← Int.natCast_mul, cast_succ, wrapu32_nat, shr32, reps_wd, map_set_wd, List.length_set, zs_len, z1]
      refine W_drawn ?_
      simp (maxSteps := 4000000) only [go_sem, ↓reduceIte, Nat.reduceAdd, Nat.reduceSub, Nat.reduceMul, Nat.reduceEqDiff, reduceCtorEq, Int.reduceAdd, Int.reduceLT, Int.reduceLE, Int.reduceToNat, Int.reduceNeg, Int.reduceSub, ← List.map_take, ← List.map_drop, ne_eq, Nat.reduceLeDiff, Nat.reduceLT, Nat.zero_le, Nat.le_refl, wrap64, wrapu64, wrapu32, ← Int.natCast_add, ← Int.natCast_mul, cast_succ, wrapu32_nat, shr32, reps_wd, map_set_wd, List.length_set, zs_len, zi, z1, hga, hmlT, e0, v2, places, fillAll]
      rfl
end Go.Proofs.YtnpomadbaanpkaaGreat

/- Walks: how wide lists are, one of them built on the spot. (Own work of this repo.) -/
namespace Go.Proofs.YtnpomadbaanpkaaGreat
open Vm
set_option maxRecDepth 10000

/-- The cells of lists, of which one lies in row q. -/
def cw (n0 q : Nat) (M : Mat) : List AV := (M.map lr).set n0 (.ref q 0 1)
theorem cw_len (n0 q : Nat) (M : Mat) : (cw n0 q M).length = M.length := by unfold cw; simp
theorem cw_get {n0 q i : Nat} {M : Mat} (h : i < M.length) : (cw n0 q M)[i]? = some (if i = n0 then .ref q 0 1 else lr (M.getD i default)) := by
  unfold cw
  rw [List.getElem?_set]
  by_cases e : i = n0
  · rw [if_pos e.symm, if_pos (by rw [List.length_map]; omega), if_pos e]
  · rw [if_neg fun h => e h.symm, if_neg e, List.getElem?_map, List.getD_eq_getElem?_getD, List.getElem?_eq_getElem h]; rfl
theorem cw_snoc {n0 q : Nat} {M : Mat} {r : Bool × List Raw} (h : n0 < M.length) : cw n0 q (M ++ [r]) = cw n0 q M ++ [lr r] := by
  unfold cw
  rw [List.map_append, List.set_append, if_pos (by rw [List.length_map]; exact h)]
  rfl
set_option maxHeartbeats 2000000 in
theorem wide_open2 (nl : Bool) (A : Mat) (hA : ShortM A) (id : Nat) (B : Mat) (hB : ShortM B) (hb : B.length ≤ 10) (q n0 : Nat) (m : Raw) (hn0 : n0 < B.length) (hBn : B.getD n0 default = (false, [m])) (h : Heap) (nx : Nat) (hi : id < nx) (hqn : q < nx) (hqi : q ≠ id) (hH : h id = some ⟨cw n0 q B, false, 1, false⟩) (hQ : h q = some ⟨fr [m], true, 2, false⟩) :
    ∃ (b : Bool) (h' : Heap) (n' : Nat), denO E 6 [mraw nl A, .ref id 0 B.length] h nx = some (.ret (.bool b), h', n') ∧ nx ≤ n' ∧ (∀ i, i < nx → i ≠ id → i ≠ q → h' i = h i) ∧ (b = false → A.length ≤ 20 ∧ ∀ j, j < (B ++ A).length → Narrow ((B ++ A).getD j default).2) := by
  have key : ∃ v h' n', denO E 6 [mraw nl A, .ref id 0 B.length] h nx = some (.ret v, h', n') ∧ (∃ b : Bool, v = .bool b ∧ (b = false → A.length ≤ 20 ∧ ∀ j, j < (B ++ A).length → Narrow ((B ++ A).getD j default).2)) ∧ nx ≤ n' ∧ (∀ i, i < nx → i ≠ id → i ≠ q → h' i = h i) := by
    refine denO_intro E6 rfl ?_
    by_cases h20 : 20 < A.length
    · have z1 : ((20 : Int) < (A.length : Int)) = True := eq_true (by omega)
      simp (maxSteps := 4000000) only [go_sem, ↓reduceIte, Nat.reduceAdd, Nat.reduceSub, Nat.reduceMul, Nat.reduceEqDiff, reduceCtorEq, Int.reduceAdd, Int.reduceLT, Int.reduceLE, Int.reduceToNat, Int.reduceNeg, Int.reduceSub, ← List.map_take, ← List.map_drop, ne_eq, Nat.reduceLeDiff, Nat.reduceLT, Nat.zero_le, Nat.le_refl, wrap64, wrapu64, wrapu32, ← Int.natCast_add, ← Int.natCast_mul, cast_succ, wrapu32_nat, shr32, reps_wd, map_set_wd, List.length_set, zs_len, Tryz.f6, z1]
      refine ⟨⟨true, rfl, by simp⟩, ?_⟩
      simp
    · have z1 : ((20 : Int) < (A.length : Int)) = False := eq_false (by omega)
      simp (maxSteps := 4000000) only [go_sem, ↓reduceIte, Nat.reduceAdd, Nat.reduceSub, Nat.reduceMul, Nat.reduceEqDiff, reduceCtorEq, Int.reduceAdd, Int.reduceLT, Int.reduceLE, Int.reduceToNat, Int.reduceNeg, Int.reduceSub, ← List.map_take, ← List.map_drop, ne_eq, Nat.reduceLeDiff, Nat.reduceLT, Nat.zero_le, Nat.le_refl, wrap64, wrapu64, wrapu32, ← Int.natCast_add, ← Int.natCast_mul, cast_succ, wrapu32_nat, shr32, reps_wd, map_set_wd, List.length_set, zs_len, Tryz.f6, z1]
      refine W_loopS (fun k sl h' n' => ∃ i c : Nat, (∃ g : Nat → AV, sl = [mraw nl A, .ref c 0 (B ++ A.take i).length, g 2, g 3, g 4, .int .i64 i, g 6, g 7, g 8, g 9, g 10, g 11, g 12, g 13, g 14, g 15, g 16, g 17, g 18, g 19, g 20, g 21, g 22, g 23, g 24, g 25, g 26, g 27, g 28, g 29, g 30, g 31, g 32, g 33, g 34, g 35, g 36, g 37, g 38, g 39, g 40, g 41, g 42, g 43]) ∧ i + k = A.length ∧ h' c = some ⟨cw n0 q (B ++ A.take i), false, 1, false⟩ ∧ c < n' ∧ nx ≤ n' ∧ (c = id ∨ nx ≤ c) ∧ h' q = some ⟨fr [m], true, 2, false⟩ ∧ (∀ i, i < nx → i ≠ id → i ≠ q → h' i = h i)) A.length ⟨0, id, ?_, by omega, ?_, hi, Nat.le_refl _, .inl rfl, hQ, fun i h1 h2 h3 => rfl⟩ ?_
      · rw [List.take_zero, List.append_nil]; exact garb rfl
      · rw [List.take_zero, List.append_nil]; exact hH
      rintro k _ h' n' ⟨i, c, ⟨g, rfl⟩, hk, hc, hcn, hnn, hcid, hq, hfr⟩
      have hlen : (B ++ A.take i).length ≤ 30 := by rw [List.length_append, List.length_take]; omega
      by_cases hi0 : i = A.length
      · have z2 : ((i : Int) < (A.length : Int)) = False := eq_false (by omega)
        simp (maxSteps := 4000000) only [go_sem, ↓reduceIte, Nat.reduceAdd, Nat.reduceSub, Nat.reduceMul, Nat.reduceEqDiff, reduceCtorEq, Int.reduceAdd, Int.reduceLT, Int.reduceLE, Int.reduceToNat, Int.reduceNeg, Int.reduceSub, ← List.map_take, ← List.map_drop, ne_eq, Nat.reduceLeDiff, Nat.reduceLT, Nat.zero_le, Nat.le_refl, wrap64, wrapu64, wrapu32, ← Int.natCast_add, ← Int.natCast_mul, cast_succ, wrapu32_nat, shr32, reps_wd, map_set_wd, List.length_set, zs_len, z2]
        have hall : B ++ A.take i = B ++ A := by rw [hi0, List.take_length]
        rw [hall] at hc hlen ⊢
        have hsh : ∀ j, Short ((B ++ A).getD j default).2 := by
          intro j
          have : ShortM (B ++ A) := ⟨by omega, fun r hr => by rcases List.mem_append.1 hr with h | h; exact hB.2 r h; exact hA.2 r h⟩
          exact this.get j
        have hMn : n0 < (B ++ A).length ∧ (B ++ A).getD n0 default = (false, [m]) := ⟨by rw [List.length_append]; omega, by rw [← hBn, List.getD_eq_getElem?_getD, List.getD_eq_getElem?_getD, List.getElem?_append_left hn0]⟩
        generalize hM : B ++ A = M at *
        clear hall
        refine W_loopS (fun k sl h'' n'' => ∃ i : Nat, (∃ g : Nat → AV, sl = [g 0, .ref c 0 M.length, g 2, g 3, g 4, g 5, .int .i64 i, g 7, g 8, g 9, g 10, g 11, g 12, g 13, g 14, g 15, g 16, g 17, g 18, g 19, g 20, g 21, g 22, g 23, g 24, g 25, g 26, g 27, g 28, g 29, g 30, g 31, g 32, g 33, g 34, g 35, g 36, g 37, g 38, g 39, g 40, g 41, g 42, g 43]) ∧ i + k = M.length ∧ h'' c = some ⟨cw n0 q M, false, 1, false⟩ ∧ c < n'' ∧ nx ≤ n'' ∧ (∃ fz, h'' q = some ⟨fr [m], true, 2, fz⟩) ∧ (∀ i, i < nx → i ≠ id → i ≠ q → h'' i = h i) ∧ ∀ j, j < i → Narrow (M.getD j default).2) M.length ⟨0, garb rfl, by omega, hc, hcn, hnn, ⟨_, hq⟩, hfr, by omega⟩ ?_
        have hcq : c ≠ q := by omega
        clear hc hcn hnn hfr hq
        rintro k2 _ h' n' ⟨i, ⟨g, rfl⟩, hk2, hc, hcn, hnn, ⟨fz, hq⟩, hfr, hnar⟩
        by_cases hi1 : i = M.length
        · have z3 : ((i : Int) < (M.length : Int)) = False := eq_false (by omega)
          simp (maxSteps := 4000000) only [go_sem, ↓reduceIte, Nat.reduceAdd, Nat.reduceSub, Nat.reduceMul, Nat.reduceEqDiff, reduceCtorEq, Int.reduceAdd, Int.reduceLT, Int.reduceLE, Int.reduceToNat, Int.reduceNeg, Int.reduceSub, ← List.map_take, ← List.map_drop, ne_eq, Nat.reduceLeDiff, Nat.reduceLT, Nat.zero_le, Nat.le_refl, wrap64, wrapu64, wrapu32, ← Int.natCast_add, ← Int.natCast_mul, cast_succ, wrapu32_nat, shr32, reps_wd, map_set_wd, List.length_set, zs_len, z3, hc]
          refine ⟨⟨false, rfl, fun _ => ⟨by omega, fun j hj => hnar j (by omega)⟩⟩, hnn, hfr⟩
        · have z3 : ((i : Int) < (M.length : Int)) = True := eq_true (by omega)
          have z0 : ((0 : Int) ≤ (i : Int)) = True := eq_true (by omega)
          have w1 : IntKind.i64.wrap ((i + 1 : Nat) : Int) = ((i + 1 : Nat) : Int) := wrap64 (by omega) (by omega)
          have hS := hsh i
          have hg0 := cw_get (q := q) (n0 := n0) (M := M) (i := i) (by omega)
          have hcl := cw_len n0 q M
          have x1 : (c = n') = False := eq_false (by omega)
          have x2 : (n' = c) = False := eq_false (by omega)
          have x3 : (q = n') = False := eq_false (by omega)
          have x4 : (n' = q) = False := eq_false (by omega)
          have x5 : (c = q) = False := eq_false hcq
          have x6 : (q = c) = False := eq_false fun e => hcq e.symm
          have hil : ((i : Int) < (M.length : Int)) = True := z3
          have hstep : ∀ (h'' : Heap) (n'' : Nat) (sl : List AV), Narrow (M.getD i default).2 → (∃ g : Nat → AV, sl = [g 0, .ref c 0 M.length, g 2, g 3, g 4, g 5, .int .i64 ((i + 1 : Nat) : Int), g 7, g 8, g 9, g 10, g 11, g 12, g 13, g 14, g 15, g 16, g 17, g 18, g 19, g 20, g 21, g 22, g 23, g 24, g 25, g 26, g 27, g 28, g 29, g 30, g 31, g 32, g 33, g 34, g 35, g 36, g 37, g 38, g 39, g 40, g 41, g 42, g 43]) → h'' c = some ⟨cw n0 q M, false, 1, false⟩ → c < n'' → nx ≤ n'' → (∃ fz, h'' q = some ⟨fr [m], true, 2, fz⟩) → (∀ i, i < nx → i ≠ id → i ≠ q → h'' i = h i) →
              ∃ k', k' < k2 ∧ ∃ i : Nat, (∃ g : Nat → AV, sl = [g 0, .ref c 0 M.length, g 2, g 3, g 4, g 5, .int .i64 i, g 7, g 8, g 9, g 10, g 11, g 12, g 13, g 14, g 15, g 16, g 17, g 18, g 19, g 20, g 21, g 22, g 23, g 24, g 25, g 26, g 27, g 28, g 29, g 30, g 31, g 32, g 33, g 34, g 35, g 36, g 37, g 38, g 39, g 40, g 41, g 42, g 43]) ∧ i + k' = M.length ∧ h'' c = some ⟨cw n0 q M, false, 1, false⟩ ∧ c < n'' ∧ nx ≤ n'' ∧ (∃ fz, h'' q = some ⟨fr [m], true, 2, fz⟩) ∧ (∀ i, i < nx → i ≠ id → i ≠ q → h'' i = h i) ∧ ∀ j, j < i → Narrow (M.getD j default).2 := fun h'' n'' sl a0 a1 a2 a3 a4 a5 a6 => ⟨k2 - 1, by omega, i + 1, a1, by omega, a2, a3, a4, a5, a6, fun j hj => by
                by_cases e : j = i
                · rw [e]; exact a0
                · exact hnar j (by omega)⟩
          generalize hIQ : (fun (k : Nat) (σ : St) => ∃ i : Nat, (∃ g : Nat → AV, σ.sl = [g 0, .ref c 0 M.length, g 2, g 3, g 4, g 5, .int .i64 i, g 7, g 8, g 9, g 10, g 11, g 12, g 13, g 14, g 15, g 16, g 17, g 18, g 19, g 20, g 21, g 22, g 23, g 24, g 25, g 26, g 27, g 28, g 29, g 30, g 31, g 32, g 33, g 34, g 35, g 36, g 37, g 38, g 39, g 40, g 41, g 42, g 43]) ∧ i + k = M.length ∧ σ.h c = some ⟨cw n0 q M, false, 1, false⟩ ∧ c < σ.nx ∧ nx ≤ σ.nx ∧ (∃ fz, σ.h q = some ⟨fr [m], true, 2, fz⟩) ∧ (∀ i, i < nx → i ≠ id → i ≠ q → σ.h i = h i) ∧ ∀ j, j < i → Narrow (M.getD j default).2) = IQ
          have hnar0 := hnar
          clear hnar hsh
          by_cases hin : i = n0
          · have hgi : M.getD i default = (false, [m]) := by rw [hin]; exact hMn.2
            rw [hgi] at hS hstep
            rw [if_pos hin] at hg0
            obtain ⟨n, hw, hwn⟩ := words_one false [m] hS
            have hw : denP E 12 [.lst false [.lst false [ivr m]]] = some (.ret (.int .i64 (n : Int))) := hw
            simp only [ivr] at hw
            have hiv : ivr m = .agg [.bool m.1, .lst m.2.1 (m.2.2.map wd)] := rfl
            have hro : ∀ H : Heap, H q = some ⟨fr [m], true, 2, fz⟩ → refP 4 H n' 0 1 (some ⟨[AV.ref q 0 1], false, 1, false⟩) = some (.lst false [.lst false [ivr m]], [n', q]) := fun H hH => by
              unfold refP
              dsimp only
              rw [if_pos ⟨by simp, by simp, .inr rfl⟩]
              show (match mapL (purify (3 + 1) H) [AV.ref q 0 1] with | some (cs, ids) => some (AV.lst false (elems false 1 1 cs), n' :: ids) | none => none) = _
              simp only [mapL, purify_ref, hH, refP_fr (L := [m]) (len := 1) rfl]
              rfl
            have z4 : ((40 : Int) < ((1 : Nat) : Int)) = False := eq_false (by omega)
            by_cases hn : 4200 < n
            · have z5 : ((4200 : Int) < (n : Int)) = True := eq_true (by omega)
              simp (maxSteps := 4000000) only [go_sem, ↓reduceIte, Nat.reduceAdd, Nat.reduceSub, Nat.reduceMul, Nat.reduceEqDiff, reduceCtorEq, Int.reduceAdd, Int.reduceLT, Int.reduceLE, Int.reduceToNat, Int.reduceNeg, Int.reduceSub, ← List.map_take, ← List.map_drop, ne_eq, Nat.reduceLeDiff, Nat.reduceLT, Nat.zero_le, Nat.le_refl, wrap64, wrapu64, wrapu32, ← Int.natCast_add, ← Int.natCast_mul, cast_succ, wrapu32_nat, shr32, reps_wd, map_set_wd, List.length_set, zs_len, z0, z3, hc, hg0, hcl, z4, z5, x1, x2, x3, x4, x5, x6, hq, hro, hiv, hw, reps, places, fillAll]
              refine ⟨⟨true, rfl, by simp⟩, by omega, fun j j1 j2 j3 => ?_⟩
              (try simp only [upd_apply])
              (repeat rw [if_neg (by omega)])
              exact hfr j j1 j2 j3
            · have z5 : ((4200 : Int) < (n : Int)) = False := eq_false (by omega)
              have hnr : Narrow [m] := ⟨by show 1 ≤ 40; decide, (hwn 4200).1 (by omega)⟩
              simp (maxSteps := 4000000) only [go_sem, ↓reduceIte, Nat.reduceAdd, Nat.reduceSub, Nat.reduceMul, Nat.reduceEqDiff, reduceCtorEq, Int.reduceAdd, Int.reduceLT, Int.reduceLE, Int.reduceToNat, Int.reduceNeg, Int.reduceSub, ← List.map_take, ← List.map_drop, ne_eq, Nat.reduceLeDiff, Nat.reduceLT, Nat.zero_le, Nat.le_refl, wrap64, wrapu64, wrapu32, ← Int.natCast_add, ← Int.natCast_mul, cast_succ, wrapu32_nat, shr32, reps_wd, map_set_wd, List.length_set, zs_len, z0, z3, hc, hg0, hcl, z4, z5, x1, x2, x3, x4, x5, x6, hq, hro, hiv, hw, w1, reps, places, fillAll]
              rw [← hIQ]
              refine hstep _ _ _ hnr (garb rfl) ?_ (by dsimp only; omega) (by dsimp only; omega) ⟨true, ?_⟩ fun j j1 j2 j3 => ?_
              · simp only [upd_apply, ↓reduceIte, Nat.reduceEqDiff, hc, x1, x2, x5, x6]
              · simp only [upd_apply, ↓reduceIte, Nat.reduceEqDiff, hq, x3, x4]
              · simp only [upd_apply]
                (repeat rw [if_neg (by omega)])
                exact hfr j j1 j2 j3
          · rw [if_neg hin] at hg0
            obtain ⟨R, hR⟩ : ∃ R, R = M.getD i default := ⟨_, rfl⟩
            rw [← hR] at hg0 hS hstep
            have hg : (cw n0 q M)[i]? = some (.lst R.1 (R.2.map ivr)) := hg0
            obtain ⟨n, hw, hwn⟩ := words_one R.1 R.2 hS
            have hpl : ∀ (m : Nat) (H : Heap), purify (m + 1) H (.lst R.1 (R.2.map ivr)) = some (.lst R.1 (R.2.map ivr), []) := fun m H => purify_lst (pure_ivr _)
            by_cases h40 : 40 < R.2.length
            · have z4 : ((40 : Int) < (R.2.length : Int)) = True := eq_true (by omega)
              simp (maxSteps := 4000000) only [go_sem, ↓reduceIte, Nat.reduceAdd, Nat.reduceSub, Nat.reduceMul, Nat.reduceEqDiff, reduceCtorEq, Int.reduceAdd, Int.reduceLT, Int.reduceLE, Int.reduceToNat, Int.reduceNeg, Int.reduceSub, ← List.map_take, ← List.map_drop, ne_eq, Nat.reduceLeDiff, Nat.reduceLT, Nat.zero_le, Nat.le_refl, wrap64, wrapu64, wrapu32, ← Int.natCast_add, ← Int.natCast_mul, cast_succ, wrapu32_nat, shr32, reps_wd, map_set_wd, List.length_set, zs_len, z0, z3, hc, hg, hcl, z4, x1, x2, Int.toNat_natCast]
              exact ⟨⟨true, rfl, by simp⟩, hnn, hfr⟩
            · have z4 : ((40 : Int) < (R.2.length : Int)) = False := eq_false (by omega)
              by_cases hn : 4200 < n
              · have z5 : ((4200 : Int) < (n : Int)) = True := eq_true (by omega)
                simp (maxSteps := 4000000) only [go_sem, ↓reduceIte, Nat.reduceAdd, Nat.reduceSub, Nat.reduceMul, Nat.reduceEqDiff, reduceCtorEq, Int.reduceAdd, Int.reduceLT, Int.reduceLE, Int.reduceToNat, Int.reduceNeg, Int.reduceSub, ← List.map_take, ← List.map_drop, ne_eq, Nat.reduceLeDiff, Nat.reduceLT, Nat.zero_le, Nat.le_refl, wrap64, wrapu64, wrapu32, ← Int.natCast_add, ← Int.natCast_mul, cast_succ, wrapu32_nat, shr32, reps_wd, map_set_wd, List.length_set, zs_len, z0, z3, hc, hg, hcl, z4, z5, x1, x2, hpl, hw, refP, elems, List.headD_cons, reps, places, fillAll]
                refine ⟨⟨true, rfl, by simp⟩, by omega, fun j j1 j2 j3 => ?_⟩
                rw [if_neg (by omega), if_neg (by omega)]
                exact hfr j j1 j2 j3
              · have z5 : ((4200 : Int) < (n : Int)) = False := eq_false (by omega)
                have hnr : Narrow R.2 := ⟨by omega, (hwn 4200).1 (by omega)⟩
                simp (maxSteps := 4000000) only [go_sem, ↓reduceIte, Nat.reduceAdd, Nat.reduceSub, Nat.reduceMul, Nat.reduceEqDiff, reduceCtorEq, Int.reduceAdd, Int.reduceLT, Int.reduceLE, Int.reduceToNat, Int.reduceNeg, Int.reduceSub, ← List.map_take, ← List.map_drop, ne_eq, Nat.reduceLeDiff, Nat.reduceLT, Nat.zero_le, Nat.le_refl, wrap64, wrapu64, wrapu32, ← Int.natCast_add, ← Int.natCast_mul, cast_succ, wrapu32_nat, shr32, reps_wd, map_set_wd, List.length_set, zs_len, z0, z3, hc, hg, hcl, z4, z5, x1, x2, hpl, hw, w1, refP, elems, List.headD_cons, reps, places, fillAll]
                rw [← hIQ]
                refine hstep _ _ _ hnr (garb rfl) ?_ (by dsimp only; omega) (by dsimp only; omega) ⟨fz, ?_⟩ fun j j1 j2 j3 => ?_
                · simp only [upd_apply, ↓reduceIte, Nat.reduceEqDiff, hc, x1, x2]
                · simp only [upd_apply, ↓reduceIte, Nat.reduceEqDiff, hq, x3, x4]
                · simp only [upd_apply]
                  rw [if_neg (by omega), if_neg (by omega)]
                  exact hfr j j1 j2 j3
      · have z2 : ((i : Int) < (A.length : Int)) = True := eq_true (by omega)
        have hg := get_lr (A := A) (i := i) (by omega)
        have ht := take_getD (A := A) (i := i) (by omega)
        have w1 : IntKind.i64.wrap ((i + 1 : Nat) : Int) = ((i + 1 : Nat) : Int) := wrap64 (by omega) (by omega)
        have z0 : ((0 : Int) ≤ (i : Int)) = True := eq_true (by omega)
        have x1 : (c = n') = False := eq_false (by omega)
        have x2 : (n' = c) = False := eq_false (by omega)
        have x3 : (c = n' + 1) = False := eq_false (by omega)
        have x4 : (n' + 1 = c) = False := eq_false (by omega)
        have hmem : ((2 * ((B ++ A.take i).length + 1) + 1000) * 24 ≤ 281474976710656) = True := eq_true (by omega)
        have hl2 : (B ++ A.take (i + 1)).length = (B ++ A.take i).length + 1 := by rw [ht, ← List.append_assoc, List.length_append]; rfl
        have hm2 : cw n0 q (B ++ A.take (i + 1)) = cw n0 q (B ++ A.take i) ++ [lr (A.getD i default)] := by rw [ht, ← List.append_assoc]; exact cw_snoc (by rw [List.length_append]; omega)
        have hcl := cw_len n0 q (B ++ A.take i)
        have x5 : (q = n') = False := eq_false (by omega)
        have x6 : (q = n' + 1) = False := eq_false (by omega)
        have x7 : (q = c) = False := eq_false (by omega)
        generalize hM : B ++ A.take i = M at *
        have hml : (A.map lr).length = A.length := List.length_map _
        simp (maxSteps := 4000000) only [go_sem, ↓reduceIte, Nat.reduceAdd, Nat.reduceSub, Nat.reduceMul, Nat.reduceEqDiff, reduceCtorEq, Int.reduceAdd, Int.reduceLT, Int.reduceLE, Int.reduceToNat, Int.reduceNeg, Int.reduceSub, ← List.map_take, ← List.map_drop, ne_eq, Nat.reduceLeDiff, Nat.reduceLT, Nat.zero_le, Nat.le_refl, wrap64, wrapu64, wrapu32, ← Int.natCast_add, ← Int.natCast_mul, cast_succ, wrapu32_nat, shr32, reps_wd, map_set_wd, List.length_set, zs_len, z0, z2, hg, hc, hcl, hml, w1, x1, x2, x3, x4, hmem, flat, reps, srcCells, appendEff, Nat.le_refl, places, fillAll]
        refine ⟨k - 1, by omega, i + 1, n' + 1, ?_, by omega, ?_, by omega, by omega, .inr (by omega), ?_, ?_⟩
        · rw [hl2]; exact garb rfl
        · rw [if_pos rfl, hm2]
        · simp only [x5, x6, x7, if_false]; exact hq
        · intro j j1 j2 j3
          (repeat rw [if_neg (by omega)])
          exact hfr j j1 j2 j3
  obtain ⟨v, h', n', h1, ⟨b, rfl, h2⟩, h3, h4⟩ := key
  exact ⟨b, h', n', h1, h3, h4, h2⟩
end Go.Proofs.YtnpomadbaanpkaaGreat

/- The law LinearHolds: its walk. (Own work of this repo.) -/
namespace Go.Proofs.YtnpomadbaanpkaaGreat
open Vm
set_option maxRecDepth 10000

theorem openK_boolH {Q : Ex → St → Prop} {σ : St} {all os : List Go.Oper} {dst : Option Nat} {x : Option (Res × Heap × Nat)} (P : Bool → Heap → Nat → Prop) (hx : ∃ b H' N', x = some (.ret (.bool b), H', N') ∧ P b H' N') (k : ∀ b H' N', P b H' N' → Rg E all os ⟨put σ.sl dst (.bool b), H', N'⟩ Q) : openK E all os dst Q σ x := by
  obtain ⟨b, H', N', rfl, h1⟩ := hx
  exact k b H' N' h1
/-- Numbers of less than 4000 words are not too long. -/
theorem bits4000 {X : List Raw} (hX : AllV X) (n : Nat) (hn : n < 4000) (h : ∀ t, t < X.length → (X.getD t default).2.2.length ≤ n) (k q : Nat) (hk : k = 3999) (hq : q = 32 * k) : ∀ j, j < X.length → (zg X j).natAbs ≤ 2 ^ q := fun j hj => by
  obtain ⟨_, h2, _⟩ := zv_spec (hX.get hj).1 (hX.get hj).2
  have h4 := h j hj
  have h5 : (dg (zg X j)).length ≤ k := by unfold zg; omega
  have h6 := dg_len.1 h5
  have : BB = 2 ^ 32 := rfl
  rw [this, ← Nat.pow_mul, ← hq] at h6
  exact Nat.le_of_lt h6
theorem dzFit_bits {a b : Nat → Int} {n p q : Nat} (hn : n ≤ 8) (hp : p + q + 3 < 131072) (hA : ∀ j, j < n → (a j).natAbs ≤ 2 ^ p) (hB : ∀ j, j < n → (b j).natAbs ≤ 2 ^ q) : dzFit a b n := by
  constructor
  · intro j hj
    refine len_bits (b := p + q) ?_ (by omega)
    rw [Int.natAbs_mul, Nat.pow_add]
    exact Nat.mul_le_mul (hA j hj) (hB j hj)
  · intro j hj
    refine len_bits (b := p + q + 3) ?_ (by omega)
    refine Nat.le_trans (dz_bound a b (P := 2 ^ p) (Q := 2 ^ q) j fun t ht => ⟨hA t (by omega), hB t (by omega)⟩) ?_
    rw [← Nat.pow_add, Nat.pow_add 2 (p + q) 3, Nat.mul_comm]
    exact Nat.mul_le_mul_left _ (by omega)
section
variable (na : Bool) (A : Mat) (nb : Bool) (B : List Raw) (hA : ShortM A) (hB : Short B) (iA : InM A) (iB : ∀ q ∈ B, InR q.2.2)
include hA hB iA iB
/-- What Holds returns. -/
theorem holds_outcome (nx' : Bool) (X : List Raw) (hX : Short X) (iX : ∀ q ∈ X, InR q.2.2) :
    ∃ (is : Bool) (e : Int), denP E 8 [mraw na A, lraw nb B, lraw nx' X] = some (.ret (.tup [.bool is, .int .i64 e])) ∧
      ((sysB A B && X.all okV) = false → e = 1 ∧ is = false) ∧ (sysB A B = true → X.all okV = true → (X.length ≠ (A.getD 0 default).2.length → e = 2 ∧ is = false) ∧
        (X.length = (A.getD 0 default).2.length → (FitX A (zg X) X.length ∧ e = 0 ∧ is = solB A (zg B) (zg X) A.length) ∨ (¬ FitX A (zg X) X.length ∧ e = 4 ∧ is = false))) := by
  cases h1 : (sysB A B && X.all okV) with
  | false => exact ⟨false, 1, Holds_form na A nb B nx' X hA hB iA iB hX h1, fun _ => ⟨rfl, rfl⟩, fun a b => by rw [a, b] at h1; cases h1⟩
  | true =>
    rw [Bool.and_eq_true] at h1
    by_cases h3 : X.length = (A.getD 0 default).2.length
    · by_cases hf : FitX A (zg X) X.length
      · exact ⟨_, 0, Holds_ok na A nb B nx' X hA hB iA iB hX iX h1.1 h1.2 h3 hf, fun e => (by cases e), fun _ _ => ⟨fun e => absurd h3 e, fun _ => .inl ⟨hf, rfl, rfl⟩⟩⟩
      · exact ⟨false, 4, Holds_size na A nb B nx' X hA hB iA iB hX iX h1.1 h1.2 h3 hf, fun e => (by cases e), fun _ _ => ⟨fun e => absurd h3 e, fun _ => .inr ⟨hf, rfl, rfl⟩⟩⟩
    · exact ⟨false, 2, Holds_arg na A nb B nx' X hA hB iA iB hX h1.1 h1.2 h3, fun e => (by cases e), fun _ _ => ⟨fun _ => ⟨rfl, rfl⟩, fun e => absurd e h3⟩⟩
abbrev RfFit (A : Mat) (B Y : List Raw) : Prop := dzFit (zg Y) (zg B) A.length ∧ ∀ k, k < (A.getD 0 default).2.length → dzFit (zg Y) (fun r => rowz A r k) A.length
/-- What Refutes returns. -/
theorem refutes_outcome (ny : Bool) (Y : List Raw) (hY : Short Y) (iY : ∀ q ∈ Y, InR q.2.2) (m : Raw) (hm : m.2.2.length < 9223372036854775808) (im : InR m.2.2) :
    ∃ (no : Bool) (f : Int), denP E 9 [mraw na A, lraw nb B, lraw ny Y, ivr m] = some (.ret (.tup [.bool no, .int .i64 f])) ∧
      ((sysB A B && Y.all okV && okV m) = false → f = 1 ∧ no = false) ∧ (sysB A B = true → Y.all okV = true → okV m = true → ((Y.length ≠ A.length ∨ m.1 = true) → f = 2 ∧ no = false) ∧
        (Y.length = A.length → m.1 = false → (RfFit A B Y ∧ f = 0 ∧ no = rfB A (zg B) (zg Y) (zv m) (A.getD 0 default).2.length) ∨ (¬ RfFit A B Y ∧ f = 4 ∧ no = false))) := by
  cases h1 : (sysB A B && Y.all okV && okV m) with
  | false => exact ⟨false, 1, Refutes_form na A nb B ny Y hA hB iA iB hY m.1 m.2.1 m.2.2 hm h1, fun _ => ⟨rfl, rfl⟩, fun a b c => by rw [a, b, c] at h1; cases h1⟩
  | true =>
    rw [Bool.and_eq_true, Bool.and_eq_true] at h1
    obtain ⟨m1, m2, m3, m4, m5⟩ := zv_spec im h1.2
    have hng : m.1 = true ↔ zv m < 0 := by rw [← m4]; unfold ng; exact decide_eq_true_iff
    by_cases h3 : Y.length = A.length
    · by_cases h4 : m.1 = true
      · refine ⟨false, 2, ?_, fun e => (by cases e), fun _ _ _ => ⟨fun _ => ⟨rfl, rfl⟩, fun _ e => by rw [h4] at e; cases e⟩⟩
        rw [m1]
        exact Refutes_arg na A nb B ny Y hA hB iA iB hY m.2.1 (zv m) (by omega) h1.1.1 h1.1.2 (.inr (hng.1 h4))
      · have h5 : 0 ≤ zv m := by
          have := mt hng.2 h4
          omega
        obtain ⟨r1, r2⟩ := Refutes_ok na A nb B ny Y hA hB iA iB hY iY m.2.1 (zv m) (by omega) h1.1.1 h1.1.2 h3 h5
        by_cases hf : RfFit A B Y
        · exact ⟨_, 0, by rw [m1]; exact r1 hf, fun e => (by cases e), fun _ _ _ => ⟨fun e => absurd h3 (e.resolve_right h4), fun _ _ => .inl ⟨hf, rfl, rfl⟩⟩⟩
        · exact ⟨false, 4, by rw [m1]; exact r2 hf, fun e => (by cases e), fun _ _ _ => ⟨fun e => absurd h3 (e.resolve_right h4), fun _ _ => .inr ⟨hf, rfl, rfl⟩⟩⟩
    · refine ⟨false, 2, ?_, fun e => (by cases e), fun _ _ _ => ⟨fun _ => ⟨rfl, rfl⟩, fun e => absurd e h3⟩⟩
      rw [m1]
      exact Refutes_arg na A nb B ny Y hA hB iA iB hY m.2.1 (zv m) (by omega) h1.1.1 h1.1.2 (.inl h3)
end
set_option maxHeartbeats 4000000 in
theorem lholds_walk (aw : denP E 7 [] = some (.ret (.bool true))) (na : Bool) (A : Mat) (nb : Bool) (B : List Raw) (nx' : Bool) (X : List Raw) (ny : Bool) (Y : List Raw) (m : Raw) (hA : ShortM A) (hB : Short B) (hX : Short X) (hY : Short Y) (hm : m.2.2.length < 9223372036854775808) (iA : InM A) (iB : ∀ q ∈ B, InR q.2.2) (iX : ∀ q ∈ X, InR q.2.2) (iY : ∀ q ∈ Y, InR q.2.2) (im : InR m.2.2) :
    denP E 3 [mraw na A, lraw nb B, lraw nx' X, lraw ny Y, ivr m] = some (.ret (.bool true)) := by
  refine denP_eq E3 rfl (by simp [AV.pureL, AV.pure, pure_ivr, pure_lr, pure_wd, iv]) ?_
  simp (maxSteps := 4000000) only [go_sem, ↓reduceIte, Nat.reduceAdd, Nat.reduceSub, Nat.reduceMul, Nat.reduceEqDiff, reduceCtorEq, Int.reduceAdd, Int.reduceLT, Int.reduceLE, Int.reduceToNat, Int.reduceNeg, Int.reduceSub, ← List.map_take, ← List.map_drop, ne_eq, Nat.reduceLeDiff, Nat.reduceLT, Nat.zero_le, Nat.le_refl, wrap64, wrapu64, wrapu32, ← Int.natCast_add, ← Int.natCast_mul, cast_succ, wrapu32_nat, shr32, reps_wd, map_set_wd, List.length_set, zs_len, Tryz.f3, reps, places, fillAll]
  refine openK_boolH (fun b H' N' => H' 0 = some ⟨[.bool m.1, .lst m.2.1 (m.2.2.map wd)], true, 2, false⟩ ∧ 1 ≤ N') ?_ ?_
  · have hr : ∀ H0 : Heap, H0 0 = some ⟨[.bool m.1, .lst m.2.1 (m.2.2.map wd)], true, 2, false⟩ → H0 1 = some ⟨fr [m], true, 2, false⟩ → H0 2 = some ⟨cw 3 1 [(nb, B), (nx', X), (ny, Y), (false, [m])], false, 1, false⟩ → ∃ b H' N', denO E 6 [mraw na A, .ref 2 0 4] H0 3 = some (.ret (.bool b), H', N') ∧ H' 0 = some ⟨[.bool m.1, .lst m.2.1 (m.2.2.map wd)], true, 2, false⟩ ∧ 1 ≤ N' := fun H0 h0 h1 h2 => by
      obtain ⟨b, h', n', q1, q2, q3, q4⟩ := wide_open2 na A hA 2 [(nb, B), (nx', X), (ny, Y), (false, [m])] ⟨by show 4 < _; decide, fun r hr => by
        simp only [List.mem_cons, List.not_mem_nil, or_false] at hr
        rcases hr with rfl | rfl | rfl | rfl
        · exact hB
        · exact hX
        · exact hY
        · exact ⟨by show 1 < _; decide, fun q hq => by simp only [List.mem_cons, List.not_mem_nil, or_false] at hq; rw [hq]; exact hm⟩⟩ (by show 4 ≤ 10; decide) 1 3 m (by show 3 < 4; decide) rfl H0 3 (by decide) (by decide) (by decide) h2 h1
      exact ⟨b, h', n', q1, (q3 0 (by decide) (by decide) (by decide)).trans h0, by omega⟩
    exact hr _ (by simp only [upd_apply, ↓reduceIte, Nat.reduceEqDiff, if_pos]) (by simp only [upd_apply, ↓reduceIte, Nat.reduceEqDiff, if_pos]; rfl) (by simp only [upd_apply, ↓reduceIte, Nat.reduceEqDiff, if_pos]; rfl)
  intro bw H N ⟨e0, hN⟩
  cases bw with
  | true => simp (maxSteps := 4000000) only [go_sem, ↓reduceIte, Nat.reduceAdd, Nat.reduceSub, Nat.reduceMul, Nat.reduceEqDiff, reduceCtorEq, Int.reduceAdd, Int.reduceLT, Int.reduceLE, Int.reduceToNat, Int.reduceNeg, Int.reduceSub, ← List.map_take, ← List.map_drop, ne_eq, Nat.reduceLeDiff, Nat.reduceLT, Nat.zero_le, Nat.le_refl, wrap64, wrapu64, wrapu32, ← Int.natCast_add, ← Int.natCast_mul, cast_succ, wrapu32_nat, shr32, reps_wd, map_set_wd, List.length_set, zs_len, aw]
  | false =>
    obtain ⟨is, e, ho, ho1, ho2⟩ := holds_outcome na A nb B hA hB iA iB nx' X hX iX
    obtain ⟨no, f, hr, hr1, hr2⟩ := refutes_outcome na A nb B hA hB iA iB ny Y hY iY m hm im
    have hiv : ivr m = .agg [.bool m.1, .lst m.2.1 (m.2.2.map wd)] := rfl
    rw [hiv] at hr
    have s1 := refSystem na A nb B hA hB iA iB
    have v1 := refAll nx' X hX
    have v2 := refAll ny Y hY
    have v3 := rValidAny m.1 m.2.1 m.2.2 hm
    have hv3 : rvalidW m.1 m.2.2 = okV m := rfl
    rw [hv3] at v3
    simp only [iv] at v3
    obtain ⟨sy, hsy⟩ : ∃ s, s = sysB A B := ⟨_, rfl⟩
    rw [← hsy] at s1 ho1 ho2 hr1 hr2
    obtain ⟨QQ, hQQ⟩ : ∃ QQ : Ex → St → Prop, QQ = fun ex τ => ex = .norm ∧ (∃ g : Nat → AV, τ.sl = [mraw na A, lraw nb B, g 2, lraw ny Y, g 4, g 5, g 6, g 7, g 8, .ptr 0 0, g 10, g 11, g 12, .bool no, .int .i64 f, .bool sy, g 16, g 17, g 18, g 19, g 20, g 21, g 22, g 23, g 24, g 25, g 26, g 27, g 28, g 29, g 30, g 31, g 32, g 33, g 34, g 35, g 36, g 37, g 38, g 39, g 40, g 41, g 42, g 43, g 44, g 45, g 46, g 47, g 48, g 49, g 50, g 51, g 52, g 53, g 54, g 55, g 56, g 57, g 58, g 59, g 60, g 61, g 62, g 63, g 64, g 65, g 66, g 67, g 68, g 69, g 70, g 71, g 72, g 73, g 74, g 75, g 76, g 77, g 78, g 79, g 80, g 81, g 82, g 83, g 84, g 85, g 86, g 87, g 88, g 89, g 90, g 91, g 92, g 93, g 94, g 95, g 96, g 97, g 98, g 99, g 100, g 101, g 102, g 103, g 104, g 105, g 106, g 107, g 108, g 109, g 110, g 111, g 112, g 113, g 114, g 115, g 116, g 117, g 118, g 119, g 120, g 121, g 122, g 123, g 124, g 125, g 126, g 127, g 128, g 129, g 130, g 131, g 132, g 133, g 134, g 135, g 136, g 137, g 138, g 139, g 140, g 141, g 142, g 143, g 144, g 145, g 146, g 147, g 148, g 149, g 150, g 151, g 152, g 153, g 154, g 155, g 156, g 157, g 158, g 159, g 160, g 161, g 162, g 163, g 164, g 165, g 166, g 167, g 168, g 169, g 170, g 171, g 172, g 173, g 174, g 175, g 176, g 177, g 178, g 179]) ∧ τ.h 0 = some ⟨[.bool m.1, .lst m.2.1 (m.2.2.map wd)], true, 2, false⟩ ∧ 1 ≤ τ.nx := ⟨_, rfl⟩
    simp (maxSteps := 4000000) only [go_sem, ↓reduceIte, Nat.reduceAdd, Nat.reduceSub, Nat.reduceMul, Nat.reduceEqDiff, reduceCtorEq, Int.reduceAdd, Int.reduceLT, Int.reduceLE, Int.reduceToNat, Int.reduceNeg, Int.reduceSub, ← List.map_take, ← List.map_drop, ne_eq, Nat.reduceLeDiff, Nat.reduceLT, Nat.zero_le, Nat.le_refl, wrap64, wrapu64, wrapu32, ← Int.natCast_add, ← Int.natCast_mul, cast_succ, wrapu32_nat, shr32, reps_wd, map_set_wd, List.length_set, zs_len, ho, hr, s1, e0, purify_lraw, purify_mraw, places, fillAll]
    refine wantK_mono (Q := thenK E _ (blockK 0 QQ)) (thenK_mono (blockK_mono ?_)) ?_
    rotate_left
    · clear hr hr1 hr2 ho aw v2 v3
      cases hX1 : X.all okV with
      | false =>
        obtain ⟨rfl, rfl⟩ := ho1 (by rw [hX1, Bool.and_false])
        rw [hX1] at v1
        cases sy with
        | false =>
          simp (maxSteps := 4000000) only [go_sem, ↓reduceIte, Nat.reduceAdd, Nat.reduceSub, Nat.reduceMul, Nat.reduceEqDiff, reduceCtorEq, Int.reduceAdd, Int.reduceLT, Int.reduceLE, Int.reduceToNat, Int.reduceNeg, Int.reduceSub, ← List.map_take, ← List.map_drop, ne_eq, Nat.reduceLeDiff, Nat.reduceLT, Nat.zero_le, Nat.le_refl, wrap64, wrapu64, wrapu32, ← Int.natCast_add, ← Int.natCast_mul, cast_succ, wrapu32_nat, shr32, reps_wd, map_set_wd, List.length_set, zs_len, v1, Int.reduceEq, purify_lraw, purify_mraw, places, fillAll]
          rw [hQQ]
          refine ⟨rfl, ?_, e0, hN⟩
          refine garb ?_
          rfl
        | true =>
          simp (maxSteps := 4000000) only [go_sem, ↓reduceIte, Nat.reduceAdd, Nat.reduceSub, Nat.reduceMul, Nat.reduceEqDiff, reduceCtorEq, Int.reduceAdd, Int.reduceLT, Int.reduceLE, Int.reduceToNat, Int.reduceNeg, Int.reduceSub, ← List.map_take, ← List.map_drop, ne_eq, Nat.reduceLeDiff, Nat.reduceLT, Nat.zero_le, Nat.le_refl, wrap64, wrapu64, wrapu32, ← Int.natCast_add, ← Int.natCast_mul, cast_succ, wrapu32_nat, shr32, reps_wd, map_set_wd, List.length_set, zs_len, v1, Int.reduceEq, purify_lraw, purify_mraw, places, fillAll]
          rw [hQQ]
          refine ⟨rfl, ?_, e0, hN⟩
          refine garb ?_
          rfl
      | true =>
        rw [hX1] at v1
        cases sy with
        | false =>
          obtain ⟨rfl, rfl⟩ := ho1 rfl
          simp (maxSteps := 4000000) only [go_sem, ↓reduceIte, Nat.reduceAdd, Nat.reduceSub, Nat.reduceMul, Nat.reduceEqDiff, reduceCtorEq, Int.reduceAdd, Int.reduceLT, Int.reduceLE, Int.reduceToNat, Int.reduceNeg, Int.reduceSub, ← List.map_take, ← List.map_drop, ne_eq, Nat.reduceLeDiff, Nat.reduceLT, Nat.zero_le, Nat.le_refl, wrap64, wrapu64, wrapu32, ← Int.natCast_add, ← Int.natCast_mul, cast_succ, wrapu32_nat, shr32, reps_wd, map_set_wd, List.length_set, zs_len, v1, Int.reduceEq, purify_lraw, purify_mraw, places, fillAll]
          rw [hQQ]
          refine ⟨rfl, ?_, e0, hN⟩
          refine garb ?_
          rfl
        | true =>
          have hok := sys_ok iA iB hsy.symm
          have hrows := hok.rows
          have hg0 := get_lr (A := A) (i := 0) (by omega)
          have z00 : ((0 : Int) < (A.length : Int)) = True := eq_true (by omega)
          have hml : (A.map lr).length = A.length := List.length_map _
          obtain ⟨w, hw0⟩ : ∃ w, w = (A.getD 0 default).2.length := ⟨_, rfl⟩
          rw [← hw0] at hok ho2
          have hml0 : ((A.getD 0 default).2.map ivr).length = w := by rw [List.length_map, hw0]
          have hwi : ((A.getD 0 default).2.length : Int) = (w : Int) := by rw [hw0]
          have vX : AllV X := fun q hq => ⟨iX q hq, List.all_eq_true.1 hX1 q hq⟩
          obtain ⟨hb1, hb2⟩ := ho2 rfl hX1
          by_cases hxl : X.length = w
          · have z1 : ((X.length : Int) = (w : Int)) = True := eq_true (by omega)
            rcases hb2 hxl with ⟨hf, rfl, rfl⟩ | ⟨hf, rfl, rfl⟩
            · have hrxl : ∀ i, i < A.length → (dg (rx A (zg X) i)).length ≤ 4096 := fun i hi => by
                have := (hf i hi).2 w (by omega)
                unfold rx
                rw [(hok.mat i hi).2]
                exact this
              have t1 := rSolution_spec na A nb B nx' X w (fun i hi => ⟨(hok.mat i hi).1.numL, (hok.mat i hi).2⟩) (by omega) (by have := hok.cols; omega) vX.numL hxl (by omega) hok.vB.numL hok.right (fun i hi => by have := hrxl i hi; omega)
              have t2 := rTimes_spec na A nx' X (fun i hi => ⟨(hok.mat i hi).1.numL, by rw [(hok.mat i hi).2, hxl]; exact Nat.le_refl _, by rw [(hok.mat i hi).2]; have := hok.cols; omega⟩) vX.numL (by omega)
              have t3 := due_spec (decide (A.length = 0)) (TimesL A (zg X) A.length) (TimesL_num fun i hi => by have := hrxl i hi; omega) (by rw [TimesL_len]; omega) (fun i hi => by rw [TimesL_len] at hi; rw [TimesL_zg hi]; exact hrxl i hi)
              generalize solB A (zg B) (zg X) A.length = s at *
              generalize TimesL A (zg X) A.length = T at *
              generalize decide (A.length = 0) = fT at *
              clear hf hb1 hb2 ho1 ho2 hrxl
              cases s with
              | false =>
                simp (maxSteps := 4000000) only [go_sem, ↓reduceIte, Nat.reduceAdd, Nat.reduceSub, Nat.reduceMul, Nat.reduceEqDiff, reduceCtorEq, Int.reduceAdd, Int.reduceLT, Int.reduceLE, Int.reduceToNat, Int.reduceNeg, Int.reduceSub, ← List.map_take, ← List.map_drop, ne_eq, Nat.reduceLeDiff, Nat.reduceLT, Nat.zero_le, Nat.le_refl, wrap64, wrapu64, wrapu32, ← Int.natCast_add, ← Int.natCast_mul, cast_succ, wrapu32_nat, shr32, reps_wd, map_set_wd, List.length_set, zs_len, v1, hg0, z00, hml, hml0, hwi, z1, t1, t2, t3, Int.reduceEq, Int.toNat_zero, purify_lraw, purify_mraw, places, fillAll]
                rw [hQQ]
                refine ⟨rfl, ?_, e0, hN⟩
                refine garb ?_
                rfl
              | true =>
                simp (maxSteps := 4000000) only [go_sem, ↓reduceIte, Nat.reduceAdd, Nat.reduceSub, Nat.reduceMul, Nat.reduceEqDiff, reduceCtorEq, Int.reduceAdd, Int.reduceLT, Int.reduceLE, Int.reduceToNat, Int.reduceNeg, Int.reduceSub, ← List.map_take, ← List.map_drop, ne_eq, Nat.reduceLeDiff, Nat.reduceLT, Nat.zero_le, Nat.le_refl, wrap64, wrapu64, wrapu32, ← Int.natCast_add, ← Int.natCast_mul, cast_succ, wrapu32_nat, shr32, reps_wd, map_set_wd, List.length_set, zs_len, v1, hg0, z00, hml, hml0, hwi, z1, t1, t2, t3, Int.reduceEq, Int.toNat_zero, purify_lraw, purify_mraw, places, fillAll]
                rw [hQQ]
                refine ⟨rfl, ?_, e0, hN⟩
                refine garb ?_
                rfl
            · obtain ⟨nw, hwd, hwn⟩ := words_one nx' X hX
              have hnw : ¬ nw < 4000 := fun hlt => by
                obtain ⟨k, hk⟩ : ∃ k : Nat, k = 3999 := ⟨_, rfl⟩
                obtain ⟨q, hq⟩ : ∃ q : Nat, q = 32 * k := ⟨_, rfl⟩
                exact hf (fit_bits (p := 200) (q := q) (by have := hok.cols; omega) (by omega) (by rw [hxl]; exact hok.bA) (bits4000 vX nw hlt ((hwn nw).1 (Nat.le_refl _)) k q hk hq))
              have zw : ((nw : Int) < 4000) = False := eq_false (by omega)
              clear hf hb1 hb2 ho1 ho2 hwn
              simp (maxSteps := 4000000) only [go_sem, ↓reduceIte, Nat.reduceAdd, Nat.reduceSub, Nat.reduceMul, Nat.reduceEqDiff, reduceCtorEq, Int.reduceAdd, Int.reduceLT, Int.reduceLE, Int.reduceToNat, Int.reduceNeg, Int.reduceSub, ← List.map_take, ← List.map_drop, ne_eq, Nat.reduceLeDiff, Nat.reduceLT, Nat.zero_le, Nat.le_refl, wrap64, wrapu64, wrapu32, ← Int.natCast_add, ← Int.natCast_mul, cast_succ, wrapu32_nat, shr32, reps_wd, map_set_wd, List.length_set, zs_len, v1, hg0, z00, hml, hml0, hwi, z1, zw, hwd, Int.reduceEq, Int.toNat_zero, purify_lraw, purify_mraw, refP, elems, List.headD_cons, reps, places, fillAll]
              rw [hQQ]
              refine ⟨rfl, ?_, ?_, ?_⟩
              · refine garb ?_
                rfl
              · have x0 : (0 = N) = False := eq_false (by omega)
                simp only [upd_apply, ↓reduceIte, Nat.reduceEqDiff, e0, x0]
              · dsimp only; omega
          · have z1 : ((X.length : Int) = (w : Int)) = False := eq_false (by omega)
            obtain ⟨rfl, rfl⟩ := hb1 hxl
            clear hb1 hb2 ho1 ho2
            simp (maxSteps := 4000000) only [go_sem, ↓reduceIte, Nat.reduceAdd, Nat.reduceSub, Nat.reduceMul, Nat.reduceEqDiff, reduceCtorEq, Int.reduceAdd, Int.reduceLT, Int.reduceLE, Int.reduceToNat, Int.reduceNeg, Int.reduceSub, ← List.map_take, ← List.map_drop, ne_eq, Nat.reduceLeDiff, Nat.reduceLT, Nat.zero_le, Nat.le_refl, wrap64, wrapu64, wrapu32, ← Int.natCast_add, ← Int.natCast_mul, cast_succ, wrapu32_nat, shr32, reps_wd, map_set_wd, List.length_set, zs_len, v1, hg0, z00, hml, hml0, hwi, z1, Int.reduceEq, Int.toNat_zero, purify_lraw, purify_mraw, places, fillAll]
            rw [hQQ]
            refine ⟨rfl, ?_, e0, hN⟩
            refine garb ?_
            rfl
    rw [hQQ]
    clear hQQ QQ ho ho1 ho2 v1 s1
    rintro ex ⟨sl, H2, N2⟩ ⟨rfl, ⟨g, rfl⟩, e0, hN⟩
    dsimp only at e0 hN
    clear hr
    cases hY1 : Y.all okV with
    | false =>
      rw [hY1] at v2
      obtain ⟨rfl, rfl⟩ := hr1 (by rw [hY1, Bool.and_false, Bool.false_and])
      cases sy <;> (simp (maxSteps := 4000000) only [go_sem, ↓reduceIte, Nat.reduceAdd, Nat.reduceSub, Nat.reduceMul, Nat.reduceEqDiff, reduceCtorEq, Int.reduceAdd, Int.reduceLT, Int.reduceLE, Int.reduceToNat, Int.reduceNeg, Int.reduceSub, ← List.map_take, ← List.map_drop, ne_eq, Nat.reduceLeDiff, Nat.reduceLT, Nat.zero_le, Nat.le_refl, wrap64, wrapu64, wrapu32, ← Int.natCast_add, ← Int.natCast_mul, cast_succ, wrapu32_nat, shr32, reps_wd, map_set_wd, List.length_set, zs_len, v2, v3, aw, e0, Int.reduceEq, purify_lraw, purify_mraw, places, fillAll])
    | true =>
      rw [hY1] at v2
      cases hm1 : okV m with
      | false =>
        rw [hm1] at v3
        obtain ⟨rfl, rfl⟩ := hr1 (by rw [hm1, Bool.and_false])
        cases sy <;> (simp (maxSteps := 4000000) only [go_sem, ↓reduceIte, Nat.reduceAdd, Nat.reduceSub, Nat.reduceMul, Nat.reduceEqDiff, reduceCtorEq, Int.reduceAdd, Int.reduceLT, Int.reduceLE, Int.reduceToNat, Int.reduceNeg, Int.reduceSub, ← List.map_take, ← List.map_drop, ne_eq, Nat.reduceLeDiff, Nat.reduceLT, Nat.zero_le, Nat.le_refl, wrap64, wrapu64, wrapu32, ← Int.natCast_add, ← Int.natCast_mul, cast_succ, wrapu32_nat, shr32, reps_wd, map_set_wd, List.length_set, zs_len, v2, v3, aw, e0, Int.reduceEq, purify_lraw, purify_mraw, places, fillAll])
      | true =>
        rw [hm1] at v3
        cases sy with
        | false =>
          obtain ⟨rfl, rfl⟩ := hr1 rfl
          simp (maxSteps := 4000000) only [go_sem, ↓reduceIte, Nat.reduceAdd, Nat.reduceSub, Nat.reduceMul, Nat.reduceEqDiff, reduceCtorEq, Int.reduceAdd, Int.reduceLT, Int.reduceLE, Int.reduceToNat, Int.reduceNeg, Int.reduceSub, ← List.map_take, ← List.map_drop, ne_eq, Nat.reduceLeDiff, Nat.reduceLT, Nat.zero_le, Nat.le_refl, wrap64, wrapu64, wrapu32, ← Int.natCast_add, ← Int.natCast_mul, cast_succ, wrapu32_nat, shr32, reps_wd, map_set_wd, List.length_set, zs_len, v2, v3, aw, e0, Int.reduceEq, purify_lraw, purify_mraw, places, fillAll]
        | true =>
          have hok := sys_ok iA iB hsy.symm
          have hrows := hok.rows
          have hg0 := get_lr (A := A) (i := 0) (by omega)
          have z00 : ((0 : Int) < (A.length : Int)) = True := eq_true (by omega)
          have hml : (A.map lr).length = A.length := List.length_map _
          have hmly : (Y.map ivr).length = Y.length := List.length_map _
          obtain ⟨w, hw0⟩ : ∃ w, w = (A.getD 0 default).2.length := ⟨_, rfl⟩
          obtain ⟨hc1, hc2⟩ := hr2 rfl hY1 hm1
          clear hr2 hr1
          rw [← hw0] at hok
          have hml0 : ((A.getD 0 default).2.map ivr).length = w := by rw [List.length_map, hw0]
          have hwi : ((A.getD 0 default).2.length : Int) = (w : Int) := by rw [hw0]
          have vY : AllV Y := fun q hq => ⟨iY q hq, List.all_eq_true.1 hY1 q hq⟩
          obtain ⟨m1, m2, m3, m4, m5⟩ := zv_spec im hm1
          by_cases hyl : Y.length = A.length
          · have z1 : ((Y.length : Int) = (A.length : Int)) = True := eq_true (by omega)
            cases hneg : m.1 with
            | true =>
              obtain ⟨rfl, rfl⟩ := hc1 (.inr hneg)
              rw [hneg] at e0 v3
              clear hc2 hc1
              simp (maxSteps := 4000000) only [go_sem, ↓reduceIte, Nat.reduceAdd, Nat.reduceSub, Nat.reduceMul, Nat.reduceEqDiff, reduceCtorEq, Int.reduceAdd, Int.reduceLT, Int.reduceLE, Int.reduceToNat, Int.reduceNeg, Int.reduceSub, ← List.map_take, ← List.map_drop, ne_eq, Nat.reduceLeDiff, Nat.reduceLT, Nat.zero_le, Nat.le_refl, wrap64, wrapu64, wrapu32, ← Int.natCast_add, ← Int.natCast_mul, cast_succ, wrapu32_nat, shr32, reps_wd, map_set_wd, List.length_set, zs_len, v2, v3, aw, e0, z1, hml, hmly, Int.reduceEq, purify_lraw, purify_mraw, places, fillAll]
            | false =>
              rcases hc2 hyl hneg with ⟨hf, rfl, rfl⟩ | ⟨hf, rfl, rfl⟩
              · obtain ⟨hf1, hf2⟩ := hf
                rw [← hw0] at hf2 ⊢
                have t1 := rTurned_spec na A w hok.mat hok.rows.1 (by omega) hok.cols.1 (by have := hok.cols; omega)
                have t2 := rTimes_spec false (TurnM A w) ny Y (fun i hi => by rw [TurnM_len] at hi; rw [TurnM_get hi]; exact ⟨(colR_v hok.mat hi).numL, by rw [colR_len]; omega, by rw [colR_len]; omega⟩) vY.numL (by rw [TurnM_len]; have := hok.cols; omega)
                rw [TurnM_len] at t2
                have hrx : ∀ k, k < w → (dg (rx (TurnM A w) (zg Y) k)).length ≤ 4096 := fun k hk => by rw [rx_turn hk]; exact (hf2 k hk).2 _ (Nat.le_refl _)
                have t3 := due_spec (decide (w = 0)) (TimesL (TurnM A w) (zg Y) w) (TimesL_num fun i hi => by have := hrx i hi; omega) (by rw [TimesL_len]; have := hok.cols; omega) (fun i hi => by rw [TimesL_len] at hi; rw [TimesL_zg hi]; exact hrx i hi)
                have d1 := rDot_spec ny Y nb B vY.numL hok.vB.numL (by have := hok.right; omega) (by omega)
                rw [hyl] at d1
                have hld := hf1.2 _ (Nat.le_refl _)
                have rr := rRefutes_spec na A nb B ny Y w m.2.1 (zv m) hok.mat hok.rows.1 (by omega) hok.cols.1 (by have := hok.cols; omega) hok.vB hok.right vY hyl (by omega)
                simp only [I, m4, m5] at rr
                rw [hneg] at rr e0 v3
                simp only [RM] at d1
                generalize dz (zg Y) (zg B) A.length = z at *
                generalize decide (z = 0) = fd at *
                have t4 : denP E 14 [.lst false [.agg [.bool (ng z), .lst fd ((dg z).map wd)]]] = some (.ret (.bool false)) := due_spec false [rz (fd, z)] (fun q hq => by
                  simp only [List.mem_cons, List.not_mem_nil, or_false] at hq
                  rw [hq]
                  exact ⟨num_rz _, by show (dg z).length ≤ _; omega⟩) (by show 1 ≤ 1000; decide) (fun i hi => by
                  obtain rfl : i = 0 := by simpa using hi
                  show (dg (zv (rz (fd, z)))).length ≤ 4096
                  rw [zv_rz]
                  exact hld)
                generalize TimesL (TurnM A w) (zg Y) w = T at *
                generalize TurnM A w = TM at *
                generalize decide (w = 0) = fT at *
                generalize rfB A (zg B) (zg Y) (zv m) w = res at *
                clear hf1 hf2 hc1 hc2 hrx hld
                have x0 : (0 = N2) = False := eq_false (by omega)
                cases res with
                | false => simp (maxSteps := 4000000) only [go_sem, ↓reduceIte, Nat.reduceAdd, Nat.reduceSub, Nat.reduceMul, Nat.reduceEqDiff, reduceCtorEq, Int.reduceAdd, Int.reduceLT, Int.reduceLE, Int.reduceToNat, Int.reduceNeg, Int.reduceSub, ← List.map_take, ← List.map_drop, ne_eq, Nat.reduceLeDiff, Nat.reduceLT, Nat.zero_le, Nat.le_refl, wrap64, wrapu64, wrapu32, ← Int.natCast_add, ← Int.natCast_mul, cast_succ, wrapu32_nat, shr32, reps_wd, map_set_wd, List.length_set, zs_len, v2, v3, aw, e0, z1, hml, hmly, hg0, z00, hml0, hwi, t1, t2, t3, d1, t4, rr, x0, Int.reduceEq, Int.toNat_zero, purify_lraw, purify_mraw, refP, elems, List.headD_cons, reps, places, fillAll]
                | true => simp (maxSteps := 4000000) only [go_sem, ↓reduceIte, Nat.reduceAdd, Nat.reduceSub, Nat.reduceMul, Nat.reduceEqDiff, reduceCtorEq, Int.reduceAdd, Int.reduceLT, Int.reduceLE, Int.reduceToNat, Int.reduceNeg, Int.reduceSub, ← List.map_take, ← List.map_drop, ne_eq, Nat.reduceLeDiff, Nat.reduceLT, Nat.zero_le, Nat.le_refl, wrap64, wrapu64, wrapu32, ← Int.natCast_add, ← Int.natCast_mul, cast_succ, wrapu32_nat, shr32, reps_wd, map_set_wd, List.length_set, zs_len, v2, v3, aw, e0, z1, hml, hmly, hg0, z00, hml0, hwi, t1, t2, t3, d1, t4, rr, x0, Int.reduceEq, Int.toNat_zero, purify_lraw, purify_mraw, refP, elems, List.headD_cons, reps, places, fillAll]
              · obtain ⟨nw, hwd, hwn⟩ := words_one ny Y hY
                have hnw : ¬ nw < 4000 := fun hlt => by
                  obtain ⟨k, hk⟩ : ∃ k : Nat, k = 3999 := ⟨_, rfl⟩
                  obtain ⟨q, hq⟩ : ∃ q : Nat, q = 32 * k := ⟨_, rfl⟩
                  have hb := bits4000 vY nw hlt ((hwn nw).1 (Nat.le_refl _)) k q hk hq
                  refine hf ⟨dzFit_bits (p := q) (q := 200) (by omega) (by omega) (fun j hj => hb j (by omega)) hok.bB, fun k hk => dzFit_bits (p := q) (q := 200) (by omega) (by omega) (fun j hj => hb j (by omega)) fun j hj => hok.bA j hj k (by omega)⟩
                have zw : (4000 ≤ (nw : Int)) = True := eq_true (by omega)
                clear hf hc1 hc2 hwn
                rw [hneg] at e0 v3
                simp (maxSteps := 4000000) only [go_sem, ↓reduceIte, Nat.reduceAdd, Nat.reduceSub, Nat.reduceMul, Nat.reduceEqDiff, reduceCtorEq, Int.reduceAdd, Int.reduceLT, Int.reduceLE, Int.reduceToNat, Int.reduceNeg, Int.reduceSub, ← List.map_take, ← List.map_drop, ne_eq, Nat.reduceLeDiff, Nat.reduceLT, Nat.zero_le, Nat.le_refl, wrap64, wrapu64, wrapu32, ← Int.natCast_add, ← Int.natCast_mul, cast_succ, wrapu32_nat, shr32, reps_wd, map_set_wd, List.length_set, zs_len, v2, v3, aw, e0, z1, hml, hmly, zw, hwd, Int.reduceEq, purify_lraw, purify_mraw, refP, elems, List.headD_cons, reps, places, fillAll]
          · have z1 : ((Y.length : Int) = (A.length : Int)) = False := eq_false (by omega)
            obtain ⟨rfl, rfl⟩ := hc1 (.inl hyl)
            clear hc2 hc1
            simp (maxSteps := 4000000) only [go_sem, ↓reduceIte, Nat.reduceAdd, Nat.reduceSub, Nat.reduceMul, Nat.reduceEqDiff, reduceCtorEq, Int.reduceAdd, Int.reduceLT, Int.reduceLE, Int.reduceToNat, Int.reduceNeg, Int.reduceSub, ← List.map_take, ← List.map_drop, ne_eq, Nat.reduceLeDiff, Nat.reduceLT, Nat.zero_le, Nat.le_refl, wrap64, wrapu64, wrapu32, ← Int.natCast_add, ← Int.natCast_mul, cast_succ, wrapu32_nat, shr32, reps_wd, map_set_wd, List.length_set, zs_len, v2, v3, aw, e0, z1, hml, hmly, Int.reduceEq, purify_lraw, purify_mraw, places, fillAll]
end Go.Proofs.YtnpomadbaanpkaaGreat
