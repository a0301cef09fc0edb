/- Part 9 of a proof about this seat: All1, Rfd, Sma, All2, All3. (Own work of this repo.) -/
import Derived.Test.YtnpomadbaanpkaaZLinearAll8
set_option linter.unusedVariables false
set_option linter.unusedSimpArgs false
/- Walks: lists of a length, and whether a lattice is well formed. (Own work of this repo.) -/
namespace Go.Proofs.Ytnpomadbaanpkaa
open Vm
set_option maxRecDepth 10000

/-- Numbers put into a list, one behind the other. -/
def puts (Z : List Raw) (i : Nat) : List Raw → List Raw
  | [] => Z
  | q :: M => puts (Z.set i q) (i + 1) M
theorem puts_len : ∀ (M : List Raw) (Z : List Raw) (i : Nat), (puts Z i M).length = Z.length
  | [], _, _ => rfl
  | q :: M, Z, i => by show (puts (Z.set i q) (i + 1) M).length = _; rw [puts_len M, List.length_set]
theorem setCells_app : ∀ (xs : List AV) (l : List AV) (o : Nat) (ys : List AV), setCells l o (xs ++ ys) = setCells (setCells l o xs) (o + xs.length) ys
  | [], l, o, ys => by simp [setCells_nil]
  | x :: xs, l, o, ys => by
    rw [List.cons_append, setCells_cons, setCells_cons, setCells_app xs, List.length_cons, Nat.add_assoc, Nat.add_comm 1]
theorem puts_cells : ∀ (M Z : List Raw) (i : Nat), i + M.length ≤ Z.length → setCells (fr Z) (i * 2) (fr M) = fr (puts Z i M)
  | [], Z, i, _ => by simp [fr, setCells_nil, puts]
  | q :: M, Z, i, h => by
    have h' : i + M.length + 1 ≤ Z.length := by simpa [Nat.add_assoc] using h
    have e : fr (q :: M) = [AV.bool q.1, AV.lst q.2.1 (q.2.2.map wd)] ++ fr M := rfl
    rw [e, setCells_app, fr_set Z i q (by omega), show i * 2 + [AV.bool q.1, AV.lst q.2.1 (q.2.2.map wd)].length = (i + 1) * 2 by simp; omega, puts_cells M (Z.set i q) (i + 1) (by rw [List.length_set]; omega)]
    rfl
theorem puts_get : ∀ (M Z : List Raw) (i j : Nat), i + M.length ≤ Z.length → (puts Z i M).getD j default = if i ≤ j ∧ j < i + M.length then M.getD (j - i) default else Z.getD j default
  | [], Z, i, j, _ => by rw [if_neg (by rintro ⟨h1, h2⟩; rw [List.length_nil] at h2; omega)]; rfl
  | q :: M, Z, i, j, h => by
    have h' : i + M.length + 1 ≤ Z.length := by simpa [Nat.add_assoc] using h
    show (puts (Z.set i q) (i + 1) M).getD j default = _
    rw [puts_get M (Z.set i q) (i + 1) j (by rw [List.length_set]; omega)]
    by_cases e : j = i
    · subst e
      rw [if_neg (by omega), if_pos (by simp), getD_set_eq (by omega), Nat.sub_self]; rfl
    · by_cases e2 : i + 1 ≤ j ∧ j < i + 1 + M.length
      · rw [if_pos e2, if_pos (by simp; omega), show j - i = (j - (i + 1)) + 1 by omega]; rfl
      · rw [if_neg e2, if_neg (by simp; omega), getD_set_ne (by omega)]
/-- The first n numbers, or zeros behind them. -/
def listR (L : List Raw) (n : Nat) : List Raw := puts (rl n fun _ => (true, 0)) 0 (L.take n)
theorem listR_len (L : List Raw) (n : Nat) : (listR L n).length = n := by unfold listR; rw [puts_len, rl_len]
theorem listR_get {L : List Raw} {n j : Nat} (hj : j < n) : (listR L n).getD j default = if j < L.length then L.getD j default else rz (true, 0) := by
  unfold listR
  rw [puts_get _ _ _ _ (by rw [rl_len, List.length_take]; omega), List.length_take]
  by_cases h : j < L.length
  · rw [if_pos (by omega), if_pos h, Nat.sub_zero, List.getD_eq_getElem?_getD, List.getElem?_take_of_lt hj, ← List.getD_eq_getElem?_getD]
  · rw [if_neg (by omega), if_neg h, rl_get hj]
theorem listR_mem {L : List Raw} {n : Nat} {q : Raw} (h : q ∈ listR L n) : q ∈ L ∨ q = rz (true, 0) := by
  obtain ⟨j, hj, rfl⟩ := List.getElem_of_mem h
  have hj' : j < n := by rw [← listR_len L n]; exact hj
  have e := listR_get (L := L) hj'
  rw [List.getD_eq_getElem?_getD, List.getElem?_eq_getElem hj] at e
  have e : (listR L n)[j] = _ := e
  rw [e]
  by_cases h2 : j < L.length
  · rw [if_pos h2, List.getD_eq_getElem?_getD, List.getElem?_eq_getElem h2]
    exact .inl (List.getElem_mem _)
  · rw [if_neg h2]; exact .inr rfl
theorem list_spec (nl : Bool) (L : List Raw) (n : Nat) (hn : n ≤ 100) : denP E 23 [lraw nl L, .int .i64 (n : Int)] = some (.ret (lraw false (listR L n))) := by
  refine denP_eq E23 rfl (by simp [AV.pureL, AV.pure, pure_ivr]) ?_
  have zn0 : ((0 : Int) ≤ (n : Int)) = True := eq_true (by omega)
  have zn1 : ((n : Int) * 32 ≤ 281474976710656) = True := eq_true (by omega)
  have zn2 : ((n : Int) ≤ 9223372036854775807) = True := eq_true (by omega)
  have hfl : (fr (rl n fun _ => (true, 0))).length = n * 2 := by rw [fr_len, rl_len]
  have hfL := fr_len L
  have hml : (L.map ivr).length = L.length := List.length_map _
  have ht : (fr L).take (min L.length n * 2) = fr (L.take n) := by
    rw [fr_take]
    by_cases h : L.length ≤ n
    · rw [Nat.min_eq_left h, List.take_length, List.take_of_length_le h]
    · rw [Nat.min_eq_right (by omega)]
  have hset := puts_cells (L.take n) (rl n fun _ => (true, 0)) 0 (by rw [rl_len, List.length_take]; omega)
  rw [Nat.zero_mul] at hset
  have hp := fun (m : Nat) (H : Heap) (fz : Bool) => refP_fr (n := m) (H := H) (id := 0) (len := n) (L := listR L n) (fz := fz) (listR_len _ _)
  have hres : fr (puts (rl n fun _ => (true, 0)) 0 (L.take n)) = fr (listR L n) := rfl
  rw [hres] at hset
  generalize listR L n = R at *
  simp (maxSteps := 4000000) only [go_sem, seval, ↓reduceIte, reduceCtorEq, Try.f23, zn0, zn1, zn2, Int.le_refl, Int.toNat_natCast, reps_fr, hfl, hfL, hml, copyEff, srcCells, flat_fr, ht, hset, hp, places, fillAll]
set_option maxHeartbeats 1000000 in
theorem good_spec (n s : Nat) (hn : n ≤ 100) (Xf : Nat → Bool × Int) (fb : Bool) (bf : Nat → Nat → Bool × Int) (hXf : ∀ j, j < n → fits (Xf j).2) (hbf : ∀ k j, k < n - s → j < n → fits (bf k j).2) :
    denP E 25 [latL n s Xf fb bf] = some (.ret (.bool true)) := by
  refine denP_eq E25 rfl (by simp [AV.pureL, AV.pure, pure_ivr, pure_lr]) ?_
  have v1 := refAll false (rl n Xf) (short_rl hn hXf)
  rw [all_rl hXf] at v1
  have hrx : ((rl n Xf).map ivr).length = n := by rw [List.length_map, rl_len]
  have hrx2 : ((rl n Xf).length : Int) = (n : Int) := by rw [rl_len]
  have hBl : ((BM n s bf).length : Int) = ((n - s : Nat) : Int) := by rw [BM_len]
  have hBm : ((BM n s bf).map lr).length = n - s := by rw [List.length_map, BM_len]
  have vB : ∀ k, k < n - s → ((BM n s bf).map lr)[k]? = some (.lst false ((rl n (bf k)).map ivr)) ∧ denP E 17 [lraw false (rl n (bf k))] = some (.ret (.bool true)) := fun k hk => by
    refine ⟨by rw [get_lr (by rw [BM_len]; omega), BM_get (by omega)], ?_⟩
    have := refAll false (rl n (bf k)) (short_rl hn (hbf k · hk))
    rw [all_rl (hbf k · hk)] at this
    exact this
  clear hXf hbf
  simp only [latL]
  generalize BM n s bf = BMv at *
  simp (maxSteps := 4000000) only [go_sem, seval, ↓reduceIte, reduceCtorEq, Try.f25, places, fillAll]
  refine W_loopS (fun kk sl h nx => ∃ k : Nat, (∃ g : Nat → AV, sl = [g 0, .ptr 0 0, g 2, .int .i64 (k : Int), g 4, g 5, g 6, g 7, g 8, g 9, g 10, g 11, g 12, g 13, g 14, g 15, g 16, g 17, g 18, g 19, g 20, g 21, g 22, g 23, g 24, g 25, g 26, g 27, g 28, g 29, g 30, g 31, g 32]) ∧ k + kk = n - s ∧ h 0 = some (lrw true (lraw false (rl n Xf)) (mraw fb BMv) (.lst true []) false true [])) (n - s) ⟨0, garb rfl, by omega, by simp only [upd_apply, ↓reduceIte, Nat.reduceEqDiff, if_pos]⟩ ?_
  rintro kk _ h nx ⟨k, ⟨g, rfl⟩, hkk, r0⟩
  by_cases hk : k = n - s
  · have q1 : ((k : Int) < ((n - s : Nat) : Int)) = False := eq_false (by omega)
    simp (maxSteps := 4000000) only [go_sem, seval, ↓reduceIte, reduceCtorEq, r0, hBl, hBm, q1, v1, purify_lraw, places, fillAll]
  · have q1 : ((k : Int) < ((n - s : Nat) : Int)) = True := eq_true (by omega)
    have q0 : ((0 : Int) ≤ (k : Int)) = True := eq_true (by omega)
    have w1 : IntKind.i64.wrap ((k + 1 : Nat) : Int) = ((k + 1 : Nat) : Int) := wrap64 (by omega) (by omega)
    obtain ⟨g1, g2⟩ := vB k (by omega)
    have hrl : ((rl n (bf k)).map ivr).length = n := by rw [List.length_map, rl_len]
    have hrl2 : ((rl n (bf k)).length : Int) = (n : Int) := by rw [rl_len]
    clear vB v1
    generalize rl n (bf k) = Rk at *
    simp (maxSteps := 4000000) only [go_sem, seval, ↓reduceIte, reduceCtorEq, r0, hBl, hBm, q1]
    refine W_drawn ?_
    simp (maxSteps := 4000000) only [go_sem, seval, ↓reduceIte, reduceCtorEq, r0, hBl, hBm, q0, q1, g1, g2, hrl, hrl2, hrx, hrx2, purify_lraw, places, fillAll]
    refine ⟨by rfl, ?_⟩
    simp (maxSteps := 4000000) only [go_sem, seval, ↓reduceIte, reduceCtorEq, w1]
    exact ⟨kk - 1, by omega, k + 1, garb rfl, by omega⟩
end Go.Proofs.Ytnpomadbaanpkaa

/- Walks: the reference's sums of products. (Own work of this repo.) -/
namespace Go.Proofs.Ytnpomadbaanpkaa
open Vm
set_option maxRecDepth 10000

theorem dz_len {a b : Nat → Int} : ∀ n, (∀ i, i < n → (dg (a i)).length ≤ 1000000 ∧ (dg (b i)).length ≤ 1000000) → (dg (dz a b n)).length ≤ 2000000 + n
  | 0, _ => by show (dg 0).length ≤ _; rw [dg_zero]; simp
  | n + 1, h => by
    have h1 := dz_len n fun i hi => h i (by omega)
    have h2 := h n (by omega)
    have h3 := dg_mul (a n) (b n)
    have h4 := dg_add (dz a b n) (a n * b n)
    show (dg (dz a b n + a n * b n)).length ≤ _
    omega
theorem NumL.len {L : List Raw} (h : NumL L) {i : Nat} (hi : i < L.length) : (dg (zg L i)).length ≤ 1000000 := by
  have := h.get hi
  unfold zg
  rw [this.1.2.1]; exact this.2
set_option maxHeartbeats 1000000 in
theorem rDot_spec (na : Bool) (A : List Raw) (nb : Bool) (B : List Raw) (hA : NumL A) (hB : NumL B) (hl : A.length ≤ B.length) (hAl : A.length ≤ 1000) :
    denP E 54 [lraw na A, lraw nb B] = some (.ret (RM (dz (zg A) (zg B) A.length))) := by
  refine denP_eq E54 rfl (by simp [AV.pureL, AV.pure, pure_ivr]) ?_
  simp (maxSteps := 4000000) only [go_sem, seval, ↓reduceIte, reduceCtorEq, Try.f54, places, fillAll]
  refine W_loopS (fun k sl h nx => ∃ (i : Nat), (∃ g : Nat → AV, sl = [lraw na A, lraw nb B, g 2, g 3, .ptr 0 0, .ptr 1 0, .int .i64 (i : Int), g 7, g 8, g 9, g 10, g 11, g 12, g 13, g 14, g 15, g 16, g 17, g 18, g 19, g 20, g 21, g 22, g 23, g 24, g 25]) ∧ i + k = A.length ∧ h 0 = some ⟨[.bool false, .lst true []], true, 2, false⟩ ∧ h 1 = some ⟨[.bool (ng (dz (zg A) (zg B) i)), .lst (decide (dz (zg A) (zg B) i = 0)) ((dg (dz (zg A) (zg B) i)).map wd)], true, 2, false⟩ ∧ 2 ≤ nx) A.length ⟨0, garb rfl, by omega, ?_, ?_, Nat.le_refl _⟩ ?_
  · simp only [upd_apply, ↓reduceIte, Nat.reduceEqDiff, if_pos]
  · rw [show dz (zg A) (zg B) 0 = 0 from rfl, ng_zero, dg_zero]; simp only [upd_apply, ↓reduceIte, Nat.reduceEqDiff, if_pos]; rfl
  rintro k _ h nx ⟨i, ⟨g, rfl⟩, hk, e0, e1, hnx⟩
  by_cases hi : i = A.length
  · have z1 : ((i : Int) < (A.length : Int)) = False := eq_false (by omega)
    rw [hi] at e1
    generalize dz (zg A) (zg B) A.length = s at *
    simp (maxSteps := 4000000) only [go_sem, seval, ↓reduceIte, reduceCtorEq, z1, e0, e1]
  · have z1 : ((i : Int) < (A.length : Int)) = True := eq_true (by omega)
    have z0 : ((0 : Int) ≤ (i : Int)) = True := eq_true (by omega)
    have zb : ((i : Int) < (B.length : Int)) = True := eq_true (by omega)
    have hga := get_ivr (L := A) (i := i) (by omega)
    have hgb := get_ivr (L := B) (i := i) (by omega)
    obtain ⟨a1, a2⟩ := hA.get (show i < A.length by omega)
    obtain ⟨b1, b2⟩ := hB.get (show i < B.length by omega)
    rw [← a1.2.1, ← a1.2.2] at hga
    rw [← b1.2.1, ← b1.2.2] at hgb
    have la := hA.len (show i < A.length by omega)
    have lb := hB.len (show i < B.length by omega)
    have ls := dz_len (a := zg A) (b := zg B) i fun j hj => ⟨hA.len (by omega), hB.len (by omega)⟩
    have lm := dg_mul (zg A i) (zg B i)
    have hst : dz (zg A) (zg B) (i + 1) = dz (zg A) (zg B) i + zg A i * zg B i := rfl
    have hml : (A.map ivr).length = A.length := List.length_map _
    have hmlb : (B.map ivr).length = B.length := List.length_map _
    have w1 : IntKind.i64.wrap ((i + 1 : Nat) : Int) = ((i + 1 : Nat) : Int) := wrap64 (by omega) (by omega)
    have hfin : ∀ (h' : Heap) (n' : Nat) (sl : List AV), (∃ g : Nat → AV, sl = [lraw na A, lraw nb B, g 2, g 3, .ptr 0 0, .ptr 1 0, .int .i64 ((i + 1 : Nat) : Int), g 7, g 8, g 9, g 10, g 11, g 12, g 13, g 14, g 15, g 16, g 17, g 18, g 19, g 20, g 21, g 22, g 23, g 24, g 25]) → h' 0 = some ⟨[.bool false, .lst true []], true, 2, false⟩ → h' 1 = some ⟨[.bool (ng (dz (zg A) (zg B) (i + 1))), .lst (decide (dz (zg A) (zg B) (i + 1) = 0)) ((dg (dz (zg A) (zg B) (i + 1))).map wd)], true, 2, false⟩ → 2 ≤ n' →
        ∃ k', k' < k ∧ ∃ (i : Nat), (∃ g : Nat → AV, sl = [lraw na A, lraw nb B, g 2, g 3, .ptr 0 0, .ptr 1 0, .int .i64 (i : Int), g 7, g 8, g 9, g 10, g 11, g 12, g 13, g 14, g 15, g 16, g 17, g 18, g 19, g 20, g 21, g 22, g 23, g 24, g 25]) ∧ i + k' = A.length ∧ h' 0 = some ⟨[.bool false, .lst true []], true, 2, false⟩ ∧ h' 1 = some ⟨[.bool (ng (dz (zg A) (zg B) i)), .lst (decide (dz (zg A) (zg B) i = 0)) ((dg (dz (zg A) (zg B) i)).map wd)], true, 2, false⟩ ∧ 2 ≤ n' := fun h' n' sl c0 c1 c2 c3 => ⟨k - 1, by omega, i + 1, c0, by omega, c1, c2, c3⟩
    generalize hIQ : (fun (k : Nat) (σ : St) => ∃ (i : Nat), (∃ g : Nat → AV, σ.sl = [lraw na A, lraw nb B, g 2, g 3, .ptr 0 0, .ptr 1 0, .int .i64 (i : Int), g 7, g 8, g 9, g 10, g 11, g 12, g 13, g 14, g 15, g 16, g 17, g 18, g 19, g 20, g 21, g 22, g 23, g 24, g 25]) ∧ i + k = A.length ∧ σ.h 0 = some ⟨[.bool false, .lst true []], true, 2, false⟩ ∧ σ.h 1 = some ⟨[.bool (ng (dz (zg A) (zg B) i)), .lst (decide (dz (zg A) (zg B) i = 0)) ((dg (dz (zg A) (zg B) i)).map wd)], true, 2, false⟩ ∧ 2 ≤ σ.nx) = IQ
    rw [hst] at hfin
    have m1 := rMul_spec (A.getD i default).2.1 (zg A i) (B.getD i default).2.1 (zg B i) (by omega) (by omega)
    have s1 := rAdd_spec (decide (dz (zg A) (zg B) i = 0)) (dz (zg A) (zg B) i) (decide (zg A i * zg B i = 0)) (zg A i * zg B i) (by omega) (by omega)
    simp only [RM] at m1 s1
    have ea : zv (A.getD i default) = zg A i := rfl
    have eb : zv (B.getD i default) = zg B i := rfl
    rw [ea] at hga
    rw [eb] at hgb
    clear hst ls lm la lb a1 a2 b1 b2 ea eb
    generalize dz (zg A) (zg B) i = s at *
    generalize zg A i = x at *
    generalize zg B i = y at *
    generalize x * y = xy at *
    generalize s + xy = s2 at *
    generalize decide (xy = 0) = f1 at *
    generalize decide (s = 0) = f2 at *
    generalize decide (s2 = 0) = f3 at *
    generalize (A.getD i default).2.1 = fa at *
    generalize (B.getD i default).2.1 = fb at *
    simp (maxSteps := 4000000) only [go_sem, seval, ↓reduceIte, reduceCtorEq, z1]
    refine W_drawn ?_
    simp (maxSteps := 4000000) only [go_sem, seval, ↓reduceIte, reduceCtorEq, z0, z1, zb, hga, hml, hgb, hmlb, e0, e1, m1, s1, places, fillAll]
    refine ⟨by first | rfl | refine okR_pairs ?_; (repeat ((with_unfolding_all refine And.intro ?_ ?_); (focus (rw [free_mk] <;> (try simp) <;> (try omega))))); (with_unfolding_all exact True.intro), ?_⟩
    rw [w1, ← hIQ]
    refine hfin _ _ _ (garb rfl) ?_ ?_ (by dsimp only; omega)
    · simp only [upd_apply, ↓reduceIte, Nat.reduceEqDiff, e0]
    · simp only [upd_apply, ↓reduceIte, Nat.reduceEqDiff, if_pos]
/-- A list of numbers of any length, of so many. -/
def TimesL (A : Mat) (X : Nat → Int) (n : Nat) : List Raw := (List.range n).map fun i => rz (decide (rx A X i = 0), rx A X i)
theorem TimesL_len (A : Mat) (X : Nat → Int) (n : Nat) : (TimesL A X n).length = n := by unfold TimesL; simp
theorem TimesL_succ (A : Mat) (X : Nat → Int) (n : Nat) : TimesL A X (n + 1) = TimesL A X n ++ [rz (decide (rx A X n = 0), rx A X n)] := by
  unfold TimesL; rw [List.range_succ, List.map_append]; rfl
theorem TimesL_get {A : Mat} {X : Nat → Int} {n i : Nat} (h : i < n) : (TimesL A X n).getD i default = rz (decide (rx A X i = 0), rx A X i) := by
  unfold TimesL
  rw [List.getD_eq_getElem?_getD, List.getElem?_map, List.getElem?_range h]; rfl
set_option maxHeartbeats 1000000 in
theorem rTimes_spec (na : Bool) (A : Mat) (nx' : Bool) (X : List Raw) (hA : ∀ i, i < A.length → NumL (A.getD i default).2 ∧ (A.getD i default).2.length ≤ X.length ∧ (A.getD i default).2.length ≤ 1000) (hX : NumL X) (hAl : A.length ≤ 1000) :
    denP E 24 [mraw na A, lraw nx' X] = some (.ret (lraw (decide (A.length = 0)) (TimesL A (zg X) A.length))) := by
  refine denP_eq E24 rfl (by simp [AV.pureL, AV.pure, pure_ivr, pure_lr]) ?_
  simp (maxSteps := 4000000) only [go_sem, seval, ↓reduceIte, reduceCtorEq, Try.f24, places, fillAll]
  refine W_loopS (fun k sl h nx => ∃ (i : Nat) (v : AV), (∃ g : Nat → AV, sl = [mraw na A, lraw nx' X, g 2, g 3, g 4, v, .int .i64 (i : Int), g 7, g 8, g 9, g 10, g 11, g 12, g 13, g 14, g 15, g 16, g 17, g 18, g 19, g 20, g 21, g 22]) ∧ i + k = A.length ∧ GrowQ h nx v (TimesL A (zg X) i)) A.length ⟨0, .lst true [], garb rfl, by omega, .inl ⟨rfl, rfl⟩⟩ ?_
  rintro k _ h nx ⟨i, v, ⟨g, rfl⟩, hk, hG⟩
  by_cases hi : i = A.length
  · have z1 : ((i : Int) < (A.length : Int)) = False := eq_false (by omega)
    have hM := TimesL_len A (zg X) i
    rw [← hi]
    generalize TimesL A (zg X) i = M at *
    rcases hG with ⟨rfl, rfl⟩ | ⟨h0, id, hid, rfl, hH⟩
    · have hd : decide (i = 0) = true := decide_eq_true (by simpa using hM.symm)
      rw [hd]
      simp (maxSteps := 4000000) only [go_sem, seval, ↓reduceIte, reduceCtorEq, z1, purify_lnil]
      rfl
    · have hd : decide (i = 0) = false := decide_eq_false (by omega)
      rw [hd]
      have hp : ∀ (n : Nat) (H : Heap), refP (n + 1) H id 0 M.length (some ⟨fr M, true, 2, false⟩) = some (.lst false (M.map ivr), [id]) := fun n H => refP_fr rfl
      simp (maxSteps := 4000000) only [go_sem, seval, ↓reduceIte, reduceCtorEq, z1, hH, hp]
  · have z1 : ((i : Int) < (A.length : Int)) = True := eq_true (by omega)
    have z0 : ((0 : Int) ≤ (i : Int)) = True := eq_true (by omega)
    have hga := get_lr (A := A) (i := i) (by omega)
    have hml : (A.map lr).length = A.length := List.length_map _
    have w1 : IntKind.i64.wrap ((i + 1 : Nat) : Int) = ((i + 1 : Nat) : Int) := wrap64 (by omega) (by omega)
    obtain ⟨a1, a2, a3⟩ := hA i (by omega)
    have d1 := rDot_spec (A.getD i default).1 (A.getD i default).2 nx' X a1 hX a2 a3
    have hrx : dz (zg (A.getD i default).2) (zg X) (A.getD i default).2.length = rx A (zg X) i := rfl
    rw [hrx] at d1
    have hM := TimesL_len A (zg X) i
    have hfin : ∀ (h' : Heap) (n' : Nat) (sl : List AV) (v' : AV), (∃ g : Nat → AV, sl = [mraw na A, lraw nx' X, g 2, g 3, g 4, v', .int .i64 ((i + 1 : Nat) : Int), g 7, g 8, g 9, g 10, g 11, g 12, g 13, g 14, g 15, g 16, g 17, g 18, g 19, g 20, g 21, g 22]) → GrowQ h' n' v' (TimesL A (zg X) i ++ [rz (decide (rx A (zg X) i = 0), rx A (zg X) i)]) →
        ∃ k', k' < k ∧ ∃ (i : Nat) (v : AV), (∃ g : Nat → AV, sl = [mraw na A, lraw nx' X, g 2, g 3, g 4, v, .int .i64 (i : Int), g 7, g 8, g 9, g 10, g 11, g 12, g 13, g 14, g 15, g 16, g 17, g 18, g 19, g 20, g 21, g 22]) ∧ i + k' = A.length ∧ GrowQ h' n' v (TimesL A (zg X) i) := fun h' n' sl v' c0 c1 => ⟨k - 1, by omega, i + 1, v', c0, by omega, by rw [TimesL_succ]; exact c1⟩
    generalize hIQ : (fun (k : Nat) (σ : St) => ∃ (i : Nat) (v : AV), (∃ g : Nat → AV, σ.sl = [mraw na A, lraw nx' X, g 2, g 3, g 4, v, .int .i64 (i : Int), g 7, g 8, g 9, g 10, g 11, g 12, g 13, g 14, g 15, g 16, g 17, g 18, g 19, g 20, g 21, g 22]) ∧ i + k = A.length ∧ GrowQ σ.h σ.nx v (TimesL A (zg X) i)) = IQ
    simp only [RM] at d1
    clear hrx a1 a2 a3 hA hX
    generalize rx A (zg X) i = s at *
    generalize decide (s = 0) = fs at *
    generalize A.getD i default = R at *
    generalize TimesL A (zg X) i = M at *
    have hmem : ((2 * (i + 1) + 1000) * 32 ≤ 281474976710656) = True := eq_true (by omega)
    have hmem1 : ((2 * 1 + 1000) * 32 ≤ 281474976710656) = True := eq_true (by omega)
    rcases hG with ⟨rfl, rfl⟩ | ⟨h0, id, hid, rfl, hH⟩
    · simp (maxSteps := 4000000) only [go_sem, seval, ↓reduceIte, reduceCtorEq, z0, z1, hga, hml, d1, purify_lraw, appendEff, srcCells, reps, places, fillAll, flat, hmem1]
      rw [w1, ← hIQ]
      refine hfin _ _ _ _ (garb rfl) (.inr ⟨by simp, nx + 1, by dsimp only; omega, rfl, ?_⟩)
      simp only [upd_apply, ↓reduceIte, Nat.reduceEqDiff, if_pos]
      rfl
    · have x1 : (id = nx) = False := eq_false (by omega)
      have x2 : (nx = id) = False := eq_false (by omega)
      have x3 : (id = nx + 1) = False := eq_false (by omega)
      have x4 : (nx + 1 = id) = False := eq_false (by omega)
      have hfl := fr_len M
      rw [hM] at hfl
      simp (maxSteps := 4000000) only [go_sem, seval, ↓reduceIte, reduceCtorEq, z0, z1, hga, hml, d1, hH, hM, hfl, x1, x2, x3, x4, purify_lraw, appendEff, srcCells, reps, places, fillAll, flat, hmem]
      rw [w1, ← hIQ]
      refine hfin _ _ _ _ (garb rfl) (.inr ⟨by simp, nx + 1, by dsimp only; omega, by rw [List.length_append, hM]; rfl, ?_⟩)
      rw [fr_app]
      simp only [upd_apply, ↓reduceIte, Nat.reduceEqDiff, if_pos]
      rfl
end Go.Proofs.Ytnpomadbaanpkaa

/- Walks: whether lists are the same. (Own work of this repo.) -/
namespace Go.Proofs.Ytnpomadbaanpkaa
open Vm
set_option maxRecDepth 10000

theorem rSameAll_spec (na : Bool) (L : List Raw) (nb : Bool) (M : List Raw) (hL : NumL L) (hM : NumL M) (hl : L.length = M.length) (hl2 : L.length ≤ 1000) :
    ∃ s : Bool, denP E 26 [lraw na L, lraw nb M] = some (.ret (.bool s)) ∧ (s = true ↔ ∀ i, i < L.length → zg L i = zg M i) := by
  refine denP_ex (F := fun s : Bool => .bool s) E26 rfl (by simp [AV.pureL, AV.pure, pure_ivr]) ?_
  have z0 : ((L.length : Int) = (M.length : Int)) = True := eq_true (by omega)
  simp (maxSteps := 4000000) only [go_sem, seval, ↓reduceIte, reduceCtorEq, Try.f26, z0, places, fillAll]
  refine W_loopS (fun k sl h nx => ∃ (i : Nat), (∃ g : Nat → AV, sl = [lraw na L, lraw nb M, g 2, g 3, g 4, .int .i64 (i : Int), g 6, g 7, g 8, g 9, g 10, g 11, g 12, g 13, g 14, g 15, g 16, g 17, g 18, g 19, g 20, g 21, g 22, g 23, g 24, g 25, g 26]) ∧ i + k = L.length ∧ ∀ j, j < i → zg L j = zg M j) L.length ⟨0, garb rfl, by omega, fun j hj => absurd hj (Nat.not_lt_zero j)⟩ ?_
  rintro k _ h nx ⟨i, ⟨g, rfl⟩, hk, hall⟩
  by_cases hi : i = L.length
  · have z1 : ((i : Int) < (L.length : Int)) = False := eq_false (by omega)
    simp (maxSteps := 4000000) only [go_sem, seval, ↓reduceIte, reduceCtorEq, z1]
    exact ⟨true, rfl, by simp; rw [← hi]; exact hall⟩
  · have z1 : ((i : Int) < (L.length : Int)) = True := eq_true (by omega)
    have zi : ((0 : Int) ≤ (i : Int)) = True := eq_true (by omega)
    have zb : ((i : Int) < (M.length : Int)) = True := eq_true (by omega)
    have w1 : IntKind.i64.wrap ((i + 1 : Nat) : Int) = ((i + 1 : Nat) : Int) := wrap64 (by omega) (by omega)
    have hga := get_ivr (L := L) (i := i) (by omega)
    have hgb := get_ivr (L := M) (i := i) (by omega)
    obtain ⟨a1, a2⟩ := hL.get (show i < L.length by omega)
    obtain ⟨b1, b2⟩ := hM.get (show i < M.length by omega)
    rw [← a1.2.1, ← a1.2.2] at hga
    rw [← b1.2.1, ← b1.2.2] at hgb
    have ea : zv (L.getD i default) = zg L i := rfl
    have eb : zv (M.getD i default) = zg M i := rfl
    rw [ea] at hga
    rw [eb] at hgb
    have hml : (L.map ivr).length = L.length := List.length_map _
    have hmlb : (M.map ivr).length = M.length := List.length_map _
    have s1 := rSame_spec (L.getD i default).2.1 (zg L i) (M.getD i default).2.1 (zg M i) (Nat.lt_of_le_of_lt (hL.len (by omega)) (by decide)) (Nat.lt_of_le_of_lt (hM.len (by omega)) (by decide))
    by_cases he : zg L i = zg M i
    · rw [decide_eq_true he] at s1
      have hall' : ∀ j, j < i + 1 → zg L j = zg M j := fun j hj => by
        by_cases e : j = i
        · rw [e]; exact he
        · exact hall j (by omega)
      clear he a1 a2 b1 b2 ea eb
      simp (maxSteps := 4000000) only [go_sem, seval, ↓reduceIte, reduceCtorEq, z1]
      refine W_drawn ?_
      simp (maxSteps := 4000000) only [go_sem, seval, ↓reduceIte, reduceCtorEq, zi, z1, zb, hga, hgb, hml, hmlb, s1, places, fillAll]
      refine ⟨by rfl, ?_⟩
      simp (maxSteps := 4000000) only [go_sem, seval, ↓reduceIte, reduceCtorEq, w1]
      exact ⟨k - 1, by omega, i + 1, garb rfl, by omega, hall'⟩
    · rw [decide_eq_false he] at s1
      have hno : ¬ ∀ j, j < L.length → zg L j = zg M j := fun h => he (h i (by omega))
      clear he a1 a2 b1 b2 ea eb
      simp (maxSteps := 4000000) only [go_sem, seval, ↓reduceIte, reduceCtorEq, z1]
      refine W_drawn ?_
      simp (maxSteps := 4000000) only [go_sem, seval, ↓reduceIte, reduceCtorEq, zi, z1, zb, hga, hgb, hml, hmlb, s1, places, fillAll]
      refine ⟨by rfl, ?_⟩
      exact ⟨false, rfl, by simp only [Bool.false_eq_true, false_iff]; exact hno⟩
theorem AllV.numL {L : List Raw} (h : AllV L) : NumL L := fun q hq => ⟨h.num hq, by have := zv_spec (h q hq).1 (h q hq).2; omega⟩
end Go.Proofs.Ytnpomadbaanpkaa

/- The law LinearAll: its walk. (Own work of this repo.) -/
namespace Go.Proofs.Ytnpomadbaanpkaa
open Vm
open Lat (sm sm_congr sm_zero sm_abs bb)
set_option maxRecDepth 10000

theorem openK_boolA {Q : Ex → St → Prop} {σ : St} {all os : List Go.Oper} {dst : Option Nat} {x : Option (Res × Heap × Nat)} (P : Bool → Heap → Nat → Prop) (hx : ∃ b H' N', x = some (.ret (.bool b), H', N') ∧ P b H' N') (k : ∀ b H' N', P b H' N' → Rg E all os ⟨put σ.sl dst (.bool b), H', N'⟩ Q) : openK E all os dst Q σ x := by
  obtain ⟨b, H', N', rfl, h1⟩ := hx
  exact k b H' N' h1
theorem cond8b : ∀ n, n < 9 → ∀ s, s < n → bb 200 s + 98 ≤ sb 200 200 n s := by decide +kernel
/-- Numbers of at most three words. -/
theorem bits96 {X : List Raw} (hX : AllV X) (h : ∀ t, t < X.length → (X.getD t default).2.2.length ≤ 3) : ∀ j, j < X.length → (zg X j).natAbs ≤ 2 ^ 96 := fun j hj => by
  obtain ⟨_, h2, _⟩ := zv_spec (hX.get hj).1 (hX.get hj).2
  have h4 := h j hj
  have h5 : (dg (zg X j)).length ≤ 3 := by unfold zg; omega
  have h6 := dg_len.1 h5
  have : BB = 2 ^ 32 := rfl
  rw [this, ← Nat.pow_mul] at h6
  exact Nat.le_of_lt h6
theorem listR_v {X : List Raw} {n : Nat} (hX : AllV X) : AllV (listR X n) := fun q hq => by
  rcases listR_mem hq with h | rfl
  · exact hX q h
  · exact ⟨dg_inR _, okV_rz (by show (dg 0).length ≤ _; rw [dg_zero]; simp)⟩
theorem listR_short {X : List Raw} {n : Nat} (hX : AllV X) (hn : n ≤ 100) : Short (listR X n) := ⟨by rw [listR_len]; omega, fun q hq => by
  obtain ⟨h1, h2⟩ := listR_v hX q hq
  have := (zv_spec h1 h2).2.2.1
  omega⟩
theorem listR_b {X : List Raw} {n p : Nat} (h : ∀ j, j < X.length → (zg X j).natAbs ≤ 2 ^ p) : ∀ j, j < n → (zg (listR X n) j).natAbs ≤ 2 ^ p := fun j hj => by
  unfold zg
  rw [listR_get hj]
  by_cases e : j < X.length
  · rw [if_pos e]; exact h j e
  · rw [if_neg e, zv_rz]; exact Nat.zero_le _
theorem numL_rl {n : Nat} {f : Nat → Bool × Int} (h : ∀ j, j < n → fits (f j).2) : NumL (rl n f) := fun q hq => by
  obtain ⟨j, hj, rfl⟩ := List.mem_map.1 hq
  exact ⟨num_rz _, by have := h j (List.mem_range.1 hj); show (dg (f j).2).length ≤ _; omega⟩
theorem BM_rowz {n s k j : Nat} {bf : Nat → Nat → Bool × Int} (hk : k < n - s) (hj : j < n) : rowz (BM n s bf) k j = (bf k j).2 := by
  unfold rowz; rw [BM_get hk]; exact zg_rl hj
/-- A solution plus multiples of the basis, as the law computes it. -/
theorem sum_lat (n s : Nat) (hn1 : 1 ≤ n) (hn : n ≤ 8) (Xf : Nat → Bool × Int) (fb : Bool) (bf : Nat → Nat → Bool × Int) (fk : Bool) (K : List Raw) (hXf : ∀ j, j < n → fits (Xf j).2) (hbf : ∀ k j, k < n - s → j < n → fits (bf k j).2) (hK : AllV K) (hKl : K.length = n - s) :
    ∃ M : List Raw, denP E 21 [lraw false (rl n Xf), mraw fb (BM n s bf), lraw fk K] = some (.ret (lraw false M)) ∧ M.length = n ∧ NumL M ∧ ∀ j, j < n → zg M j = (Xf j).2 + sm (fun k => zg K k * (bf k j).2) (n - s) := by
  have hKf : ∀ k, k < n - s → (dg (zg K k)).length ≤ 4096 := fun k hk => by
    obtain ⟨_, h2, h3, _⟩ := zv_spec (hK.get (show k < K.length by omega)).1 (hK.get (show k < K.length by omega)).2
    unfold zg; omega
  have hlen : ∀ j, j < n → ∀ i, i ≤ n - s → (dg (dz (zg K) (fun k => rowz (BM n s bf) k j) i)).length ≤ 8192 + i := by
    intro j hj i
    induction i with
    | zero => intro _; show (dg 0).length ≤ _; rw [dg_zero]; simp
    | succ i ih =>
      intro hi
      have h1 := ih (by omega)
      have h2 := dg_mul (zg K i) (rowz (BM n s bf) i j)
      have h3 := hKf i (by omega)
      have h4 : (dg (rowz (BM n s bf) i j)).length ≤ 4096 := by rw [BM_rowz (by omega) hj]; exact hbf i j (by omega) hj
      have h5 := dg_add (dz (zg K) (fun k => rowz (BM n s bf) k j) i) (zg K i * rowz (BM n s bf) i j)
      show (dg (dz (zg K) (fun k => rowz (BM n s bf) k j) i + zg K i * rowz (BM n s bf) i j)).length ≤ _
      omega
  obtain ⟨M, m1, m2, m3, m4⟩ := lsum_spec false (rl n Xf) fb (BM n s bf) fk K (numL_rl hXf) (fun k hk => by
    rw [BM_len] at hk
    rw [BM_get hk]
    exact ⟨numL_rl (hbf k · hk), by rw [rl_len, rl_len]; exact Nat.le_refl _⟩) hK.numL (by rw [rl_len]; exact hn1) (by rw [rl_len]; omega) (by rw [BM_len]; omega) (by rw [BM_len]; omega) (fun j hj i hi => by
    rw [rl_len] at hj
    rw [BM_len] at hi
    have h1 := hlen j hj i hi
    have h2 := hXf j hj
    have h3 := dg_add (zg (rl n Xf) j) (dz (zg K) (fun k => rowz (BM n s bf) k j) i)
    rw [zg_rl hj] at h3
    unfold sz
    rw [zg_rl hj]
    omega)
  refine ⟨M, m1, by rw [m2, rl_len], m3, fun j hj => ?_⟩
  rw [m4 j (by rw [rl_len]; exact hj)]
  unfold sz
  rw [zg_rl hj, BM_len, dz_sm]
  congr 1
  exact sm_congr _ fun k hk => by rw [BM_rowz hk hj]
/-- What the law has behind Solve. -/
structure AllIn (A : Mat) (n : Nat) (B X' By' : List Raw) (s : Nat) (Xf : Nat → Bool × Int) (bf : Nat → Nat → Bool × Int) : Prop where
  sol : Sol (rowz A) A.length n 200 200 (zg B) s (v2 (fun _ => Xf) 0) (v2 bf)
  fl : ∀ k j, (bf k j).1 = true → (bf k j).2 = 0
set_option maxHeartbeats 1000000 in
/-- Everything behind Solve, in facts. -/
theorem all_facts (na : Bool) (A : Mat) (nb : Bool) (B : List Raw) (hA : ShortM A) (hB : Short B) (iA : InM A) (iB : ∀ q ∈ B, InR q.2.2) (hsys : sysB A B = true) (n s : Nat) (hw : (A.getD 0 default).2.length = n) (Xf : Nat → Bool × Int) (bf : Nat → Nat → Bool × Int) (hS : Sol (rowz A) A.length n 200 200 (zg B) s (v2 (fun _ => Xf) 0) (v2 bf)) (hbfl : ∀ k j, (bf k j).1 = true → (bf k j).2 = 0)
    (X : List Raw) (vX : AllV X) (hXb : ∀ j, j < X.length → (zg X j).natAbs ≤ 2 ^ 96) (hXs : ∀ i, i < A.length → sm (fun j => rowz A i j * zg (listR X n) j) n = zg B i) (By : List Raw) (vBy : AllV By) (hByb : ∀ j, j < By.length → (zg By j).natAbs ≤ 2 ^ 96) :
    ∃ (Wf Wf2 : Nat → Bool × Int) (M M2 : List Raw),
      denP E 25 [latL n s Xf (decide (n = s)) bf] = some (.ret (.bool true)) ∧
      denP E 11 [mraw na A, lraw nb B, latL n s Xf (decide (n = s)) bf, lraw false (listR X n)] = some (.ret (.tup [lraw (decide (n = s)) (rl (n - s) Wf), .int .i64 0])) ∧
      denP E 17 [lraw (decide (n = s)) (rl (n - s) Wf)] = some (.ret (.bool true)) ∧
      denP E 21 [lraw false (rl n Xf), mraw (decide (n = s)) (BM n s bf), lraw (decide (n = s)) (rl (n - s) Wf)] = some (.ret (lraw false M)) ∧
      denP E 26 [lraw false M, lraw false (listR X n)] = some (.ret (.bool true)) ∧
      denP E 21 [lraw false (rl n Xf), mraw (decide (n = s)) (BM n s bf), lraw false (listR By (n - s))] = some (.ret (lraw false M2)) ∧
      denP E 17 [lraw false M2] = some (.ret (.bool true)) ∧
      denP E 11 [mraw na A, lraw nb B, latL n s Xf (decide (n = s)) bf, lraw false M2] = some (.ret (.tup [lraw (decide (n = s)) (rl (n - s) Wf2), .int .i64 0])) ∧
      denP E 26 [lraw (decide (n = s)) (rl (n - s) Wf2), lraw false (listR By (n - s))] = some (.ret (.bool true)) := by
  have hok := sys_ok iA iB hsys
  rw [hw] at hok
  have hn8 := hok.cols.2
  have hn1 := hok.cols.1
  have hsn := hS.sn
  have hc8 := cond8' n (by omega)
  have hsb : sb 200 200 n s ≤ sb 200 200 n n := sb_mono _ _ _ hsn
  have hsb0 : 200 ≤ sb 200 200 n s := sb_mono 200 200 n (Nat.zero_le s)
  have hXfit : ∀ j, j < n → fits (Xf j).2 := fun j hj => fits_bits (hS.xb j hj) (by omega)
  have hbs : s < n → bb 200 s + 98 ≤ sb 200 200 n s := fun h => cond8b n (by omega) s h
  have hbb : ∀ k j, k < n - s → j < n → ((bf k j).2).natAbs ≤ 2 ^ bb 200 s := hS.bb
  have hbfit : ∀ k j, k < n - s → j < n → fits (bf k j).2 := fun k j hk hj => fits_bits (hbb k j hk hj) (by have := hbs (by omega); omega)
  have g1 := good_spec n s (by omega) Xf (decide (n = s)) bf hXfit hbfit
  have vX' := listR_v (n := n) vX
  have sX' := listR_short (n := n) vX (by omega)
  have vB' := listR_v (n := n - s) vBy
  obtain ⟨w, hwX⟩ := hS.gen (zg (listR X n)) hXs
  obtain ⟨Wf, e1, e2⟩ := Express_of na A nb B hA hB iA iB hsys n s hw Xf bf hS hbfl false (listR X n) sX' vX' (listR_len X n) w hwX (fun j hj => Nat.le_trans (listR_b hXb j hj) (Lat.pow_le (by omega)))
  rw [latM_eq n s Xf bf hsn] at e1
  have hWfit : ∀ k, k < n - s → fits (Wf k).2 := fun k hk => by rw [(e2 k hk).1]; exact (e2 k hk).2
  have a1 := refAll (decide (n = s)) (rl (n - s) Wf) (short_rl (by omega) hWfit)
  rw [all_rl hWfit] at a1
  obtain ⟨M, m1, m2, m3, m4⟩ := sum_lat n s hn1 hn8 Xf (decide (n = s)) bf (decide (n = s)) (rl (n - s) Wf) hXfit hbfit (allV_rl hWfit) (rl_len _ _)
  obtain ⟨sa, t1, t2⟩ := rSameAll_spec false M false (listR X n) m3 vX'.numL (by rw [m2, listR_len]) (by omega)
  have hsa : sa = true := t2.2 fun j hj => by
    rw [m2] at hj
    rw [m4 j hj, hwX j hj]
    show _ = (Xf j).2 + sm (fun k => w k * (bf k j).2) (n - s)
    congr 1
    exact sm_congr _ fun k hk => by rw [zg_rl hk, (e2 k hk).1]
  rw [hsa] at t1
  obtain ⟨M2, p1, p2, p3, p4⟩ := sum_lat n s hn1 hn8 Xf (decide (n = s)) bf false (listR By (n - s)) hXfit hbfit vB' (listR_len _ _)
  have hM2b : ∀ j, j < n → (zg M2 j).natAbs ≤ 2 ^ (sb 200 200 n s + 2) := fun j hj => by
    rw [p4 j hj]
    by_cases hlt : s < n
    · have hb' := hbs hlt
      refine add_bits (q := sb 200 200 n s + 1) (hS.xb j hj) (Nat.le_trans (sm_abs (K := 2 ^ (96 + bb 200 s)) (n - s) fun k hk => ?_) ?_) (by omega) (by omega)
      · exact mul_bits (listR_b hByb k hk) (hbb k j hk hj)
      · refine Nat.le_trans (Nat.mul_le_mul_right _ (show n - s ≤ 2 ^ 3 by omega)) ?_
        rw [← Nat.pow_add]
        exact Lat.pow_le (by omega)
    · rw [show n - s = 0 by omega]
      show ((Xf j).2 + 0).natAbs ≤ _
      rw [Int.add_zero]
      exact Nat.le_trans (hS.xb j hj) (Lat.pow_le (by omega))
  have hM2f : ∀ j, j < n → fits (zg M2 j) := fun j hj => fits_bits (hM2b j hj) (by omega)
  have vM2 : AllV M2 := fun q hq => by
    obtain ⟨j, hj, rfl⟩ := List.getElem_of_mem hq
    have hq2 := m3
    obtain ⟨h1, h2⟩ := p3 _ (List.getElem_mem hj)
    have h3 : zg M2 j = zv M2[j] := by unfold zg; rw [List.getD_eq_getElem?_getD, List.getElem?_eq_getElem hj]; rfl
    have h4 := hM2f j (by omega)
    rw [h3] at h4
    refine ⟨h1.1, ?_⟩
    rw [← rz_num h1]
    exact okV_rz h4
  have sM2 : Short M2 := ⟨by omega, fun q hq => by have := (p3 q hq).2; omega⟩
  have a2 := refAll false M2 sM2
  rw [show M2.all okV = true from List.all_eq_true.2 fun q hq => (vM2 q hq).2] at a2
  obtain ⟨Wf2, e3, e4⟩ := Express_of na A nb B hA hB iA iB hsys n s hw Xf bf hS hbfl false M2 sM2 vM2 p2 (fun k => zg (listR By (n - s)) k) p4 hM2b
  rw [latM_eq n s Xf bf hsn] at e3
  have hW2fit : ∀ k, k < n - s → fits (Wf2 k).2 := fun k hk => by rw [(e4 k hk).1]; exact (e4 k hk).2
  obtain ⟨sa2, t3, t4⟩ := rSameAll_spec (decide (n = s)) (rl (n - s) Wf2) false (listR By (n - s)) (numL_rl hW2fit) vB'.numL (by rw [rl_len, listR_len]) (by rw [rl_len]; omega)
  have hsa2 : sa2 = true := t4.2 fun k hk => by
    rw [rl_len] at hk
    rw [zg_rl hk, (e4 k hk).1]
  rw [hsa2] at t3
  exact ⟨Wf, Wf2, M, M2, g1, e1, a1, m1, t1, p1, a2, e3, t3⟩
end Go.Proofs.Ytnpomadbaanpkaa

/- The law LinearAll: its walk, the whole. (Own work of this repo.) -/
namespace Go.Proofs.Ytnpomadbaanpkaa
open Vm
open Lat (sm sm_congr bb)
set_option maxRecDepth 10000

/-- No list says 'nil' of a number that is not 0. -/
def NilM (A : Mat) : Prop := ∀ r ∈ A, ∀ q ∈ r.2, q.2.1 = true → q.2.2 = []
theorem NilM.cf {A : Mat} (h : NilM A) {n : Nat} (hA : MatV A n) : ∀ i, i < A.length → ∀ k, k < n → (cf0 A k i).1 = true → (cf0 A k i).2 = 0 := fun i hi k hk hf => by
  have hm : (A.getD i default).2.getD k default ∈ (A.getD i default).2 := by rw [List.getD_eq_getElem?_getD (l := (A.getD i default).2), List.getElem?_eq_getElem (by rw [(hA i hi).2]; exact hk)]; exact List.getElem_mem _
  have hr : A.getD i default ∈ A := by rw [List.getD_eq_getElem?_getD, List.getElem?_eq_getElem hi]; exact List.getElem_mem _
  have e := h _ hr _ hm hf
  show zv ((A.getD i default).2.getD k default) = 0
  unfold zv
  rw [e]
  show sg _ 0 = 0
  unfold sg
  split <;> rfl
set_option maxHeartbeats 4000000 in
theorem all_walk (aw : denP E 15 [] = some (.ret (.bool true))) (na : Bool) (A : Mat) (nx' : Bool) (X : List Raw) (nb : Bool) (By : List Raw) (hA : ShortM A) (hX : Short X) (hBy : Short By) (iA : InM A) (iX : ∀ q ∈ X, InR q.2.2) (iBy : ∀ q ∈ By, InR q.2.2) (hnil : NilM A) :
    denP E 6 [mraw na A, lraw nx' X, lraw nb By] = some (.ret (.bool true)) := by
  refine denP_eq E6 rfl (by simp [AV.pureL, AV.pure, pure_ivr, pure_lr]) ?_
  simp (maxSteps := 4000000) only [go_sem, seval, ↓reduceIte, reduceCtorEq, Try.f6, reps, places, fillAll]
  refine openK_boolA (fun b H' N' => 1 ≤ N' ∧ (b = false → A.length ≤ 20 ∧ (∀ j, j < A.length → Narrow (A.getD j default).2) ∧ Narrow X ∧ Narrow By)) ?_ ?_
  · have hr : ∀ H0 : Heap, H0 0 = some ⟨[(nx', X), (nb, By)].map lr, false, 1, false⟩ → ∃ b H' N', denO E 13 [mraw na A, .ref 0 0 2] H0 1 = some (.ret (.bool b), H', N') ∧ 1 ≤ N' ∧ (b = false → A.length ≤ 20 ∧ (∀ j, j < A.length → Narrow (A.getD j default).2) ∧ Narrow X ∧ Narrow By) := fun H0 h0 => by
      obtain ⟨b, h', n', h1, h2, h3, h4⟩ := wide_open na A hA 0 [(nx', X), (nb, By)] ⟨by show 2 < _; decide, fun r hr => by
        simp only [List.mem_cons, List.not_mem_nil, or_false] at hr
        rcases hr with rfl | rfl
        · exact hX
        · exact hBy⟩ (by show 2 ≤ 10; decide) H0 1 (by decide) h0
      refine ⟨b, h', n', h1, h2, fun hbf => ?_⟩
      obtain ⟨g1, g2⟩ := h4 hbf
      exact ⟨g1, fun j hj => g2 (j + 2) (by simp; omega), g2 0 (by simp), g2 1 (by simp)⟩
    exact hr _ (by simp only [upd_apply, ↓reduceIte, Nat.reduceEqDiff, if_pos]; rfl)
  intro bw H N ⟨hN, hw⟩
  cases bw with
  | true => simp (maxSteps := 4000000) only [go_sem, seval, ↓reduceIte, reduceCtorEq, aw]
  | false =>
    obtain ⟨hA20, hAn, hXn, hBn⟩ := hw rfl
    clear hw hAn
    by_cases hA0 : A.length = 0
    · have z0 : ((A.length : Int) = 0) = True := eq_true (by omega)
      simp (maxSteps := 4000000) only [go_sem, seval, ↓reduceIte, reduceCtorEq, z0, aw]
    have z0 : ((A.length : Int) = 0) = False := eq_false (by omega)
    have v1 := refAll nx' X hX
    have v2 := refAll nb By hBy
    cases hXv : X.all okV with
    | false => rw [hXv] at v1; simp (maxSteps := 4000000) only [go_sem, seval, ↓reduceIte, reduceCtorEq, z0, v1, aw, purify_lraw, purify_mraw]
    | true =>
    rw [hXv] at v1
    cases hByv : By.all okV with
    | false => rw [hByv] at v2; simp (maxSteps := 4000000) only [go_sem, seval, ↓reduceIte, reduceCtorEq, z0, v1, v2, aw, purify_lraw, purify_mraw]
    | true =>
    rw [hByv] at v2
    obtain ⟨n1, hw1, hwn1⟩ := words_one nx' X hX
    obtain ⟨n2, hw2, hwn2⟩ := words_one nb By hBy
    by_cases h31 : 3 < n1
    · have z1 : ((3 : Int) < (n1 : Int)) = True := eq_true (by omega)
      simp (maxSteps := 4000000) only [go_sem, seval, ↓reduceIte, reduceCtorEq, z0, v1, v2, aw, z1, hw1, purify_lraw, purify_mraw, reps, places, fillAll, refP, elems, List.headD_cons]
    have z1 : ((3 : Int) < (n1 : Int)) = False := eq_false (by omega)
    by_cases h32 : 3 < n2
    · have z2 : ((3 : Int) < (n2 : Int)) = True := eq_true (by omega)
      simp (maxSteps := 4000000) only [go_sem, seval, ↓reduceIte, reduceCtorEq, z0, v1, v2, aw, z1, z2, hw1, hw2, purify_lraw, purify_mraw, reps, places, fillAll, refP, elems, List.headD_cons]
    have z2 : ((3 : Int) < (n2 : Int)) = False := eq_false (by omega)
    have hz0 : fits 0 := by show (dg 0).length ≤ _; rw [dg_zero]; simp
    have s0 := refSystem na A false (rl A.length fun _ => (true, 0)) hA (short_rl (by omega) fun _ _ => hz0) iA inR_rl
    have zm0 : ((0 : Int) ≤ (A.length : Int)) = True := eq_true (by omega)
    have zm1 : ((A.length : Int) * 32 ≤ 281474976710656) = True := eq_true (by omega)
    have zm2 : ((A.length : Int) ≤ 9223372036854775807) = True := eq_true (by omega)
    have hpz := fun (m : Nat) (H : Heap) (id : Nat) (fz : Bool) => refP_fr (n := m) (H := H) (id := id) (len := A.length) (L := rl A.length fun _ => (true, 0)) (fz := fz) (rl_len _ _)
    have vX : AllV X := fun q hq => ⟨iX q hq, List.all_eq_true.1 hXv q hq⟩
    have vBy : AllV By := fun q hq => ⟨iBy q hq, List.all_eq_true.1 hByv q hq⟩
    have hro : ∀ (L : List Raw) (nl : Bool) (m : Nat) (H : Heap) (id : Nat) (fz : Bool), refP (m + 1) H id 0 1 (some ⟨[.lst nl (L.map ivr)], false, 1, fz⟩) = some (.lst false [.lst nl (L.map ivr)], [id]) := fun L nl m H id fz => by
      have := refP_lr (n := m) (H := H) (id := id) (len := 1) (A := [(nl, L)]) (fz := fz) rfl
      exact this
    cases hs0 : sysB A (rl A.length fun _ => (true, 0)) with
    | false =>
      rw [hs0] at s0
      simp (maxSteps := 4000000) only [go_sem, seval, ↓reduceIte, reduceCtorEq, z0, v1, v2, aw, z1, z2, hw1, hw2, s0, zm0, zm1, zm2, Int.le_refl, Int.toNat_natCast, reps_fr, reps, hpz, hro, purify_lraw, purify_mraw, places, fillAll]
    | true =>
    rw [hs0] at s0
    have hok0 := sys_ok iA inR_rl hs0
    obtain ⟨n, hn⟩ : ∃ n, n = (A.getD 0 default).2.length := ⟨_, rfl⟩
    rw [← hn] at hok0
    have hg0 := get_lr (A := A) (i := 0) (by omega)
    have z00 : ((0 : Int) < (A.length : Int)) = True := eq_true (by omega)
    have hml : (A.map lr).length = A.length := List.length_map _
    have hml0 : ((A.getD 0 default).2.map ivr).length = n := by rw [List.length_map, hn]
    have hwi : ((A.getD 0 default).2.length : Int) = (n : Int) := by rw [hn]
    have hn8 := hok0.cols.2
    have hn1 := hok0.cols.1
    have l1 := list_spec nx' X n (by omega)
    have vX' := listR_v (n := n) vX
    have t1 := rTimes_spec na A false (listR X n) (fun i hi => ⟨(hok0.mat i hi).1.numL, by rw [(hok0.mat i hi).2, listR_len]; exact Nat.le_refl _, by rw [(hok0.mat i hi).2]; omega⟩) vX'.numL (by omega)
    have hd0 : decide (A.length = 0) = false := decide_eq_false hA0
    rw [hd0] at t1
    have hrx : ∀ i, i < A.length → rx A (zg (listR X n)) i = sm (fun j => rowz A i j * zg (listR X n) j) n := fun i hi => by
      unfold rx; rw [(hok0.mat i hi).2, dz_sm]
    have hXb := bits96 vX ((hwn1 3).1 (by omega))
    have hByb := bits96 vBy ((hwn2 3).1 (by omega))
    have hXb' := listR_b (n := n) hXb
    obtain ⟨q9, hq9⟩ : ∃ q9 : Nat, q9 = 96 := ⟨_, rfl⟩
    have hXb9 : ∀ j, j < n → (zg (listR X n) j).natAbs ≤ 2 ^ q9 := by rw [hq9]; exact hXb'
    have hrb : ∀ i, i < A.length → (rx A (zg (listR X n)) i).natAbs ≤ 2 ^ (3 + (200 + q9)) := fun i hi => by
      rw [hrx i hi]
      refine Nat.le_trans (Lat.sm_abs (K := 2 ^ (200 + q9)) n fun j hj => mul_bits (hok0.bA i hi j hj) (hXb9 j hj)) ?_
      refine Nat.le_trans (Nat.mul_le_mul_right _ (show n ≤ 2 ^ 3 by omega)) ?_
      rw [← Nat.pow_add]
      exact Nat.le_refl _
    have hrf : ∀ i, i < A.length → fits (rx A (zg (listR X n)) i) := fun i hi => fits_bits (hrb i hi) (by omega)
    have hTs : Short (TimesL A (zg (listR X n)) A.length) := ⟨by rw [TimesL_len]; omega, fun q hq => by
      obtain ⟨i, hi, rfl⟩ := List.mem_map.1 hq
      have := hrf i (List.mem_range.1 hi)
      show (dg _).length < _
      exact Nat.lt_of_le_of_lt this (by decide)⟩
    have hTi : ∀ q ∈ TimesL A (zg (listR X n)) A.length, InR q.2.2 := fun q hq => by
      obtain ⟨i, hi, rfl⟩ := List.mem_map.1 hq
      exact dg_inR _
    have hTz : ∀ i, i < A.length → zg (TimesL A (zg (listR X n)) A.length) i = rx A (zg (listR X n)) i := fun i hi => by unfold zg; rw [TimesL_get hi]; exact zv_rz _
    have hTf : ∀ i, i < A.length → ((TimesL A (zg (listR X n)) A.length).getD i default).2.1 = true → zg (TimesL A (zg (listR X n)) A.length) i = 0 := fun i hi h => by
      rw [hTz i hi]
      rw [TimesL_get hi] at h
      simpa using h
    have hTl := TimesL_len A (zg (listR X n)) A.length
    have sb1 := refSystem na A false (TimesL A (zg (listR X n)) A.length) hA hTs iA hTi
    have hXs : ∀ i, i < A.length → sm (fun j => rowz A i j * zg (listR X n) j) n = zg (TimesL A (zg (listR X n)) A.length) i := fun i hi => by rw [hTz i hi, hrx i hi]
    clear hrx hrb hrf hTz
    generalize TimesL A (zg (listR X n)) A.length = Bl at *
    cases hsb : sysB A Bl with
    | false =>
      rw [hsb] at sb1
      simp (maxSteps := 4000000) only [go_sem, seval, ↓reduceIte, reduceCtorEq, z0, v1, v2, aw, z1, z2, hw1, hw2, s0, zm0, zm1, zm2, Int.le_refl, Int.toNat_natCast, reps_fr, reps, hpz, hro, hg0, z00, hml, hml0, hwi, l1, t1, sb1, Int.toNat_zero, purify_lraw, purify_mraw, places, fillAll]
    | true =>
    rw [hsb] at sb1
    have hok := sys_ok iA hTi hsb
    rw [← hn] at hok
    have hc8 := cond8' n (by omega)
    obtain ⟨v, hv, s, Xf, bf, rfl, hS, hf1, hf2⟩ := solve_ok na A n hok.mat (hnil.cf hok.mat) (by omega) (by omega) hn1 hn8 false Bl hok.vB hTl hTf 200 200 (fun i j hi hj => hok.bA i hi j hj) hok.bB (zg (listR X n)) (fun i hi => (hXs i hi).symm) hc8.1 (by omega)
    have hsn := hS.sn
    obtain ⟨Wf, Wf2, M, M2, f1, f2, f3, f4, f5, f6, f7, f8, f9⟩ := all_facts na A false Bl hA hTs iA hTi hsb n s hn.symm Xf bf hS hf2 X vX hXb hXs By vBy hByb
    rw [latM_eq n s Xf bf hsn] at hv
    have hSv := Solve_val na A false Bl hA hTs iA hTi hsb true false ((rl n Xf).map ivr) (decide (n = s)) ((BM n s bf).map lr) true [] false true [] hv (pure_ivr _) (pure_lr _) rfl rfl
    have l2 := list_spec nb By (n - s) (by omega)
    have hrx2 : ((rl n Xf).length : Int) = (n : Int) := by rw [rl_len]
    have hBl : ((BM n s bf).length : Int) = ((n - s : Nat) : Int) := by rw [BM_len]
    have hBm : ((BM n s bf).map lr).length = n - s := by rw [List.length_map, BM_len]
    have hWl : ((rl (n - s) Wf).length : Int) = ((n - s : Nat) : Int) := by rw [rl_len]
    have zq : ((n : Int) < ((n - s : Nat) : Int)) = False := eq_false (by omega)
    simp only [latL] at f1 f2 f8
    have hXfit : ∀ j, j < n → fits (Xf j).2 := fun j hj => fits_bits (hS.xb j hj) (by have := sb_mono 200 200 n hsn; omega)
    have hbfit : ∀ k j, k < n - s → j < n → fits (bf k j).2 := fun k j hk hj => fits_bits (hS.bb k j hk hj) (by have := cond8b n (by omega) s (by omega); have := sb_mono 200 200 n hsn; omega)
    obtain ⟨n5, hw5, _⟩ := words_spec false (BM n s bf ++ [(false, rl n Xf)]) ⟨by rw [List.length_append, BM_len]; simp; omega, fun r hr => by
      rcases List.mem_append.1 hr with h | h
      · obtain ⟨k, hk, rfl⟩ := List.mem_map.1 h
        exact short_rl (by omega) (hbfit k · (List.mem_range.1 hk))
      · rw [List.mem_singleton.1 h]; exact short_rl (by omega) hXfit⟩
    have hpB := fun (m : Nat) (H : Heap) (id : Nat) (fz : Bool) => refP_lr (n := m) (H := H) (id := id) (len := n - s + 1) (A := BM n s bf ++ [(false, rl n Xf)]) (fz := fz) (by rw [List.length_append, BM_len]; rfl)
    have hBX : (BM n s bf ++ [(false, rl n Xf)]).map lr = (BM n s bf).map lr ++ [.lst false ((rl n Xf).map ivr)] := List.map_append
    simp only [mraw, hBX] at hw5 hpB
    clear hXfit hbfit
    clear hv hS hf1 hf2 hok hok0 hnil hc8 hXs hXb hXb' hByb vX' hTf
    generalize hBM : BM n s bf = BMv at *
    generalize decide (n = s) = fb at *
    generalize rl n Xf = XL at *
    generalize rl (n - s) Wf = WL at *
    generalize rl (n - s) Wf2 = WL2 at *
    generalize listR X n = X' at *
    generalize listR By (n - s) = By' at *
    simp (maxSteps := 4000000) only [go_sem, seval, ↓reduceIte, reduceCtorEq, z0, v1, v2, z1, z2, hw1, hw2, s0, zm0, zm1, zm2, Int.le_refl, Int.toNat_natCast, reps_fr, reps, hpz, hro, hg0, z00, hml, hml0, hwi, l1, t1, sb1, hSv, hrx2, hBl, hBm, zq, f1, f2, Int.reduceEq, Int.toNat_zero, purify_lraw, purify_mraw, purify_lnil, places, fillAll]
    generalize hi9 : N + 1 + 1 + 1 = i9 at *
    have r0 : ∀ (H0 : Heap) (b : Option Blk), (H0.upd i9 b) i9 = b := fun H0 b => if_pos rfl
    have hBn2 : BMv.length = n - s := by rw [← hBM]; exact BM_len n s bf
    have hfl := flat_lr BMv
    have y1 : (i9 = i9 + 1) = False := eq_false (by omega)
    have y2 : (i9 + 1 = i9) = False := eq_false (by omega)
    have y3 : (i9 = i9 + 1 + 1) = False := eq_false (by omega)
    have y4 : (i9 + 1 + 1 = i9) = False := eq_false (by omega)
    have y5 : (i9 = i9 + 1 + 1 + 1) = False := eq_false (by omega)
    have y6 : (i9 + 1 + 1 + 1 = i9) = False := eq_false (by omega)
    have y7 : (i9 = i9 + 1 + 1 + 1 + 1) = False := eq_false (by omega)
    have y8 : (i9 + 1 + 1 + 1 + 1 = i9) = False := eq_false (by omega)
    have hmem1 : ((2 * (n - s) + 1000) * 24 ≤ 281474976710656) = True := eq_true (by omega)
    have hmem2 : ((2 * (n - s + 1) + 1000) * 24 ≤ 281474976710656) = True := eq_true (by omega)
    have hmem0 : ((2 * 1 + 1000) * 24 ≤ 281474976710656) = True := eq_true (by omega)
    have z5 : ∃ l : Bool, ((100 : Int) < (n5 : Int)) = (l = true) := ⟨decide ((100 : Int) < (n5 : Int)), by simp⟩
    obtain ⟨l5, z5⟩ := z5
    refine W_drawn ?_
    by_cases hq0 : n - s = 0
    · have zb : (n - s = 0) = True := eq_true hq0
      have hBM0 : BMv = [] := List.eq_nil_of_length_eq_zero (by rw [hBn2, hq0])
      simp only [hBM0, hq0, List.map_nil, List.nil_append, Nat.zero_add] at hw5 hpB
      cases l5 <;> (simp (maxSteps := 4000000) only [go_sem, seval, ↓reduceIte, reduceCtorEq, hBn2, zb, hfl, hmem0, y1, y2, y3, y4, y5, y6, hw5, hpB, z5, appendEff, srcCells, flat, reps, purify_lraw, places, fillAll])
      · refine ⟨by refine okR_pairs ?_; (repeat ((with_unfolding_all refine And.intro ?_ ?_); (focus (rw [free_mk] <;> (try simp) <;> (try omega))))); (with_unfolding_all exact True.intro), ?_⟩
        simp (maxSteps := 4000000) only [go_sem, seval, ↓reduceIte, reduceCtorEq, f3, f4, f5, f6, f7, f8, f9, l2, hWl, hBl, hBn2, y1, y2, y3, y4, y5, y6, y7, y8, aw, Int.reduceEq, purify_lraw, purify_mraw, purify_lnil, places, fillAll]
      · refine ⟨by refine okR_pairs ?_; (repeat ((with_unfolding_all refine And.intro ?_ ?_); (focus (rw [free_mk] <;> (try simp) <;> (try omega))))); (with_unfolding_all exact True.intro), ?_⟩
        simp (maxSteps := 4000000) only [go_sem, seval, ↓reduceIte, reduceCtorEq, f3, f4, f5, f6, f7, f8, f9, l2, hWl, hBl, hBn2, y1, y2, y3, y4, y5, y6, y7, y8, aw, Int.reduceEq, purify_lraw, purify_mraw, purify_lnil, places, fillAll]
    · have zb : (n - s = 0) = False := eq_false hq0
      cases l5 <;> (simp (maxSteps := 4000000) only [go_sem, seval, ↓reduceIte, reduceCtorEq, hBn2, zb, hfl, hmem1, hmem2, y1, y2, y3, y4, y5, y6, hw5, hpB, z5, appendEff, srcCells, flat, reps, purify_lraw, places, fillAll])
      · refine ⟨by refine okR_pairs ?_; (repeat ((with_unfolding_all refine And.intro ?_ ?_); (focus (rw [free_mk] <;> (try simp) <;> (try omega))))); (with_unfolding_all exact True.intro), ?_⟩
        simp (maxSteps := 4000000) only [go_sem, seval, ↓reduceIte, reduceCtorEq, f3, f4, f5, f6, f7, f8, f9, l2, hWl, hBl, hBn2, y1, y2, y3, y4, y5, y6, y7, y8, aw, Int.reduceEq, purify_lraw, purify_mraw, purify_lnil, places, fillAll]
      · refine ⟨by refine okR_pairs ?_; (repeat ((with_unfolding_all refine And.intro ?_ ?_); (focus (rw [free_mk] <;> (try simp) <;> (try omega))))); (with_unfolding_all exact True.intro), ?_⟩
        simp (maxSteps := 4000000) only [go_sem, seval, ↓reduceIte, reduceCtorEq, f3, f4, f5, f6, f7, f8, f9, l2, hWl, hBl, hBn2, y1, y2, y3, y4, y5, y6, y7, y8, aw, Int.reduceEq, purify_lraw, purify_mraw, purify_lnil, places, fillAll]
end Go.Proofs.Ytnpomadbaanpkaa
