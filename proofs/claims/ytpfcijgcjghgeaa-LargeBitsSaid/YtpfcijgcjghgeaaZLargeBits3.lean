/- Part 3 of a proof about this seat: Bits, Und. (Own work of this repo.) -/
import Derived.Test.YtpfcijgcjghgeaaZLargeBits2
set_option linter.unusedVariables false
set_option linter.unusedSimpArgs false
/- Plain facts on numbers, their words and their bits. (Own work of this repo.) -/
namespace Go.Proofs.Ytpfcijgcjghgeaa
open Vm

theorem pas_two : ∀ m, (∀ k, pas (2 * m) (2 * k) = pas m k ∧ pas (2 * m) (2 * k + 1) = false) := by
  intro m
  induction m with
  | zero =>
    intro k
    cases k with
    | zero => exact ⟨rfl, rfl⟩
    | succ k => exact ⟨rfl, rfl⟩
  | succ m ih =>
    have o1 : ∀ k, pas (2 * m + 1) (2 * k) = pas m k := by
      intro k
      cases k with
      | zero => have := (ih 0).1; simpa [pas] using this
      | succ k =>
        have h1 := (ih (k + 1)).1
        have h2 := (ih k).2
        rw [show 2 * (k + 1) = 2 * k + 1 + 1 by omega] at h1 ⊢
        rw [pas, h1, h2]; simp
    have o2 : ∀ k, pas (2 * m + 1) (2 * k + 1) = pas m k := by
      intro k
      rw [pas, (ih k).1, (ih k).2]; simp
    intro k
    rw [show 2 * (m + 1) = 2 * m + 1 + 1 by omega]
    refine ⟨?_, ?_⟩
    · cases k with
      | zero => have := o1 0; simpa [pas] using this
      | succ k =>
        have h1 := o1 (k + 1)
        rw [show 2 * (k + 1) = 2 * k + 1 + 1 by omega] at h1 ⊢
        rw [pas, h1, o2 k, pas]
    · rw [pas, o2 k, o1 k]; simp
theorem pas_odd (m k : Nat) : pas (2 * m + 1) (2 * k) = pas m k ∧ pas (2 * m + 1) (2 * k + 1) = pas m k := by
  refine ⟨?_, ?_⟩
  · cases k with
    | zero => have := (pas_two m 0).1; simpa [pas] using this
    | succ k =>
      have h1 := (pas_two m (k + 1)).1
      have h2 := (pas_two m k).2
      rw [show 2 * (k + 1) = 2 * k + 1 + 1 by omega] at h1 ⊢
      rw [pas, h1, h2]; simp
  · rw [pas, (pas_two m k).1, (pas_two m k).2]; simp
theorem land_half (n m : Nat) : (n &&& m = n) ↔ (n / 2 &&& m / 2 = n / 2) ∧ (n % 2 = 1 → m % 2 = 1) := by
  have h1 : (n &&& m) / 2 = n / 2 &&& m / 2 := Nat.and_div_two
  have h2 : (n &&& m) % 2 = 1 ↔ n % 2 = 1 ∧ m % 2 = 1 := Nat.and_mod_two_eq_one
  constructor
  · intro h
    rw [h] at h1 h2
    exact ⟨h1.symm, fun h => (h2.1 h).2⟩
  · rintro ⟨h3, h4⟩
    rw [h3] at h1
    have : (n &&& m) % 2 = n % 2 := by
      by_cases hn : n % 2 = 1
      · rw [hn]; exact h2.2 ⟨hn, h4 hn⟩
      · have : ¬ (n &&& m) % 2 = 1 := fun h => hn (h2.1 h).1
        omega
    omega
theorem pas_land : ∀ m n, pas m n = decide (n &&& m = n) := by
  intro m
  induction m using Nat.strongRecOn with
  | _ m ih =>
    intro n
    by_cases hm : m = 0
    · subst hm
      cases n with
      | zero => rfl
      | succ n => simp [pas]
    · have hi := ih (m / 2) (by omega) (n / 2)
      rw [show decide (n &&& m = n) = decide ((n / 2 &&& m / 2 = n / 2) ∧ (n % 2 = 1 → m % 2 = 1)) from decide_eq_decide.2 (land_half n m)]
      rcases Nat.mod_two_eq_zero_or_one m with hm2 | hm2 <;> rcases Nat.mod_two_eq_zero_or_one n with hn2 | hn2
      · have e1 : pas m n = pas (m / 2) (n / 2) := by
          have := (pas_two (m / 2) (n / 2)).1
          rwa [show 2 * (m / 2) = m by omega, show 2 * (n / 2) = n by omega] at this
        rw [e1, hi]; simp [hn2]
      · have e1 : pas m n = false := by
          have := (pas_two (m / 2) (n / 2)).2
          rwa [show 2 * (m / 2) = m by omega, show 2 * (n / 2) + 1 = n by omega] at this
        rw [e1]; simp [hn2, hm2]
      · have e1 : pas m n = pas (m / 2) (n / 2) := by
          have := (pas_odd (m / 2) (n / 2)).1
          rwa [show 2 * (m / 2) + 1 = m by omega, show 2 * (n / 2) = n by omega] at this
        rw [e1, hi]; simp [hn2]
      · have e1 : pas m n = pas (m / 2) (n / 2) := by
          have := (pas_odd (m / 2) (n / 2)).2
          rwa [show 2 * (m / 2) + 1 = m by omega, show 2 * (n / 2) + 1 = n by omega] at this
        rw [e1, hi]; simp [hn2, hm2]

theorem add_or : ∀ a b : Nat, a &&& b = 0 → a + b = a ||| b := by
  intro a
  induction a using Nat.strongRecOn with
  | _ a ih =>
    intro b h
    by_cases ha : a = 0
    · simp [ha]
    · have h1 : (a &&& b) / 2 = a / 2 &&& b / 2 := Nat.and_div_two
      have h2 : (a &&& b) % 2 = 1 ↔ a % 2 = 1 ∧ b % 2 = 1 := Nat.and_mod_two_eq_one
      have h3 : (a ||| b) / 2 = a / 2 ||| b / 2 := Nat.or_div_two
      have h4 : (a ||| b) % 2 = 1 ↔ a % 2 = 1 ∨ b % 2 = 1 := Nat.or_mod_two_eq_one
      rw [h] at h1 h2
      have hi := ih (a / 2) (by omega) (b / 2) (by simpa using h1.symm)
      rw [← h3] at hi
      omega
theorem land_sub {n m : Nat} (h : n &&& m = n) : n &&& (m - n) = 0 ∧ (m - n) &&& m = m - n := by
  have e1 : n &&& (m ^^^ n) = 0 := by
    apply Nat.eq_of_testBit_eq; intro i
    have := congrArg (fun x => x.testBit i) h
    simp at this ⊢
    cases hn : n.testBit i <;> cases hm : m.testBit i <;> simp_all
  have e2 : n ||| (m ^^^ n) = m := by
    apply Nat.eq_of_testBit_eq; intro i
    have := congrArg (fun x => x.testBit i) h
    simp at this ⊢
    cases hn : n.testBit i <;> cases hm : m.testBit i <;> simp_all
  have e3 := add_or _ _ e1
  rw [e2] at e3
  have e4 : m - n = m ^^^ n := by omega
  rw [e4]
  refine ⟨e1, ?_⟩
  apply Nat.eq_of_testBit_eq; intro i
  have := congrArg (fun x => x.testBit i) h
  simp at this ⊢
  cases hn : n.testBit i <;> cases hm : m.testBit i <;> simp_all
theorem land_of_zero {n m : Nat} (hle : n ≤ m) (h : n &&& (m - n) = 0) : n &&& m = n := by
  have e := add_or _ _ h
  rw [show n + (m - n) = m by omega] at e
  rw [e]
  apply Nat.eq_of_testBit_eq; intro i
  simp
  cases n.testBit i <;> simp
theorem land_of_sub {n m : Nat} (hle : n ≤ m) (h : (m - n) &&& m = m - n) : n &&& m = n := by
  have := (land_sub h).2
  rwa [show m - (m - n) = n by omega] at this

theorem andNot_zero {a b : Nat} (ha : a < 4294967296) (hb : b < 4294967296) : andNot a b = 0 ↔ a &&& b = a := by
  have e1 : BitVec.ofInt (kb .u32) (a : Int) = BitVec.ofNat 32 a := by simp [kb, IntKind.bits]
  have e2 : BitVec.ofInt (kb .u32) (b : Int) = BitVec.ofNat 32 b := by simp [kb, IntKind.bits]
  have e : andNot a b = ((BitVec.ofNat 32 a &&& ~~~ BitVec.ofNat 32 b).toNat : Int) % 4294967296 := by
    unfold andNot
    rw [IntKind.wrap_u32', ← e1, ← e2]
    rfl
  rw [e]
  have hlt : (BitVec.ofNat 32 a &&& ~~~ BitVec.ofNat 32 b).toNat < 4294967296 := (BitVec.ofNat 32 a &&& ~~~ BitVec.ofNat 32 b).isLt
  have h0 : ((BitVec.ofNat 32 a &&& ~~~ BitVec.ofNat 32 b).toNat : Int) % 4294967296 = 0 ↔ (BitVec.ofNat 32 a &&& ~~~ BitVec.ofNat 32 b) = 0#32 := by
    rw [← BitVec.toNat_inj]
    simp only [BitVec.toNat_ofNat]
    omega
  rw [h0]
  have h1 : (BitVec.ofNat 32 a &&& ~~~ BitVec.ofNat 32 b) = 0#32 ↔ (BitVec.ofNat 32 a &&& BitVec.ofNat 32 b) = BitVec.ofNat 32 a := by
    constructor
    · intro h
      apply BitVec.eq_of_getLsbD_eq; intro i hi
      have := congrArg (fun x => x.getLsbD i) h
      simp [hi] at this ⊢
      cases h1 : a.testBit i <;> cases h2 : b.testBit i <;> simp_all
    · intro h
      apply BitVec.eq_of_getLsbD_eq; intro i hi
      have := congrArg (fun x => x.getLsbD i) h
      simp [hi] at this ⊢
      cases h1 : a.testBit i <;> cases h2 : b.testBit i <;> simp_all
  rw [h1, ← BitVec.toNat_inj, BitVec.toNat_and, BitVec.toNat_ofNat, BitVec.toNat_ofNat, Nat.mod_eq_of_lt ha, Nat.mod_eq_of_lt hb]
theorem land64 {a b : Nat} (ha : a < 9223372036854775808) (hb : b < 9223372036854775808) : IntKind.i64.wrap (BitVec.ofInt (kb .i64) a &&& BitVec.ofInt (kb .i64) b).toNat = ((a &&& b : Nat) : Int) := by
  have e1 : BitVec.ofInt (kb .i64) (a : Int) = BitVec.ofNat 64 a := by simp [kb, IntKind.bits]
  have e2 : BitVec.ofInt (kb .i64) (b : Int) = BitVec.ofNat 64 b := by simp [kb, IntKind.bits]
  have e : (BitVec.ofInt (kb .i64) a &&& BitVec.ofInt (kb .i64) b).toNat = a &&& b := by
    rw [e1, e2]
    show (BitVec.ofNat 64 a &&& BitVec.ofNat 64 b).toNat = _
    rw [BitVec.toNat_and, BitVec.toNat_ofNat, BitVec.toNat_ofNat, Nat.mod_eq_of_lt (by omega), Nat.mod_eq_of_lt (by omega)]
  rw [e]
  have : a &&& b ≤ a := Nat.and_le_left
  exact wrap64 (by omega) (by omega)
end Go.Proofs.Ytpfcijgcjghgeaa

/- Walks: Under, of any numbers. (Own work of this repo.) -/
namespace Go.Proofs.Ytpfcijgcjghgeaa
open Vm
set_option maxRecDepth 10000

def runderW (a b : List Nat) : Bool := (List.range a.length).all fun i => decide (a.getD i 0 &&& b.getD i 0 = a.getD i 0)
theorem rUnder_walk (na ma : Bool) (a : List Nat) (nb mb : Bool) (b : List Nat) (ha : InR a) (hb : InR b) (la : a.length < 2 ^ 60) (lb : b.length < 2 ^ 60) :
    denP E 37 [iv na ma a, iv nb mb b] = some (.ret (.bool (runderW a b))) := by
  refine denP_eq E37 rfl (by simp [AV.pureL, AV.pure, pure_wd]) ?_
  simp (maxSteps := 4000000) (disch := omega) only [go_sem, ↓reduceIte, Nat.reduceAdd, Nat.reduceSub, Nat.reduceMul, Nat.reduceEqDiff, reduceCtorEq, Int.reduceAdd, Int.reduceLT, Int.reduceLE, Int.reduceToNat, Int.reduceNeg, Int.reduceSub, ← List.map_take, ← List.map_drop, wrap64, wrapu64, wrapu32, ← Int.natCast_add, ← Int.natCast_mul, cast_succ, wrapu32_nat, shr32, reps_wd, map_set_wd, List.length_set, zs_len, Try.f37]
  refine W_loopS (fun k sl H nx => ∃ i : Nat, (∃ g : Nat → AV, sl = [g 0, g 1, .ptr 0 0, .ptr 1 0, g 4, .int .i64 i, g 6, g 7, g 8, g 9, g 10, g 11, g 12, g 13, g 14, g 15, g 16, g 17, g 18, g 19, g 20, g 21, g 22, g 23, g 24, g 25, g 26, g 27, g 28, g 29, g 30, g 31, g 32, g 33, g 34, g 35, g 36]) ∧ H 0 = some ⟨[.bool na, .lst ma (a.map wd)], true, 2, false⟩ ∧ H 1 = some ⟨[.bool nb, .lst mb (b.map wd)], true, 2, false⟩ ∧
    i + k = a.length ∧ Hd (∀ t, t < i → a.getD t 0 &&& b.getD t 0 = a.getD t 0)) a.length ⟨0, garb rfl, rfl, rfl, by omega, ⟨fun t ht => by omega⟩⟩ ?_
  rintro k _ H nx ⟨i, ⟨g, rfl⟩, h0, h1, hi, hall⟩
  by_cases hk : k = 0
  · have hv : runderW a b = true := by
      unfold runderW
      rw [List.all_eq_true]
      intro t ht
      exact decide_eq_true (hall.out t (by have := List.mem_range.1 ht; omega))
    clear hall
    simp (maxSteps := 4000000) (disch := omega) only [go_sem, ↓reduceIte, Nat.reduceAdd, Nat.reduceSub, Nat.reduceMul, Nat.reduceEqDiff, reduceCtorEq, Int.reduceAdd, Int.reduceLT, Int.reduceLE, Int.reduceToNat, Int.reduceNeg, Int.reduceSub, ← List.map_take, ← List.map_drop, wrap64, wrapu64, wrapu32, ← Int.natCast_add, ← Int.natCast_mul, cast_succ, wrapu32_nat, shr32, reps_wd, map_set_wd, List.length_set, zs_len, h0, h1, hv]
  · have hx := ha.get i
    have hy := hb.get i
    have hno : ¬ (a.getD i 0 &&& b.getD i 0 = a.getD i 0) → runderW a b = false := by
      intro h
      unfold runderW
      rw [List.all_eq_false]
      exact ⟨i, List.mem_range.2 (by omega), by simpa using h⟩
    have hand := and32b hx hy
    have hstep : a.getD i 0 &&& b.getD i 0 = a.getD i 0 → Hd (∀ t, t < i + 1 → a.getD t 0 &&& b.getD t 0 = a.getD t 0) := by
      intro h
      refine ⟨fun t ht => ?_⟩
      by_cases hti : t = i
      · subst hti; exact h
      · exact hall.out t (by omega)
    clear hall
    by_cases hib : i < b.length
    · simp (maxSteps := 4000000) (disch := omega) only [go_sem, ↓reduceIte, Nat.reduceAdd, Nat.reduceSub, Nat.reduceMul, Nat.reduceEqDiff, reduceCtorEq, Int.reduceAdd, Int.reduceLT, Int.reduceLE, Int.reduceToNat, Int.reduceNeg, Int.reduceSub, ← List.map_take, ← List.map_drop, wrap64, wrapu64, wrapu32, ← Int.natCast_add, ← Int.natCast_mul, cast_succ, wrapu32_nat, shr32, reps_wd, map_set_wd, List.length_set, zs_len, h0, h1]
      refine W_drawn ?_
      by_cases he : a.getD i 0 &&& b.getD i 0 = a.getD i 0
      · simp (maxSteps := 4000000) (disch := omega) only [go_sem, ↓reduceIte, Nat.reduceAdd, Nat.reduceSub, Nat.reduceMul, Nat.reduceEqDiff, reduceCtorEq, Int.reduceAdd, Int.reduceLT, Int.reduceLE, Int.reduceToNat, Int.reduceNeg, Int.reduceSub, ← List.map_take, ← List.map_drop, wrap64, wrapu64, wrapu32, ← Int.natCast_add, ← Int.natCast_mul, cast_succ, wrapu32_nat, shr32, reps_wd, map_set_wd, List.length_set, zs_len, h0, h1, hand, he]
        exact ⟨by rfl, k - 1, by omega, i + 1, garb rfl, by omega, hstep he⟩
      · have hv := hno he
        have he2 : ¬ ((a.getD i 0 &&& b.getD i 0 : Nat) : Int) = ((a.getD i 0 : Nat) : Int) := by omega
        generalize a.getD i 0 &&& b.getD i 0 = z at *
        simp (maxSteps := 4000000) (disch := omega) only [go_sem, ↓reduceIte, Nat.reduceAdd, Nat.reduceSub, Nat.reduceMul, Nat.reduceEqDiff, reduceCtorEq, Int.reduceAdd, Int.reduceLT, Int.reduceLE, Int.reduceToNat, Int.reduceNeg, Int.reduceSub, ← List.map_take, ← List.map_drop, wrap64, wrapu64, wrapu32, ← Int.natCast_add, ← Int.natCast_mul, cast_succ, wrapu32_nat, shr32, reps_wd, map_set_wd, List.length_set, zs_len, h0, h1, hand, hv]
        rfl
    · have hb0 := getD_ge (l := b) (i := i) (by omega)
      rw [hb0, Nat.and_zero] at hno hstep
      have hand0 : IntKind.u32.wrap ((BitVec.ofInt (kb .u32) ((a.getD i 0 : Nat) : Int) &&& BitVec.ofInt (kb .u32) 0).toNat : Int) = 0 := by
        have := and32b hx (b := 0) (by decide)
        rw [Nat.and_zero] at this
        exact this
      clear hand hb0 hy
      simp (maxSteps := 4000000) (disch := omega) only [go_sem, ↓reduceIte, Nat.reduceAdd, Nat.reduceSub, Nat.reduceMul, Nat.reduceEqDiff, reduceCtorEq, Int.reduceAdd, Int.reduceLT, Int.reduceLE, Int.reduceToNat, Int.reduceNeg, Int.reduceSub, ← List.map_take, ← List.map_drop, wrap64, wrapu64, wrapu32, ← Int.natCast_add, ← Int.natCast_mul, cast_succ, wrapu32_nat, shr32, reps_wd, map_set_wd, List.length_set, zs_len, h0, h1]
      refine W_drawn ?_
      by_cases he : 0 = a.getD i 0
      · simp (maxSteps := 4000000) (disch := omega) only [go_sem, ↓reduceIte, Nat.reduceAdd, Nat.reduceSub, Nat.reduceMul, Nat.reduceEqDiff, reduceCtorEq, Int.reduceAdd, Int.reduceLT, Int.reduceLE, Int.reduceToNat, Int.reduceNeg, Int.reduceSub, ← List.map_take, ← List.map_drop, wrap64, wrapu64, wrapu32, cast_succ, h0, h1, hand0]
        exact ⟨by rfl, k - 1, by omega, i + 1, garb rfl, by omega, hstep he⟩
      · have hv := hno he
        have he2 : ¬ (0 : Int) = ((a.getD i 0 : Nat) : Int) := by omega
        simp (maxSteps := 4000000) (disch := omega) only [go_sem, ↓reduceIte, Nat.reduceAdd, Nat.reduceSub, Nat.reduceMul, Nat.reduceEqDiff, reduceCtorEq, Int.reduceAdd, Int.reduceLT, Int.reduceLE, Int.reduceToNat, Int.reduceNeg, Int.reduceSub, ← List.map_take, ← List.map_drop, wrap64, wrapu64, wrapu32, cast_succ, h0, h1, hand0, hv]
        rfl
theorem top_lt {b : List Nat} {i : Nat} (h : b.length ≤ i) : b.getD i 0 = 0 := getD_ge h
/-- The two say the same of numbers without zeros at their ends. -/
theorem under_same {a b : List Nat} (ha : Norm a) (hb : InR b) : underW a b = runderW a b := by
  unfold underW runderW
  by_cases h : a.length ≤ b.length
  · rw [decide_eq_true h, Bool.true_and]
    congr 1
    funext i
    rw [decide_eq_decide]
    exact andNot_zero (ha.1.get i) (hb.get i)
  · rw [decide_eq_false h, Bool.false_and]
    symm
    rw [List.all_eq_false]
    have h0 : a.length ≠ 0 := by omega
    refine ⟨a.length - 1, List.mem_range.2 (by omega), ?_⟩
    have h1 : a.getD (a.length - 1) 0 ≠ 0 := by
      rcases ha.2 with h2 | h2
      · subst h2; simp at h0
      · exact h2
    rw [getD_ge (l := b) (by omega), Nat.and_zero]
    simpa using fun e => h1 e.symm
theorem rUnder_spec (ma : Bool) (x : Int) (mb : Bool) (y : Int) (hx : (dg x).length < 2 ^ 60) (hy : (dg y).length < 2 ^ 60) : denP E 37 [I ma x, I mb y] = some (.ret (.bool (underW (dg x) (dg y)))) := by
  rw [under_same (dg_norm x) (dg_inR y)]
  exact rUnder_walk _ _ _ _ _ _ (dg_inR x) (dg_inR y) hx hy
theorem under_spec (ma : Bool) (x : Int) (mb : Bool) (y : Int) (hx : (dg x).length ≤ 4096) (hy : (dg y).length ≤ 4096) (hx0 : 0 ≤ x) (hy0 : 0 ≤ y) : denP E 11 [I ma x, I mb y] = some (.ret (.tup [.bool (underW (dg x) (dg y)), .int .i64 0])) := by
  have v1 := validW_I x
  have v2 := validW_I y
  rw [decide_eq_true hx, ng_false.2 hx0] at v1
  rw [decide_eq_true hy, ng_false.2 hy0] at v2
  have := under11 ma (dg x) mb (dg y) (by omega) (by omega) v1 v2
  rw [I, I, ng_false.2 hx0, ng_false.2 hy0]
  exact this
theorem under_neg (ma : Bool) (x : Int) (mb : Bool) (y : Int) (hx : (dg x).length ≤ 4096) (hy : (dg y).length ≤ 4096) (h : (ng x || ng y) = true) : denP E 11 [I ma x, I mb y] = some (.ret (.tup [.bool false, .int .i64 2])) := by
  refine denP_eq E11 rfl (by simp [AV.pureL, AV.pure, pure_wd]) ?_
  have h1 := valid2_I ma x mb y hx hy
  cases h2 : ng x with
  | true =>
    simp only [I, h2] at h1
    simp (maxSteps := 4000000) (disch := omega) only [go_sem, ↓reduceIte, Nat.reduceAdd, Nat.reduceSub, Nat.reduceMul, Nat.reduceEqDiff, reduceCtorEq, Int.reduceAdd, Int.reduceLT, Int.reduceLE, Int.reduceToNat, Int.reduceNeg, Int.reduceSub, ← List.map_take, ← List.map_drop, wrap64, wrapu64, wrapu32, Try.f11, h1, h2, reps, fillAll, refP, elems]
  | false =>
    rw [h2, Bool.false_or] at h
    simp only [I, h2, h] at h1
    simp (maxSteps := 4000000) (disch := omega) only [go_sem, ↓reduceIte, Nat.reduceAdd, Nat.reduceSub, Nat.reduceMul, Nat.reduceEqDiff, reduceCtorEq, Int.reduceAdd, Int.reduceLT, Int.reduceLE, Int.reduceToNat, Int.reduceNeg, Int.reduceSub, ← List.map_take, ← List.map_drop, wrap64, wrapu64, wrapu32, Try.f11, h1, h2, h, reps, fillAll, refP, elems]
end Go.Proofs.Ytpfcijgcjghgeaa
