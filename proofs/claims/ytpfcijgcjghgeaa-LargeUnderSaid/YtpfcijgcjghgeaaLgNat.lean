/- Plain facts on numbers, their words and their bits. (Own work of this repo.) -/
import Derived.Test.YtpfcijgcjghgeaaLg3
set_option linter.unusedVariables false
set_option linter.unusedSimpArgs false
namespace Go.Proofs.Ytpfcijgcjghgeaa
open Vm

theorem pas_two : ∀ m, (∀ k, pas (2 * m) (2 * k) = pas m k ∧ pas (2 * m) (2 * k + 1) = false) := by
  intro m
  induction m with
  | zero =>
    intro k
    cases k with
    | zero => exact ⟨rfl, rfl⟩
    | succ k => exact ⟨rfl, rfl⟩
  | succ m ih =>
    have o1 : ∀ k, pas (2 * m + 1) (2 * k) = pas m k := by
      intro k
      cases k with
      | zero => have := (ih 0).1; simpa [pas] using this
      | succ k =>
        have h1 := (ih (k + 1)).1
        have h2 := (ih k).2
        rw [show 2 * (k + 1) = 2 * k + 1 + 1 by omega] at h1 ⊢
        rw [pas, h1, h2]; simp
    have o2 : ∀ k, pas (2 * m + 1) (2 * k + 1) = pas m k := by
      intro k
      rw [pas, (ih k).1, (ih k).2]; simp
    intro k
    rw [show 2 * (m + 1) = 2 * m + 1 + 1 by omega]
    refine ⟨?_, ?_⟩
    · cases k with
      | zero => have := o1 0; simpa [pas] using this
      | succ k =>
        have h1 := o1 (k + 1)
        rw [show 2 * (k + 1) = 2 * k + 1 + 1 by omega] at h1 ⊢
        rw [pas, h1, o2 k, pas]
    · rw [pas, o2 k, o1 k]; simp
theorem pas_odd (m k : Nat) : pas (2 * m + 1) (2 * k) = pas m k ∧ pas (2 * m + 1) (2 * k + 1) = pas m k := by
  refine ⟨?_, ?_⟩
  · cases k with
    | zero => have := (pas_two m 0).1; simpa [pas] using this
    | succ k =>
      have h1 := (pas_two m (k + 1)).1
      have h2 := (pas_two m k).2
      rw [show 2 * (k + 1) = 2 * k + 1 + 1 by omega] at h1 ⊢
      rw [pas, h1, h2]; simp
  · rw [pas, (pas_two m k).1, (pas_two m k).2]; simp
theorem land_half (n m : Nat) : (n &&& m = n) ↔ (n / 2 &&& m / 2 = n / 2) ∧ (n % 2 = 1 → m % 2 = 1) := by
  have h1 : (n &&& m) / 2 = n / 2 &&& m / 2 := Nat.and_div_two
  have h2 : (n &&& m) % 2 = 1 ↔ n % 2 = 1 ∧ m % 2 = 1 := Nat.and_mod_two_eq_one
  constructor
  · intro h
    rw [h] at h1 h2
    exact ⟨h1.symm, fun h => (h2.1 h).2⟩
  · rintro ⟨h3, h4⟩
    rw [h3] at h1
    have : (n &&& m) % 2 = n % 2 := by
      by_cases hn : n % 2 = 1
      · rw [hn]; exact h2.2 ⟨hn, h4 hn⟩
      · have : ¬ (n &&& m) % 2 = 1 := fun h => hn (h2.1 h).1
        omega
    omega
theorem pas_land : ∀ m n, pas m n = decide (n &&& m = n) := by
  intro m
  induction m using Nat.strongRecOn with
  | _ m ih =>
    intro n
    by_cases hm : m = 0
    · subst hm
      cases n with
      | zero => rfl
      | succ n => simp [pas]
    · have hi := ih (m / 2) (by omega) (n / 2)
      rw [show decide (n &&& m = n) = decide ((n / 2 &&& m / 2 = n / 2) ∧ (n % 2 = 1 → m % 2 = 1)) from decide_eq_decide.2 (land_half n m)]
      rcases Nat.mod_two_eq_zero_or_one m with hm2 | hm2 <;> rcases Nat.mod_two_eq_zero_or_one n with hn2 | hn2
      · have e1 : pas m n = pas (m / 2) (n / 2) := by
          have := (pas_two (m / 2) (n / 2)).1
          rwa [show 2 * (m / 2) = m by omega, show 2 * (n / 2) = n by omega] at this
        rw [e1, hi]; simp [hn2]
      · have e1 : pas m n = false := by
          have := (pas_two (m / 2) (n / 2)).2
          rwa [show 2 * (m / 2) = m by omega, show 2 * (n / 2) + 1 = n by omega] at this
        rw [e1]; simp [hn2, hm2]
      · have e1 : pas m n = pas (m / 2) (n / 2) := by
          have := (pas_odd (m / 2) (n / 2)).1
          rwa [show 2 * (m / 2) + 1 = m by omega, show 2 * (n / 2) = n by omega] at this
        rw [e1, hi]; simp [hn2]
      · have e1 : pas m n = pas (m / 2) (n / 2) := by
          have := (pas_odd (m / 2) (n / 2)).2
          rwa [show 2 * (m / 2) + 1 = m by omega, show 2 * (n / 2) + 1 = n by omega] at this
        rw [e1, hi]; simp [hn2, hm2]

theorem add_or : ∀ a b : Nat, a &&& b = 0 → a + b = a ||| b := by
  intro a
  induction a using Nat.strongRecOn with
  | _ a ih =>
    intro b h
    by_cases ha : a = 0
    · simp [ha]
    · have h1 : (a &&& b) / 2 = a / 2 &&& b / 2 := Nat.and_div_two
      have h2 : (a &&& b) % 2 = 1 ↔ a % 2 = 1 ∧ b % 2 = 1 := Nat.and_mod_two_eq_one
      have h3 : (a ||| b) / 2 = a / 2 ||| b / 2 := Nat.or_div_two
      have h4 : (a ||| b) % 2 = 1 ↔ a % 2 = 1 ∨ b % 2 = 1 := Nat.or_mod_two_eq_one
      rw [h] at h1 h2
      have hi := ih (a / 2) (by omega) (b / 2) (by simpa using h1.symm)
      rw [← h3] at hi
      omega
theorem land_sub {n m : Nat} (h : n &&& m = n) : n &&& (m - n) = 0 ∧ (m - n) &&& m = m - n := by
  have e1 : n &&& (m ^^^ n) = 0 := by
    apply Nat.eq_of_testBit_eq; intro i
    have := congrArg (fun x => x.testBit i) h
    simp at this ⊢
    cases hn : n.testBit i <;> cases hm : m.testBit i <;> simp_all
  have e2 : n ||| (m ^^^ n) = m := by
    apply Nat.eq_of_testBit_eq; intro i
    have := congrArg (fun x => x.testBit i) h
    simp at this ⊢
    cases hn : n.testBit i <;> cases hm : m.testBit i <;> simp_all
  have e3 := add_or _ _ e1
  rw [e2] at e3
  have e4 : m - n = m ^^^ n := by omega
  rw [e4]
  refine ⟨e1, ?_⟩
  apply Nat.eq_of_testBit_eq; intro i
  have := congrArg (fun x => x.testBit i) h
  simp at this ⊢
  cases hn : n.testBit i <;> cases hm : m.testBit i <;> simp_all
theorem land_of_zero {n m : Nat} (hle : n ≤ m) (h : n &&& (m - n) = 0) : n &&& m = n := by
  have e := add_or _ _ h
  rw [show n + (m - n) = m by omega] at e
  rw [e]
  apply Nat.eq_of_testBit_eq; intro i
  simp
  cases n.testBit i <;> simp
theorem land_of_sub {n m : Nat} (hle : n ≤ m) (h : (m - n) &&& m = m - n) : n &&& m = n := by
  have := (land_sub h).2
  rwa [show m - (m - n) = n by omega] at this

theorem andNot_zero {a b : Nat} (ha : a < 4294967296) (hb : b < 4294967296) : andNot a b = 0 ↔ a &&& b = a := by
  have e1 : BitVec.ofInt IntKind.u32.bits (a : Int) = BitVec.ofNat 32 a := by simp [IntKind.bits]
  have e2 : BitVec.ofInt IntKind.u32.bits (b : Int) = BitVec.ofNat 32 b := by simp [IntKind.bits]
  have e : andNot a b = ((BitVec.ofNat 32 a &&& ~~~ BitVec.ofNat 32 b).toNat : Int) % 4294967296 := by
    unfold andNot
    rw [IntKind.wrap_u32', ← e1, ← e2]
    rfl
  rw [e]
  have hlt : (BitVec.ofNat 32 a &&& ~~~ BitVec.ofNat 32 b).toNat < 4294967296 := (BitVec.ofNat 32 a &&& ~~~ BitVec.ofNat 32 b).isLt
  have h0 : ((BitVec.ofNat 32 a &&& ~~~ BitVec.ofNat 32 b).toNat : Int) % 4294967296 = 0 ↔ (BitVec.ofNat 32 a &&& ~~~ BitVec.ofNat 32 b) = 0#32 := by
    rw [← BitVec.toNat_inj]
    simp only [BitVec.toNat_ofNat]
    omega
  rw [h0]
  have h1 : (BitVec.ofNat 32 a &&& ~~~ BitVec.ofNat 32 b) = 0#32 ↔ (BitVec.ofNat 32 a &&& BitVec.ofNat 32 b) = BitVec.ofNat 32 a := by
    constructor
    · intro h
      apply BitVec.eq_of_getLsbD_eq; intro i hi
      have := congrArg (fun x => x.getLsbD i) h
      simp [hi] at this ⊢
      cases h1 : a.testBit i <;> cases h2 : b.testBit i <;> simp_all
    · intro h
      apply BitVec.eq_of_getLsbD_eq; intro i hi
      have := congrArg (fun x => x.getLsbD i) h
      simp [hi] at this ⊢
      cases h1 : a.testBit i <;> cases h2 : b.testBit i <;> simp_all
  rw [h1, ← BitVec.toNat_inj, BitVec.toNat_and, BitVec.toNat_ofNat, BitVec.toNat_ofNat, Nat.mod_eq_of_lt ha, Nat.mod_eq_of_lt hb]
theorem land64 {a b : Nat} (ha : a < 9223372036854775808) (hb : b < 9223372036854775808) : IntKind.i64.wrap (BitVec.ofInt IntKind.i64.bits a &&& BitVec.ofInt IntKind.i64.bits b).toNat = ((a &&& b : Nat) : Int) := by
  have e1 : BitVec.ofInt IntKind.i64.bits (a : Int) = BitVec.ofNat 64 a := by simp [IntKind.bits]
  have e2 : BitVec.ofInt IntKind.i64.bits (b : Int) = BitVec.ofNat 64 b := by simp [IntKind.bits]
  have e : (BitVec.ofInt IntKind.i64.bits a &&& BitVec.ofInt IntKind.i64.bits b).toNat = a &&& b := by
    rw [e1, e2]
    show (BitVec.ofNat 64 a &&& BitVec.ofNat 64 b).toNat = _
    rw [BitVec.toNat_and, BitVec.toNat_ofNat, BitVec.toNat_ofNat, Nat.mod_eq_of_lt (by omega), Nat.mod_eq_of_lt (by omega)]
  rw [e]
  have : a &&& b ≤ a := Nat.and_le_left
  exact wrap64 (by omega) (by omega)
end Go.Proofs.Ytpfcijgcjghgeaa
