/- Plain facts on numbers with signs as the program holds them. (Own work of this repo.) -/
import Derived.Test.YtpfcijgcjghgeaaVal
set_option linter.unusedVariables false
set_option linter.unusedSimpArgs false
namespace Vm

def ng (z : Int) : Bool := decide (z < 0)
def dg (z : Int) : List Nat := dig z.natAbs
/-- A number as the program holds it: its sign, its words ('m': is the row nil?). -/
abbrev I (m : Bool) (z : Int) : AV := .agg [.bool (ng z), .lst m ((dg z).map wd)]
def fit (z : Int) : Int := if (dg z).length ≤ 4096 then z else 0
def er (z : Int) : Int := if (dg z).length ≤ 4096 then 0 else 4
def fm (m : Bool) (z : Int) : Bool := if (dg z).length ≤ 4096 then m else true
/-- A number and an error: the number, if it is not too long. -/
abbrev RI (m : Bool) (z : Int) : AV := .tup [I (fm m z) (fit z), .int .i64 (er z)]
/-- A number as the reference makes it. -/
abbrev RM (z : Int) : AV := I (decide (z = 0)) z
/-- A number out of sign and absolute value. -/
def sg (neg : Bool) (n : Nat) : Int := if neg then -(n : Int) else n

theorem dg_inR (z : Int) : InR (dg z) := dig_inR _
theorem dg_norm (z : Int) : Norm (dg z) := dig_norm _
theorem val_dg (z : Int) : val (dg z) = z.natAbs := val_dig _
theorem ng_true {z : Int} : ng z = true ↔ z < 0 := by simp [ng]
theorem ng_false {z : Int} : ng z = false ↔ 0 ≤ z := by simp [ng]
theorem ng_zero : ng 0 = false := rfl
theorem ng_nat (n : Nat) : ng (n : Int) = false := by simp [ng]
theorem dg_nat (n : Nat) : dg (n : Int) = dig n := rfl
theorem dg_zero : dg 0 = [] := dig_zero
theorem dg_neg (z : Int) : dg (-z) = dg z := by simp [dg]
theorem dg_abs (z : Int) : dg (z.natAbs : Int) = dg z := rfl
theorem dg_nil {z : Int} : dg z = [] ↔ z = 0 := by unfold dg; rw [dig_nil]; omega
theorem dg_len0 {z : Int} : (dg z).length = 0 ↔ z = 0 := by rw [List.length_eq_zero_iff, dg_nil]
theorem dg_pos {z : Int} : 0 < (dg z).length ↔ z ≠ 0 := by rw [Nat.pos_iff_ne_zero, ne_eq, dg_len0]
theorem dg_len {z : Int} {k : Nat} : (dg z).length ≤ k ↔ z.natAbs < BB ^ k := dig_len
theorem sg_abs (neg : Bool) (n : Nat) : (sg neg n).natAbs = n := by unfold sg; split <;> omega
theorem dg_sg (neg : Bool) (n : Nat) : dg (sg neg n) = dig n := by unfold dg; rw [sg_abs]
theorem ng_sg (neg : Bool) (n : Nat) : ng (sg neg n) = (neg && decide (n ≠ 0)) := by
  unfold sg ng; cases neg
  · simp
  · by_cases h : n = 0
    · subst h; simp
    · simp [h]; omega
theorem sg_ng (z : Int) : sg (ng z) z.natAbs = z := by
  unfold sg ng; by_cases h : z < 0
  · simp [h]; omega
  · simp [h]; omega
theorem sg_not (z : Int) : sg (!(ng z)) z.natAbs = -z := by
  unfold sg ng; by_cases h : z < 0
  · simp [h]; omega
  · simp [h]; omega
theorem int_ext {a b : Int} (h1 : ng a = ng b) (h2 : dg a = dg b) : a = b := by
  rw [← sg_ng a, ← sg_ng b, h1]
  congr 1
  exact dig_inj h2
theorem fit_of {z : Int} (h : (dg z).length ≤ 4096) : fit z = z := if_pos h
theorem er_of {z : Int} (h : (dg z).length ≤ 4096) : er z = 0 := if_pos h
theorem fm_of {m : Bool} {z : Int} (h : (dg z).length ≤ 4096) : fm m z = m := if_pos h
theorem fit_no {z : Int} (h : ¬ (dg z).length ≤ 4096) : fit z = 0 := if_neg h
theorem er_no {z : Int} (h : ¬ (dg z).length ≤ 4096) : er z = 4 := if_neg h
theorem fm_no {m : Bool} {z : Int} (h : ¬ (dg z).length ≤ 4096) : fm m z = true := if_neg h
theorem fit_len (z : Int) : (dg (fit z)).length ≤ 4096 := by
  unfold fit; split
  · assumption
  · rw [dg_zero]; simp
theorem pow_max (a b : Nat) : BB ^ a + BB ^ b ≤ BB ^ (max a b + 1) := by
  have h1 : BB ^ a ≤ BB ^ (max a b) := Nat.pow_le_pow_right (by decide) (by omega)
  have h2 : BB ^ b ≤ BB ^ (max a b) := Nat.pow_le_pow_right (by decide) (by omega)
  rw [Nat.pow_succ]
  have : BB ^ max a b * 2 ≤ BB ^ max a b * BB := Nat.mul_le_mul_left _ (by decide)
  omega
theorem dig_lt (n : Nat) : n < BB ^ (dig n).length := dig_len.1 (Nat.le_refl _)
theorem dig_add (a b : Nat) : (dig (a + b)).length ≤ max (dig a).length (dig b).length + 1 := by
  rw [dig_len]
  have h1 := dig_lt a
  have h2 := dig_lt b
  have h3 := pow_max (dig a).length (dig b).length
  omega
theorem dig_mono {a b : Nat} (h : a ≤ b) : (dig a).length ≤ (dig b).length := by
  rw [dig_len]
  have := dig_lt b
  omega
theorem dig_mul (a b : Nat) : (dig (a * b)).length ≤ (dig a).length + (dig b).length := by
  rw [dig_len, Nat.pow_add]
  exact Nat.mul_lt_mul'' (dig_lt a) (dig_lt b)
theorem dg_add (a b : Int) : (dg (a + b)).length ≤ max (dg a).length (dg b).length + 1 :=
  Nat.le_trans (dig_mono (Int.natAbs_add_le a b)) (dig_add _ _)
theorem dg_sub (a b : Int) : (dg (a - b)).length ≤ max (dg a).length (dg b).length + 1 := by
  have := dg_add a (-b)
  rwa [dg_neg] at this
theorem dg_mul (a b : Int) : (dg (a * b)).length ≤ (dg a).length + (dg b).length := by
  unfold dg; rw [Int.natAbs_mul]; exact dig_mul _ _
theorem dg_mono {a b : Int} (h : a.natAbs ≤ b.natAbs) : (dg a).length ≤ (dg b).length := dig_mono h
/-- The words' comparison, of numbers. -/
theorem dig_cmp {a b : Nat} (h : (dig a).length < (dig b).length) : a < b := by
  rcases Nat.lt_or_ge a b with h1 | h1
  · exact h1
  · have := dig_mono h1; omega
/-- A product of two numbers has at least so many words. -/
theorem dg_mul_ge {a b : Int} (ha : a ≠ 0) (hb : b ≠ 0) : (dg a).length + (dg b).length ≤ (dg (a * b)).length + 1 := by
  have h1 : BB ^ ((dg a).length - 1) ≤ a.natAbs := by
    have := norm_ge (dg_norm a) (by rw [ne_eq, dg_nil]; exact ha); rwa [val_dg] at this
  have h2 : BB ^ ((dg b).length - 1) ≤ b.natAbs := by
    have := norm_ge (dg_norm b) (by rw [ne_eq, dg_nil]; exact hb); rwa [val_dg] at this
  have h3 : BB ^ ((dg a).length - 1 + ((dg b).length - 1)) ≤ (a * b).natAbs := by
    rw [Nat.pow_add, Int.natAbs_mul]; exact Nat.mul_le_mul h1 h2
  have h4 := dg_pos.2 ha
  have h5 := dg_pos.2 hb
  rcases Nat.lt_or_ge ((dg (a * b)).length + 1) ((dg a).length + (dg b).length) with h | h
  · have h6 : (a * b).natAbs < BB ^ (dg (a * b)).length := dg_len.1 (Nat.le_refl _)
    have h7 : BB ^ (dg (a * b)).length ≤ BB ^ ((dg a).length - 1 + ((dg b).length - 1)) := Nat.pow_le_pow_right (by decide) (by omega)
    omega
  · exact h
def mz (x y : Int) : Bool := decide (x = 0 ∨ y = 0)
theorem sg_mul (x y : Int) : sg (ng x != ng y) (x.natAbs * y.natAbs) = x * y := by
  rcases Int.natAbs_eq x with h | h <;> rcases Int.natAbs_eq y with h' | h' <;> (generalize x.natAbs = a at h; generalize y.natAbs = b at h'; subst h; subst h')
  · simp [ng_nat, sg]
  · by_cases hb : b = 0
    · subst hb; simp [sg]
    · have : ng (-(b : Int)) = true := ng_true.2 (by omega)
      simp [ng_nat, sg, this, Int.mul_neg]
  · by_cases hb : a = 0
    · subst hb; simp [sg]
    · have : ng (-(a : Int)) = true := ng_true.2 (by omega)
      simp [ng_nat, sg, this, Int.neg_mul]
  · by_cases ha : a = 0
    · subst ha; simp [sg]
    · by_cases hb : b = 0
      · subst hb; simp [sg]
      · have h1 : ng (-(b : Int)) = true := ng_true.2 (by omega)
        have h2 : ng (-(a : Int)) = true := ng_true.2 (by omega)
        simp [sg, h1, h2, Int.neg_mul_neg]
def cmpI (a b : Int) : Int := if a < b then -1 else if b < a then 1 else 0
end Vm
