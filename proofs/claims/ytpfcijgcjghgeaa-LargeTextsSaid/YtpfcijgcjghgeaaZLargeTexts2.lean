/- Part 2 of a proof about this seat: Nums, Words, Cut, Open, Form, Nat1, Nat2, Nat3, Nat4, Int1, Ref1, Ref2, Ref3, Row, Law1, Awake, BitLen, Sh1, Sh2, Of, Sh3. (Own work of this repo.) -/
import Derived.Test.YtpfcijgcjghgeaaZLargeTexts1
import Derived.OpenShut
import Derived.Carry
import Derived.Deep.Slices
set_option linter.unusedVariables false
set_option linter.unusedSimpArgs false
/- Plain facts on numbers with signs as the program holds them. (Own work of this repo.) -/
namespace Vm

def ng (z : Int) : Bool := decide (z < 0)
def dg (z : Int) : List Nat := dig z.natAbs
/-- A number as the program holds it: its sign, its words ('m': is the row nil?). -/
abbrev I (m : Bool) (z : Int) : AV := .agg [.bool (ng z), .lst m ((dg z).map wd)]
def fit (z : Int) : Int := if (dg z).length ≤ 4096 then z else 0
def er (z : Int) : Int := if (dg z).length ≤ 4096 then 0 else 4
def fm (m : Bool) (z : Int) : Bool := if (dg z).length ≤ 4096 then m else true
/-- A number and an error: the number, if it is not too long. -/
abbrev RI (m : Bool) (z : Int) : AV := .tup [I (fm m z) (fit z), .int .i64 (er z)]
/-- A number as the reference makes it. -/
abbrev RM (z : Int) : AV := I (decide (z = 0)) z
/-- A number out of sign and absolute value. -/
def sg (neg : Bool) (n : Nat) : Int := if neg then -(n : Int) else n

theorem dg_inR (z : Int) : InR (dg z) := dig_inR _
theorem dg_norm (z : Int) : Norm (dg z) := dig_norm _
theorem val_dg (z : Int) : val (dg z) = z.natAbs := val_dig _
theorem ng_true {z : Int} : ng z = true ↔ z < 0 := by simp [ng]
theorem ng_false {z : Int} : ng z = false ↔ 0 ≤ z := by simp [ng]
theorem ng_zero : ng 0 = false := rfl
theorem ng_nat (n : Nat) : ng (n : Int) = false := by simp [ng]
theorem dg_nat (n : Nat) : dg (n : Int) = dig n := rfl
theorem dg_zero : dg 0 = [] := dig_zero
theorem dg_neg (z : Int) : dg (-z) = dg z := by simp [dg]
theorem dg_abs (z : Int) : dg (z.natAbs : Int) = dg z := rfl
theorem dg_nil {z : Int} : dg z = [] ↔ z = 0 := by unfold dg; rw [dig_nil]; omega
theorem dg_len0 {z : Int} : (dg z).length = 0 ↔ z = 0 := by rw [List.length_eq_zero_iff, dg_nil]
theorem dg_pos {z : Int} : 0 < (dg z).length ↔ z ≠ 0 := by rw [Nat.pos_iff_ne_zero, ne_eq, dg_len0]
theorem dg_len {z : Int} {k : Nat} : (dg z).length ≤ k ↔ z.natAbs < BB ^ k := dig_len
theorem sg_abs (neg : Bool) (n : Nat) : (sg neg n).natAbs = n := by unfold sg; split <;> omega
theorem dg_sg (neg : Bool) (n : Nat) : dg (sg neg n) = dig n := by unfold dg; rw [sg_abs]
theorem ng_sg (neg : Bool) (n : Nat) : ng (sg neg n) = (neg && decide (n ≠ 0)) := by
  unfold sg ng; cases neg
  · simp
  · by_cases h : n = 0
    · subst h; simp
    · simp [h]; omega
theorem sg_ng (z : Int) : sg (ng z) z.natAbs = z := by
  unfold sg ng; by_cases h : z < 0
  · simp [h]; omega
  · simp [h]; omega
theorem sg_not (z : Int) : sg (!(ng z)) z.natAbs = -z := by
  unfold sg ng; by_cases h : z < 0
  · simp [h]; omega
  · simp [h]; omega
theorem int_ext {a b : Int} (h1 : ng a = ng b) (h2 : dg a = dg b) : a = b := by
  rw [← sg_ng a, ← sg_ng b, h1]
  congr 1
  exact dig_inj h2
theorem fit_of {z : Int} (h : (dg z).length ≤ 4096) : fit z = z := if_pos h
theorem er_of {z : Int} (h : (dg z).length ≤ 4096) : er z = 0 := if_pos h
theorem fm_of {m : Bool} {z : Int} (h : (dg z).length ≤ 4096) : fm m z = m := if_pos h
theorem fit_no {z : Int} (h : ¬ (dg z).length ≤ 4096) : fit z = 0 := if_neg h
theorem er_no {z : Int} (h : ¬ (dg z).length ≤ 4096) : er z = 4 := if_neg h
theorem fm_no {m : Bool} {z : Int} (h : ¬ (dg z).length ≤ 4096) : fm m z = true := if_neg h
theorem fit_len (z : Int) : (dg (fit z)).length ≤ 4096 := by
  unfold fit; split
  · assumption
  · rw [dg_zero]; simp
theorem pow_max (a b : Nat) : BB ^ a + BB ^ b ≤ BB ^ (max a b + 1) := by
  have h1 : BB ^ a ≤ BB ^ (max a b) := Nat.pow_le_pow_right (by decide) (by omega)
  have h2 : BB ^ b ≤ BB ^ (max a b) := Nat.pow_le_pow_right (by decide) (by omega)
  rw [Nat.pow_succ]
  have : BB ^ max a b * 2 ≤ BB ^ max a b * BB := Nat.mul_le_mul_left _ (by decide)
  omega
theorem dig_lt (n : Nat) : n < BB ^ (dig n).length := dig_len.1 (Nat.le_refl _)
theorem dig_add (a b : Nat) : (dig (a + b)).length ≤ max (dig a).length (dig b).length + 1 := by
  rw [dig_len]
  have h1 := dig_lt a
  have h2 := dig_lt b
  have h3 := pow_max (dig a).length (dig b).length
  omega
theorem dig_mono {a b : Nat} (h : a ≤ b) : (dig a).length ≤ (dig b).length := by
  rw [dig_len]
  have := dig_lt b
  omega
theorem dig_mul (a b : Nat) : (dig (a * b)).length ≤ (dig a).length + (dig b).length := by
  rw [dig_len, Nat.pow_add]
  exact Nat.mul_lt_mul'' (dig_lt a) (dig_lt b)
theorem dg_add (a b : Int) : (dg (a + b)).length ≤ max (dg a).length (dg b).length + 1 :=
  Nat.le_trans (dig_mono (Int.natAbs_add_le a b)) (dig_add _ _)
theorem dg_sub (a b : Int) : (dg (a - b)).length ≤ max (dg a).length (dg b).length + 1 := by
  have := dg_add a (-b)
  rwa [dg_neg] at this
theorem dg_mul (a b : Int) : (dg (a * b)).length ≤ (dg a).length + (dg b).length := by
  unfold dg; rw [Int.natAbs_mul]; exact dig_mul _ _
theorem dg_mono {a b : Int} (h : a.natAbs ≤ b.natAbs) : (dg a).length ≤ (dg b).length := dig_mono h
/-- The words' comparison, of numbers. -/
theorem dig_cmp {a b : Nat} (h : (dig a).length < (dig b).length) : a < b := by
  rcases Nat.lt_or_ge a b with h1 | h1
  · exact h1
  · have := dig_mono h1; omega
/-- A product of two numbers has at least so many words. -/
theorem dg_mul_ge {a b : Int} (ha : a ≠ 0) (hb : b ≠ 0) : (dg a).length + (dg b).length ≤ (dg (a * b)).length + 1 := by
  have h1 : BB ^ ((dg a).length - 1) ≤ a.natAbs := by
    have := norm_ge (dg_norm a) (by rw [ne_eq, dg_nil]; exact ha); rwa [val_dg] at this
  have h2 : BB ^ ((dg b).length - 1) ≤ b.natAbs := by
    have := norm_ge (dg_norm b) (by rw [ne_eq, dg_nil]; exact hb); rwa [val_dg] at this
  have h3 : BB ^ ((dg a).length - 1 + ((dg b).length - 1)) ≤ (a * b).natAbs := by
    rw [Nat.pow_add, Int.natAbs_mul]; exact Nat.mul_le_mul h1 h2
  have h4 := dg_pos.2 ha
  have h5 := dg_pos.2 hb
  rcases Nat.lt_or_ge ((dg (a * b)).length + 1) ((dg a).length + (dg b).length) with h | h
  · have h6 : (a * b).natAbs < BB ^ (dg (a * b)).length := dg_len.1 (Nat.le_refl _)
    have h7 : BB ^ (dg (a * b)).length ≤ BB ^ ((dg a).length - 1 + ((dg b).length - 1)) := Nat.pow_le_pow_right (by decide) (by omega)
    omega
  · exact h
def mz (x y : Int) : Bool := decide (x = 0 ∨ y = 0)
theorem sg_mul (x y : Int) : sg (ng x != ng y) (x.natAbs * y.natAbs) = x * y := by
  rcases Int.natAbs_eq x with h | h <;> rcases Int.natAbs_eq y with h' | h' <;> (generalize x.natAbs = a at h; generalize y.natAbs = b at h'; subst h; subst h')
  · simp [ng_nat, sg]
  · by_cases hb : b = 0
    · subst hb; simp [sg]
    · have : ng (-(b : Int)) = true := ng_true.2 (by omega)
      simp [ng_nat, sg, this, Int.mul_neg]
  · by_cases hb : a = 0
    · subst hb; simp [sg]
    · have : ng (-(a : Int)) = true := ng_true.2 (by omega)
      simp [ng_nat, sg, this, Int.neg_mul]
  · by_cases ha : a = 0
    · subst ha; simp [sg]
    · by_cases hb : b = 0
      · subst hb; simp [sg]
      · have h1 : ng (-(b : Int)) = true := ng_true.2 (by omega)
        have h2 : ng (-(a : Int)) = true := ng_true.2 (by omega)
        simp [sg, h1, h2, Int.neg_mul_neg]
def cmpI (a b : Int) : Int := if a < b then -1 else if b < a then 1 else 0
attribute [go_sem] RI RM I
end Vm

/- Plain facts on the operations of words. (Own work of this repo.) -/
namespace Vm
open Go

theorem denP_ex {E : Env} {α : Type} {f : FuncId} {fn : Func} {c : Code} {args : List AV} {F : α → AV} {Q : α → Prop} (hf : E.fn f = some fn) (hb : fn.body = some c) (hp : AV.pureL args = true)
    (h : W E c ⟨args ++ List.replicate (fn.ntmps - args.length) undef, Heap.empty, 0⟩ (retK E fn.results.toList (fun v => ∃ o, v = F o ∧ Q o))) : ∃ o, denP E f args = some (.ret (F o)) ∧ Q o := by
  obtain ⟨v, h1, o, rfl, h2⟩ := denP_intro hf hb hp h
  exact ⟨o, h1, h2⟩
theorem ofInt_nat (w n : Nat) : BitVec.ofInt w (n : Int) = BitVec.ofNat w n := BitVec.ofInt_natCast w n
/-- The bits that two numbers have in common, of 64. -/
theorem and64 {a b : Nat} (ha : a < 18446744073709551616) (hb : b < 18446744073709551616) : IntKind.u64.wrap ((BitVec.ofInt (kb .u64) (a : Int) &&& BitVec.ofInt (kb .u64) (b : Int)).toNat : Int) = ((a &&& b : Nat) : Int) := by
  have e : (BitVec.ofInt (kb .u64) (a : Int) &&& BitVec.ofInt (kb .u64) (b : Int)).toNat = a &&& b := by
    rw [ofInt_nat, ofInt_nat, show (kb .u64) = 64 from rfl, BitVec.toNat_and, BitVec.toNat_ofNat, BitVec.toNat_ofNat, Nat.mod_eq_of_lt ha, Nat.mod_eq_of_lt hb]
  rw [e]
  have : a &&& b ≤ a := Nat.and_le_left
  exact wrapu64 (by omega) (by omega)
theorem or64 {a b : Nat} (ha : a < 18446744073709551616) (hb : b < 18446744073709551616) : IntKind.u64.wrap ((BitVec.ofInt (kb .u64) (a : Int) ||| BitVec.ofInt (kb .u64) (b : Int)).toNat : Int) = ((a ||| b : Nat) : Int) := by
  have e : (BitVec.ofInt (kb .u64) (a : Int) ||| BitVec.ofInt (kb .u64) (b : Int)).toNat = a ||| b := by
    rw [ofInt_nat, ofInt_nat, show (kb .u64) = 64 from rfl, BitVec.toNat_or, BitVec.toNat_ofNat, BitVec.toNat_ofNat, Nat.mod_eq_of_lt ha, Nat.mod_eq_of_lt hb]
  rw [e]
  have : a ||| b < 2 ^ 64 := Nat.or_lt_two_pow ha hb
  exact wrapu64 (by omega) (by omega)
theorem and32b {a b : Nat} (ha : a < 4294967296) (hb : b < 4294967296) : IntKind.u32.wrap ((BitVec.ofInt (kb .u32) (a : Int) &&& BitVec.ofInt (kb .u32) (b : Int)).toNat : Int) = ((a &&& b : Nat) : Int) := by
  have e : (BitVec.ofInt (kb .u32) (a : Int) &&& BitVec.ofInt (kb .u32) (b : Int)).toNat = a &&& b := by
    rw [ofInt_nat, ofInt_nat, show (kb .u32) = 32 from rfl, BitVec.toNat_and, BitVec.toNat_ofNat, BitVec.toNat_ofNat, Nat.mod_eq_of_lt ha, Nat.mod_eq_of_lt hb]
  rw [e]
  have : a &&& b ≤ a := Nat.and_le_left
  exact wrapu32 (by omega) (by omega)
theorem or32b {a b : Nat} (ha : a < 4294967296) (hb : b < 4294967296) : IntKind.u32.wrap ((BitVec.ofInt (kb .u32) (a : Int) ||| BitVec.ofInt (kb .u32) (b : Int)).toNat : Int) = ((a ||| b : Nat) : Int) := by
  have e : (BitVec.ofInt (kb .u32) (a : Int) ||| BitVec.ofInt (kb .u32) (b : Int)).toNat = a ||| b := by
    rw [ofInt_nat, ofInt_nat, show (kb .u32) = 32 from rfl, BitVec.toNat_or, BitVec.toNat_ofNat, BitVec.toNat_ofNat, Nat.mod_eq_of_lt ha, Nat.mod_eq_of_lt hb]
  rw [e]
  have : a ||| b < 2 ^ 32 := Nat.or_lt_two_pow ha hb
  exact wrapu32 (by omega) (by omega)
theorem and63 {a b : Nat} (ha : a < 9223372036854775808) (hb : b < 9223372036854775808) : IntKind.i64.wrap ((BitVec.ofInt (kb .i64) (a : Int) &&& BitVec.ofInt (kb .i64) (b : Int)).toNat : Int) = ((a &&& b : Nat) : Int) := by
  have e : (BitVec.ofInt (kb .i64) (a : Int) &&& BitVec.ofInt (kb .i64) (b : Int)).toNat = a &&& b := by
    rw [ofInt_nat, ofInt_nat, show (kb .i64) = 64 from rfl, BitVec.toNat_and, BitVec.toNat_ofNat, BitVec.toNat_ofNat, Nat.mod_eq_of_lt (by omega), Nat.mod_eq_of_lt (by omega)]
  rw [e]
  have : a &&& b ≤ a := Nat.and_le_left
  exact wrap64 (by omega) (by omega)
/-- The low word. -/
theorem and_low {n : Nat} (h : n < 18446744073709551616) : IntKind.u64.wrap ((BitVec.ofInt (kb .u64) (n : Int) &&& BitVec.ofInt (kb .u64) 4294967295).toNat : Int) = ((n % 4294967296 : Nat) : Int) := by
  have := and64 (b := 4294967295) h (by decide)
  rw [show (4294967295 : Int) = ((4294967295 : Nat) : Int) from rfl, this, show 4294967295 = 2 ^ 32 - 1 from rfl, Nat.and_two_pow_sub_one_eq_mod]
theorem shr_nat (n k b : Nat) : (n : Int).fdiv (2 ^ min k b) = ((n / 2 ^ min k b : Nat) : Int) := by
  rw [Int.fdiv_eq_ediv_of_nonneg _ (by exact Int.pow_nonneg (by decide))]
  push_cast
  rfl
/-- Bits that don't meet. -/
theorem or_add {a b k : Nat} (ha : a < 2 ^ k) : a ||| (b * 2 ^ k) = a + b * 2 ^ k := by
  rw [Nat.or_comm, Nat.mul_comm b, ← Nat.two_pow_add_eq_or_of_lt ha]; omega
end Vm

/- The machine over pure values: a walk cut in two. (Own work of this repo.) -/
namespace Vm
open Go
section
variable {E : Env} {Q Q' : Ex → St → Prop} {all os : List Oper} {o : Oper} {dst : Option Nat} {σ : St} {g : FuncId} {ids : List Nat}
theorem Rg_mono (hq : ∀ e σ, Q e σ → Q' e σ) (h : Rg E all os σ Q) : Rg E all os σ Q' := let ⟨e, σ', h1, h2⟩ := h; ⟨e, σ', h1, hq _ _ h2⟩
theorem effK_mono (hq : ∀ e σ, Q e σ → Q' e σ) {x : Option Eff} (h : effK E all os dst Q σ x) : effK E all os dst Q' σ x := by
  unfold effK at h ⊢
  split at h
  · exact Rg_mono hq h
  · exact Rg_mono hq h
  · exact hq _ _ h
  · exact h.elim
theorem callK_mono (hq : ∀ e σ, Q e σ → Q' e σ) {x : Option Res} (h : callK E all os dst Q σ g ids x) : callK E all os dst Q' σ g ids x := by
  unfold callK at h ⊢
  split at h
  · exact Rg_mono hq h
  · exact hq _ _ h
  · exact h.elim
theorem argK_mono (hq : ∀ e σ, Q e σ → Q' e σ) {x : Option (List AV × List Nat)} (h : argK E all os dst Q σ g x) : argK E all os dst Q' σ g x := by
  unfold argK at h ⊢
  split at h
  · exact callK_mono hq h
  · exact h.elim
theorem openK_mono (hq : ∀ e σ, Q e σ → Q' e σ) {x : Option (Res × Heap × Nat)} (h : openK E all os dst Q σ x) : openK E all os dst Q' σ x := by
  unfold openK at h ⊢
  split at h
  · exact Rg_mono hq h
  · exact hq _ _ h
  · exact h.elim
theorem targK_mono (hq : ∀ e σ, Q e σ → Q' e σ) {x : Option (FuncId × List AV)} (h : targK E all os o Q σ x) : targK E all os o Q' σ x := by
  unfold targK at h ⊢
  split at h
  · split at h
    · rename_i hc; rw [if_pos hc]; exact openK_mono hq h
    · rename_i hc; rw [if_neg hc]; exact argK_mono hq h
  · exact effK_mono hq h
theorem wantK_mono (hq : ∀ e σ, Q e σ → Q' e σ) {x : Option Bool} (h : wantK E all os o Q σ x) : wantK E all os o Q' σ x := by
  unfold wantK at h ⊢
  split at h
  · exact targK_mono hq h
  · exact Rg_mono hq h
  · exact h.elim
theorem thenK_mono {b : Code} (hq : ∀ e σ, Q e σ → Q' e σ) : ∀ e σ, thenK E b Q e σ → thenK E b Q' e σ := by
  intro e σ h
  cases e with
  | norm => exact W_mono h hq
  | exit i => exact hq _ _ h
  | ret => exact hq _ _ h
  | panic v => exact hq _ _ h
theorem blockK_mono {i : Nat} (hq : ∀ e σ, Q e σ → Q' e σ) : ∀ e σ, blockK i Q e σ → blockK i Q' e σ := by
  intro e σ h
  cases e with
  | norm => exact hq _ _ h
  | exit j => rw [blockK_exit] at h ⊢; split at h <;> rename_i hj <;> simp only [hj, if_true, if_false] <;> exact hq _ _ h
  | ret => exact hq _ _ h
  | panic v => exact hq _ _ h
theorem condK_mono {a b : Code} (hq : ∀ e σ, Q e σ → Q' e σ) {x : Option AV} (h : condK E a b Q σ x) : condK E a b Q' σ x := by
  unfold condK at h ⊢
  split at h
  · split at h <;> rename_i ht
    · rw [if_pos ht]; exact W_mono h hq
    · rw [if_neg ht]; exact W_mono h hq
  · exact h.elim
variable {next next' : List Rec → St → Prop} {acc : List Rec}
theorem reK_mono (hn : ∀ acc σ, next acc σ → next' acc σ) {x : Option Eff} (h : reK dst next acc σ x) : reK dst next' acc σ x := by
  unfold reK at h ⊢
  split at h
  · exact hn _ _ h
  · exact hn _ _ h
  · exact h.elim
theorem rcK_mono (hn : ∀ acc σ, next acc σ → next' acc σ) {x : Option Res} (h : rcK dst next acc σ ids x) : rcK dst next' acc σ ids x := by
  unfold rcK at h ⊢
  split at h
  · exact hn _ _ h
  · exact h.elim
theorem raK_mono (hn : ∀ acc σ, next acc σ → next' acc σ) {x : Option (List AV × List Nat)} (h : raK E dst next acc σ g x) : raK E dst next' acc σ g x := by
  unfold raK at h ⊢
  split at h
  · exact rcK_mono hn h
  · exact h.elim
theorem rtK_mono (hn : ∀ acc σ, next acc σ → next' acc σ) {x : Option (FuncId × List AV)} (h : rtK E o next acc σ x) : rtK E o next' acc σ x := by
  unfold rtK at h ⊢
  split at h
  · exact raK_mono hn h
  · exact reK_mono hn h
theorem rwK_mono (hn : ∀ acc σ, next acc σ → next' acc σ) {x : Option Bool} (h : rwK E o next acc σ x) : rwK E o next' acc σ x := by
  unfold rwK at h ⊢
  split at h
  · exact rtK_mono hn h
  · exact hn _ _ h
  · exact h.elim
theorem Rc_mono (hq : ∀ σ, Q .norm σ → Q' .norm σ) : ∀ (os : List Oper) (acc : List Rec) (σ : St), Rc E all Q os acc σ → Rc E all Q' os acc σ
  | [], acc, σ, h => ⟨h.1, hq _ h.2⟩
  | o :: os, acc, σ, h => by
    simp only [Rc] at h ⊢
    exact rwK_mono (fun acc σ => Rc_mono hq os acc σ) h
end
end Vm

/- The machine over pure values: how one walks through a function that works over the caller's heap. (Own work of this repo.) -/
namespace Vm
open Go
section
variable {E : Env} {σ : St}
def resO (R : AV → Heap → Nat → Prop) (σ : St) : Option (List AV) → Prop
  | some vs => R (one vs) σ.h σ.nx
  | none => False
def retO (E : Env) (rs : List ResultVar) (R : AV → Heap → Nat → Prop) : Ex → St → Prop
  | .ret, σ => resO R σ (resOf E σ.h σ.sl rs)
  | .norm, σ => resO R σ (resOf E σ.h σ.sl rs)
  | _, _ => False
theorem resO_some {R : AV → Heap → Nat → Prop} {vs : List AV} : resO R σ (some vs) = R (one vs) σ.h σ.nx := rfl
theorem retO_ret {rs : List ResultVar} {R : AV → Heap → Nat → Prop} : retO E rs R .ret σ = resO R σ (resOf E σ.h σ.sl rs) := rfl
theorem retO_norm {rs : List ResultVar} {R : AV → Heap → Nat → Prop} : retO E rs R .norm σ = resO R σ (resOf E σ.h σ.sl rs) := rfl
theorem denO_intro {f : FuncId} {fn : Func} {c : Code} {args : List AV} {h : Heap} {nx : Nat} {R : AV → Heap → Nat → Prop} (hf : E.fn f = some fn) (hb : fn.body = some c)
    (hw : W E c ⟨args ++ List.replicate (fn.ntmps - args.length) undef, h, nx⟩ (retO E fn.results.toList R)) : ∃ v h' nx', denO E f args h nx = some (.ret v, h', nx') ∧ R v h' nx' := by
  obtain ⟨e, σ', hd, hq⟩ := hw
  unfold denO
  simp only [body, hf, hb, hd]
  have key : resO R σ' (resOf E σ'.h σ'.sl fn.results.toList) → ∃ vs, resOf E σ'.h σ'.sl fn.results.toList = some vs ∧ R (one vs) σ'.h σ'.nx := by
    intro hr
    unfold resO at hr
    split at hr
    · rename_i vs h1; exact ⟨vs, h1, hr⟩
    · exact hr.elim
  cases e with
  | ret =>
    obtain ⟨vs, h1, h2⟩ := key hq
    exact ⟨_, _, _, by simp only [h1], h2⟩
  | norm =>
    obtain ⟨vs, h1, h2⟩ := key hq
    exact ⟨_, _, _, by simp only [h1], h2⟩
  | exit i => exact hq.elim
  | panic v => exact hq.elim
theorem denO_eq {f : FuncId} {fn : Func} {c : Code} {args : List AV} {h h' : Heap} {nx nx' : Nat} {v : AV} (hf : E.fn f = some fn) (hb : fn.body = some c)
    (hw : W E c ⟨args ++ List.replicate (fn.ntmps - args.length) undef, h, nx⟩ (retO E fn.results.toList (fun r g n => r = v ∧ g = h' ∧ n = nx'))) : denO E f args h nx = some (.ret v, h', nx') := by
  obtain ⟨r, g, n, h1, rfl, rfl, rfl⟩ := denO_intro hf hb hw
  exact h1
theorem openK_ex {all os : List Oper} {dst : Option Nat} {Q : Ex → St → Prop} {α : Type} {x : Option (Res × Heap × Nat)} {v : AV} {n : Nat} {C : α → Heap → Prop} (h : ∃ o h', x = some (.ret v, h', n) ∧ C o h') (k : ∀ o h', C o h' → Rg E all os ⟨put σ.sl dst v, h', n⟩ Q) : openK E all os dst Q σ x := by
  obtain ⟨o, h', rfl, hc⟩ := h
  exact k o h' hc
theorem upd_same {h : Heap} {i : Nat} {b : Option Blk} : (h.upd i b) i = b := if_pos rfl
theorem upd_ne {h : Heap} {i j : Nat} {b : Option Blk} (e : j ≠ i) : (h.upd i b) j = h j := if_neg e
end
attribute [go_sem] retO_ret retO_norm resO_some
end Vm

/- Walks of the package large: what has to do with form. (Own work of this repo.) -/
namespace Go.Proofs.Ytpfcijgcjghgeaa
open Vm
set_option maxRecDepth 10000

theorem clone_nil (h : Heap) (nx : Nat) : denO E 81 [.lst true []] h nx = some (.ret (.lst true []), h, nx) := by
  refine denO_eq E81 rfl ?_
  simp (maxSteps := 4000000) (disch := omega) only [go_sem, ↓reduceIte, Nat.reduceAdd, Nat.reduceSub, Nat.reduceMul, Nat.reduceEqDiff, reduceCtorEq, Int.reduceAdd, Int.reduceLT, Int.reduceLE, Int.reduceToNat, Int.reduceNeg, Int.reduceSub, ← List.map_take, ← List.map_drop, wrap64, wrapu64, wrapu32, Try.f81, List.map_nil]
theorem clone_empty (h : Heap) (nx : Nat) : denO E 81 [.lst false []] h nx = some (.ret (.ref nx 0 0), h.upd nx (some ⟨[], false, 1, false⟩), nx + 1) := by
  refine denO_eq E81 rfl ?_
  simp (maxSteps := 4000000) (disch := omega) only [go_sem, ↓reduceIte, Nat.reduceAdd, Nat.reduceSub, Nat.reduceMul, Nat.reduceEqDiff, reduceCtorEq, Int.reduceAdd, Int.reduceLT, Int.reduceLE, Int.reduceToNat, Int.reduceNeg, Int.reduceSub, ← List.map_take, ← List.map_drop, wrap64, wrapu64, wrapu32, Try.f81, reps, fillAll, List.toList_toArray, List.map_nil, appendEff, srcCells, flat]
theorem clone_ne (l : List Nat) (hl0 : 0 < l.length) (hl : l.length < 2 ^ 40) (h : Heap) (nx : Nat) :
    denO E 81 [.lst false (l.map wd)] h nx = some (.ret (.ref (nx + 1) 0 l.length), ((h.upd nx (some ⟨[], false, 1, false⟩)).upd nx none).upd (nx + 1) (some ⟨l.map wd, false, 1, false⟩), nx + 1 + 1) := by
  refine denO_eq E81 rfl ?_
  simp (maxSteps := 4000000) (disch := omega) only [go_sem, ↓reduceIte, Nat.reduceAdd, Nat.reduceSub, Nat.reduceMul, Nat.reduceEqDiff, reduceCtorEq, Int.reduceAdd, Int.reduceLT, Int.reduceLE, Int.reduceToNat, Int.reduceNeg, Int.reduceSub, ← List.map_take, ← List.map_drop, wrap64, wrapu64, wrapu32, Try.f81, reps, fillAll, List.toList_toArray, appendEff, srcCells]
theorem clone73 (nl : Bool) (l : List Nat) (hn : nl = true → l = []) (hl : l.length < 2 ^ 40) : denP E 73 [.lst nl (l.map wd)] = some (.ret (.lst nl (l.map wd))) := by
  refine denP_eq E73 rfl (by simp [AV.pureL, AV.pure, pure_wd]) ?_
  cases nl with
  | true =>
    obtain rfl := hn rfl
    simp (maxSteps := 4000000) (disch := omega) only [go_sem, ↓reduceIte, Nat.reduceAdd, Nat.reduceSub, Nat.reduceMul, Nat.reduceEqDiff, reduceCtorEq, Int.reduceAdd, Int.reduceLT, Int.reduceLE, Int.reduceToNat, Int.reduceNeg, Int.reduceSub, ← List.map_take, ← List.map_drop, wrap64, wrapu64, wrapu32, Try.f73, List.map_nil]
  | false =>
    by_cases h0 : l.length = 0
    · obtain rfl := List.length_eq_zero_iff.1 h0
      simp (maxSteps := 4000000) (disch := omega) only [go_sem, ↓reduceIte, Nat.reduceAdd, Nat.reduceSub, Nat.reduceMul, Nat.reduceEqDiff, reduceCtorEq, Int.reduceAdd, Int.reduceLT, Int.reduceLE, Int.reduceToNat, Int.reduceNeg, Int.reduceSub, ← List.map_take, ← List.map_drop, wrap64, wrapu64, wrapu32, Try.f73, reps, fillAll, List.toList_toArray, List.map_nil, appendEff, srcCells, flat]
      rfl
    · simp (maxSteps := 4000000) (disch := omega) only [go_sem, ↓reduceIte, Nat.reduceAdd, Nat.reduceSub, Nat.reduceMul, Nat.reduceEqDiff, reduceCtorEq, Int.reduceAdd, Int.reduceLT, Int.reduceLE, Int.reduceToNat, Int.reduceNeg, Int.reduceSub, ← List.map_take, ← List.map_drop, wrap64, wrapu64, wrapu32, Try.f73, reps, fillAll, List.toList_toArray, appendEff, srcCells]
      simp
def validW (neg : Bool) (l : List Nat) : Bool := decide (l.length ≤ 4096) && (decide (0 < l.length) && decide (l.getD (l.length - 1) 0 ≠ 0) || decide (l.length = 0) && !neg)
theorem valid24 (neg nl : Bool) (l : List Nat) (hl : l.length < 2 ^ 60) : denP E 24 [iv neg nl l] = some (.ret (.bool (validW neg l))) := by
  refine denP_eq E24 rfl (by simp [AV.pureL, AV.pure, pure_wd, iv]) ?_
  unfold validW
  by_cases h1 : l.length ≤ 4096
  · by_cases h2 : l.length = 0
    · simp (maxSteps := 4000000) (disch := omega) only [go_sem, ↓reduceIte, Nat.reduceAdd, Nat.reduceSub, Nat.reduceMul, Nat.reduceEqDiff, reduceCtorEq, Int.reduceAdd, Int.reduceLT, Int.reduceLE, Int.reduceToNat, Int.reduceNeg, Int.reduceSub, ← List.map_take, ← List.map_drop, wrap64, wrapu64, wrapu32, Try.f24, iv]
    · have e : (l.length : Int) - 1 = (l.length - 1 : Nat) := by omega
      by_cases h3 : l.getD (l.length - 1) 0 = 0
      · simp (maxSteps := 4000000) (disch := omega) only [go_sem, ↓reduceIte, Nat.reduceAdd, Nat.reduceSub, Nat.reduceMul, Nat.reduceEqDiff, reduceCtorEq, Int.reduceAdd, Int.reduceLT, Int.reduceLE, Int.reduceToNat, Int.reduceNeg, Int.reduceSub, ← List.map_take, ← List.map_drop, wrap64, wrapu64, wrapu32, Try.f24, iv, e, ne_eq]
      · simp (maxSteps := 4000000) (disch := omega) only [go_sem, ↓reduceIte, Nat.reduceAdd, Nat.reduceSub, Nat.reduceMul, Nat.reduceEqDiff, reduceCtorEq, Int.reduceAdd, Int.reduceLT, Int.reduceLE, Int.reduceToNat, Int.reduceNeg, Int.reduceSub, ← List.map_take, ← List.map_drop, wrap64, wrapu64, wrapu32, Try.f24, iv, e, ne_eq]
  · simp (maxSteps := 4000000) (disch := omega) only [go_sem, ↓reduceIte, Nat.reduceAdd, Nat.reduceSub, Nat.reduceMul, Nat.reduceEqDiff, reduceCtorEq, Int.reduceAdd, Int.reduceLT, Int.reduceLE, Int.reduceToNat, Int.reduceNeg, Int.reduceSub, ← List.map_take, ← List.map_drop, wrap64, wrapu64, wrapu32, Try.f24, iv]
theorem valid54 (na nl : Bool) (a : List Nat) (nb ml : Bool) (b : List Nat) (ha : a.length < 2 ^ 60) (hb : b.length < 2 ^ 60) : denP E 54 [.lst false [iv na nl a, iv nb ml b]] = some (.ret (.bool (validW na a && validW nb b))) := by
  refine denP_eq E54 rfl (by simp [AV.pureL, AV.pure, pure_wd, iv]) ?_
  simp (maxSteps := 4000000) (disch := omega) only [go_sem, ↓reduceIte, Nat.reduceAdd, Nat.reduceSub, Nat.reduceMul, Nat.reduceEqDiff, reduceCtorEq, Int.reduceAdd, Int.reduceLT, Int.reduceLE, Int.reduceToNat, Int.reduceNeg, Int.reduceSub, ← List.map_take, ← List.map_drop, wrap64, wrapu64, wrapu32, Try.f54]
  rw [W_unroll]
  cases hva : validW na a with
  | false => simp (maxSteps := 4000000) (disch := omega) only [go_sem, ↓reduceIte, Nat.reduceAdd, Nat.reduceSub, Nat.reduceMul, Nat.reduceEqDiff, reduceCtorEq, Int.reduceAdd, Int.reduceLT, Int.reduceLE, Int.reduceToNat, Int.reduceNeg, Int.reduceSub, ← List.map_take, ← List.map_drop, wrap64, wrapu64, wrapu32, valid24, hva]
  | true =>
    simp (maxSteps := 4000000) (disch := omega) only [go_sem, ↓reduceIte, Nat.reduceAdd, Nat.reduceSub, Nat.reduceMul, Nat.reduceEqDiff, reduceCtorEq, Int.reduceAdd, Int.reduceLT, Int.reduceLE, Int.reduceToNat, Int.reduceNeg, Int.reduceSub, ← List.map_take, ← List.map_drop, wrap64, wrapu64, wrapu32, valid24, hva]
    rw [W_unroll]
    cases hvb : validW nb b with
    | false => simp (maxSteps := 4000000) (disch := omega) only [go_sem, ↓reduceIte, Nat.reduceAdd, Nat.reduceSub, Nat.reduceMul, Nat.reduceEqDiff, reduceCtorEq, Int.reduceAdd, Int.reduceLT, Int.reduceLE, Int.reduceToNat, Int.reduceNeg, Int.reduceSub, ← List.map_take, ← List.map_drop, wrap64, wrapu64, wrapu32, valid24, hvb]
    | true =>
      simp (maxSteps := 4000000) (disch := omega) only [go_sem, ↓reduceIte, Nat.reduceAdd, Nat.reduceSub, Nat.reduceMul, Nat.reduceEqDiff, reduceCtorEq, Int.reduceAdd, Int.reduceLT, Int.reduceLE, Int.reduceToNat, Int.reduceNeg, Int.reduceSub, ← List.map_take, ← List.map_drop, wrap64, wrapu64, wrapu32, valid24, hvb]
      rw [W_unroll]
      simp (maxSteps := 4000000) (disch := omega) only [go_sem, ↓reduceIte, Nat.reduceAdd, Nat.reduceSub, Nat.reduceMul, Nat.reduceEqDiff, reduceCtorEq, Int.reduceAdd, Int.reduceLT, Int.reduceLE, Int.reduceToNat, Int.reduceNeg, Int.reduceSub, ← List.map_take, ← List.map_drop, wrap64, wrapu64, wrapu32]
theorem made55 (neg nl : Bool) (a : List Nat) (hn : nl = true → a = []) (ha : a.length < 2 ^ 40) : denP E 55 [.bool neg, .lst nl (a.map wd)] = some (.ret (if tz a a.length > 4096 then .tup [iv false true [], .int .i64 4] else .tup [iv (neg && decide (0 < tz a a.length)) nl (a.take (tz a a.length)), .int .i64 0])) := by
  have hlen : (a.take (tz a a.length)).length = tz a a.length := by rw [List.length_take]; have := tz_le a a.length; omega
  have hn' : nl = true → a.take (tz a a.length) = [] := fun h => by rw [hn h]; rfl
  refine denP_eq E55 rfl (by simp [AV.pureL, AV.pure, pure_wd, iv]) ?_
  by_cases h1 : tz a a.length > 4096
  · simp (maxSteps := 4000000) (disch := omega) only [go_sem, ↓reduceIte, Nat.reduceAdd, Nat.reduceSub, Nat.reduceMul, Nat.reduceEqDiff, reduceCtorEq, Int.reduceAdd, Int.reduceLT, Int.reduceLE, Int.reduceToNat, Int.reduceNeg, Int.reduceSub, ← List.map_take, ← List.map_drop, wrap64, wrapu64, wrapu32, Try.f55, trim_walk, hlen, places, fillAll, List.map_nil]
  · cases nl with
    | true =>
      have h0 : a = [] := hn rfl
      subst h0
      have ht := trim_walk true [] (by simp)
      simp only [List.map_nil, List.take_nil] at ht
      cases neg with
      | false => simp (maxSteps := 4000000) (disch := omega) only [go_sem, ↓reduceIte, Nat.reduceAdd, Nat.reduceSub, Nat.reduceMul, Nat.reduceEqDiff, reduceCtorEq, Int.reduceAdd, Int.reduceLT, Int.reduceLE, Int.reduceToNat, Int.reduceNeg, Int.reduceSub, ← List.map_take, ← List.map_drop, wrap64, wrapu64, wrapu32, Try.f55, ht, places, fillAll, clone_nil, tz]
      | true => simp (maxSteps := 4000000) (disch := omega) only [go_sem, ↓reduceIte, Nat.reduceAdd, Nat.reduceSub, Nat.reduceMul, Nat.reduceEqDiff, reduceCtorEq, Int.reduceAdd, Int.reduceLT, Int.reduceLE, Int.reduceToNat, Int.reduceNeg, Int.reduceSub, ← List.map_take, ← List.map_drop, wrap64, wrapu64, wrapu32, Try.f55, ht, places, fillAll, clone_nil, tz]
    | false =>
      by_cases h2 : 0 < tz a a.length
      · have c := clone_ne (a.take (tz a a.length)) (by omega) (by omega)
        rw [hlen] at c
        have ht : (a.take (tz a a.length)).take (tz a a.length) = a.take (tz a a.length) := by rw [List.take_take, Nat.min_self]
        cases neg with
        | false => simp (maxSteps := 4000000) (disch := omega) only [go_sem, ↓reduceIte, Nat.reduceAdd, Nat.reduceSub, Nat.reduceMul, Nat.reduceEqDiff, reduceCtorEq, Int.reduceAdd, Int.reduceLT, Int.reduceLE, Int.reduceToNat, Int.reduceNeg, Int.reduceSub, ← List.map_take, ← List.map_drop, wrap64, wrapu64, wrapu32, Try.f55, trim_walk, hlen, places, fillAll, c, ht]
        | true => simp (maxSteps := 4000000) (disch := omega) only [go_sem, ↓reduceIte, Nat.reduceAdd, Nat.reduceSub, Nat.reduceMul, Nat.reduceEqDiff, reduceCtorEq, Int.reduceAdd, Int.reduceLT, Int.reduceLE, Int.reduceToNat, Int.reduceNeg, Int.reduceSub, ← List.map_take, ← List.map_drop, wrap64, wrapu64, wrapu32, Try.f55, trim_walk, hlen, places, fillAll, c, ht]
      · have h3 : tz a a.length = 0 := by omega
        have h4 : a.take (tz a a.length) = [] := by rw [h3]; rfl
        rw [h3] at hlen h4 ⊢
        have ht := trim_walk false a (by omega)
        rw [h3, h4, List.map_nil] at ht
        rw [h4]
        cases neg with
        | false => simp (maxSteps := 4000000) (disch := omega) only [go_sem, ↓reduceIte, Nat.reduceAdd, Nat.reduceSub, Nat.reduceMul, Nat.reduceEqDiff, reduceCtorEq, Int.reduceAdd, Int.reduceLT, Int.reduceLE, Int.reduceToNat, Int.reduceNeg, Int.reduceSub, ← List.map_take, ← List.map_drop, wrap64, wrapu64, wrapu32, Try.f55, ht, List.map_nil, places, fillAll, clone_empty, refP_zero]
        | true => simp (maxSteps := 4000000) (disch := omega) only [go_sem, ↓reduceIte, Nat.reduceAdd, Nat.reduceSub, Nat.reduceMul, Nat.reduceEqDiff, reduceCtorEq, Int.reduceAdd, Int.reduceLT, Int.reduceLE, Int.reduceToNat, Int.reduceNeg, Int.reduceSub, ← List.map_take, ← List.map_drop, wrap64, wrapu64, wrapu32, Try.f55, ht, List.map_nil, places, fillAll, clone_empty, refP_zero]
/-- made, in terms of the number. -/
theorem made_spec (neg nl : Bool) (a : List Nat) (ha : InR a) (hn : nl = true → a = []) (la : a.length < 2 ^ 40) :
    denP E 55 [.bool neg, .lst nl (a.map wd)] = some (.ret (RI nl (sg neg (val a)))) := by
  have ht := take_tz ha
  have hlen : tz a a.length = (dig (val a)).length := by rw [← ht, List.length_take]; have := tz_le a a.length; omega
  rw [made55 neg nl a hn la, hlen, ← hlen, ht, hlen]
  by_cases h : (dig (val a)).length ≤ 4096
  · rw [if_neg (by omega), RI, fm_of (by rw [dg_sg]; exact h), fit_of (by rw [dg_sg]; exact h), er_of (by rw [dg_sg]; exact h), I, dg_sg, ng_sg]
    congr 7
    by_cases h0 : val a = 0
    · rw [h0, dig_zero]; simp
    · have : 0 < (dig (val a)).length := by
        rcases Nat.eq_zero_or_pos (dig (val a)).length with h2 | h2
        · exact absurd (dig_nil.1 (List.length_eq_zero_iff.1 h2)) h0
        · exact h2
      simp [this, h0]
  · rw [if_pos (by omega), RI, fm_no (by rw [dg_sg]; exact h), fit_no (by rw [dg_sg]; exact h), er_no (by rw [dg_sg]; exact h), I, dg_zero, ng_zero]
theorem made_dig (neg nl : Bool) (n : Nat) (hn : nl = true → n = 0) (la : (dig n).length < 2 ^ 40) :
    denP E 55 [.bool neg, .lst nl ((dig n).map wd)] = some (.ret (RI nl (sg neg n))) := by
  rw [made_spec neg nl (dig n) (dig_inR n) (fun h => by rw [hn h, dig_zero]) la, val_dig]
theorem validW_I (z : Int) : validW (ng z) (dg z) = decide ((dg z).length ≤ 4096) := by
  unfold validW
  rcases (dg_norm z).2 with h | h
  · rw [h]
    have : z = 0 := dg_nil.1 h
    subst this
    simp [ng]
  · have : 0 < (dg z).length := by
      rcases Nat.eq_zero_or_pos (dg z).length with h2 | h2
      · rw [List.length_eq_zero_iff.1 h2] at h; simp at h
      · exact h2
    have h3 : decide ((dg z).getD ((dg z).length - 1) 0 ≠ 0) = true := decide_eq_true h
    have h4 : decide (0 < (dg z).length) = true := decide_eq_true this
    rw [h3, h4]
    simp
theorem valid_I (m : Bool) (z : Int) (h : (dg z).length ≤ 4096) : denP E 24 [I m z] = some (.ret (.bool true)) := by
  have := valid24 (ng z) m (dg z) (by omega)
  rw [validW_I, decide_eq_true h] at this
  exact this
theorem valid2_I (m : Bool) (x : Int) (m' : Bool) (y : Int) (hx : (dg x).length ≤ 4096) (hy : (dg y).length ≤ 4096) : denP E 54 [.lst false [I m x, I m' y]] = some (.ret (.bool true)) := by
  have := valid54 (ng x) m (dg x) (ng y) m' (dg y) (by omega) (by omega)
  rw [validW_I, validW_I, decide_eq_true hx, decide_eq_true hy] at this
  exact this
end Go.Proofs.Ytpfcijgcjghgeaa

/- Walks of the package large: the words' sums. (Own work of this repo.) -/
namespace Go.Proofs.Ytpfcijgcjghgeaa
open Vm
set_option maxRecDepth 10000

theorem plus_spec (ma : Bool) (a : List Nat) (mb : Bool) (b : List Nat) (ha : InR a) (hb : InR b) (la : a.length < 2 ^ 40) (lb : b.length < 2 ^ 40) :
    denP E 68 [.lst ma (a.map wd), .lst mb (b.map wd)] = some (.ret (.lst false ((dig (val a + val b)).map wd))) := by
  refine denP_eq E68 rfl (by simp [AV.pureL, AV.pure, pure_wd]) ?_
  by_cases h : a.length < b.length
  · simp (maxSteps := 4000000) (disch := omega) only [go_sem, ↓reduceIte, Nat.reduceAdd, Nat.reduceSub, Nat.reduceMul, Nat.reduceEqDiff, reduceCtorEq, Int.reduceAdd, Int.reduceLT, Int.reduceLE, Int.reduceToNat, Int.reduceNeg, Int.reduceSub, ← List.map_take, ← List.map_drop, wrap64, wrapu64, wrapu32, ← Int.natCast_add, ← Int.natCast_mul, cast_succ, wrapu32_nat, shr32, reps_wd, map_set_wd, List.length_set, zs_len, Try.f68, Int.toNat_natCast]
    refine W_loopS (fun k sl H nx => ∃ (i c : Nat) (o : List Nat), (∃ g : Nat → AV, sl = [.lst mb (b.map wd), .lst ma (a.map wd), g 2, g 3, g 4, .ref 0 0 (b.length + 1), .int .u64 c, g 7, g 8, g 9, g 10, g 11, g 12, g 13, g 14, g 15, g 16, g 17, g 18, g 19, .lst mb (b.map wd), .int .i64 b.length, .int .i64 i, g 23, g 24, g 25, g 26, g 27, g 28, g 29, g 30, g 31, g 32, g 33, g 34, g 35, g 36, g 37, g 38, g 39, g 40, g 41, g 42, g 43, g 44, g 45, g 46, g 47, g 48, g 49, g 50, g 51, g 52, g 53, g 54, g 55, g 56, g 57]) ∧ nx = 1 ∧
      H 0 = some ⟨o.map wd, false, 1, false⟩ ∧ o.length = b.length + 1 ∧ InR o ∧ c ≤ 1 ∧ i + k = b.length ∧ vp o i + c * BB ^ i = vp b i + vp a i) b.length ⟨0, 0, _, garb rfl, rfl, rfl, zs_len _, zs_inR _, by omega, by omega, by simp [vp]⟩ ?_
    rintro k _ H _ ⟨i, c, o, ⟨g, rfl⟩, rfl, hH, ho, hr, hc, hi, hv⟩
    have hx := hb.get i
    have hy := ha.get i
    by_cases hk : k = 0
    · obtain rfl : i = b.length := by omega
      have hl : (o.set b.length c).length = b.length + 1 := by rw [List.length_set, ho]
      have hy2 := vp_ge a b.length (by omega)
      have hval : val (o.set b.length c) = val a + val b := by rw [val_set_last ho, hv, hy2]; exact Nat.add_comm (val b) (val a)
      have ht := trim_spec false (o.set b.length c) (hr.set (Nat.lt_of_le_of_lt hc (by decide))) (by omega)
      rw [hval] at ht
      simp (maxSteps := 4000000) (disch := omega) only [go_sem, ↓reduceIte, Nat.reduceAdd, Nat.reduceSub, Nat.reduceMul, Nat.reduceEqDiff, reduceCtorEq, Int.reduceAdd, Int.reduceLT, Int.reduceLE, Int.reduceToNat, Int.reduceNeg, Int.reduceSub, ← List.map_take, ← List.map_drop, wrap64, wrapu64, wrapu32, ← Int.natCast_add, ← Int.natCast_mul, cast_succ, wrapu32_nat, shr32, reps_wd, map_set_wd, List.length_set, zs_len, hH, ho, List.take_of_length_le, ht]
    · by_cases hiy : i < a.length
      · simp (maxSteps := 4000000) (disch := omega) only [go_sem, ↓reduceIte, Nat.reduceAdd, Nat.reduceSub, Nat.reduceMul, Nat.reduceEqDiff, reduceCtorEq, Int.reduceAdd, Int.reduceLT, Int.reduceLE, Int.reduceToNat, Int.reduceNeg, Int.reduceSub, ← List.map_take, ← List.map_drop, wrap64, wrapu64, wrapu32, ← Int.natCast_add, ← Int.natCast_mul, cast_succ, wrapu32_nat, shr32, reps_wd, map_set_wd, List.length_set, zs_len, hH, ho]
        refine ⟨k - 1, by omega, i + 1, (c + b.getD i 0 + a.getD i 0) / 4294967296, o.set i ((c + b.getD i 0 + a.getD i 0) % 4294967296), garb rfl, rfl, by rw [List.length_set, ho], hr.set (Nat.mod_lt _ (by decide)), by omega, by omega, plus_step (by omega) hv rfl⟩
      · simp (maxSteps := 4000000) (disch := omega) only [go_sem, ↓reduceIte, Nat.reduceAdd, Nat.reduceSub, Nat.reduceMul, Nat.reduceEqDiff, reduceCtorEq, Int.reduceAdd, Int.reduceLT, Int.reduceLE, Int.reduceToNat, Int.reduceNeg, Int.reduceSub, ← List.map_take, ← List.map_drop, wrap64, wrapu64, wrapu32, ← Int.natCast_add, ← Int.natCast_mul, cast_succ, wrapu32_nat, shr32, reps_wd, map_set_wd, List.length_set, zs_len, hH, ho]
        have h0 := getD_ge (l := a) (i := i) (by omega)
        refine ⟨k - 1, by omega, i + 1, (c + b.getD i 0) / 4294967296, o.set i ((c + b.getD i 0) % 4294967296), garb rfl, rfl, by rw [List.length_set, ho], hr.set (Nat.mod_lt _ (by decide)), by omega, by omega, plus_step (by omega) hv (by rw [h0]; rfl)⟩
  · simp (maxSteps := 4000000) (disch := omega) only [go_sem, ↓reduceIte, Nat.reduceAdd, Nat.reduceSub, Nat.reduceMul, Nat.reduceEqDiff, reduceCtorEq, Int.reduceAdd, Int.reduceLT, Int.reduceLE, Int.reduceToNat, Int.reduceNeg, Int.reduceSub, ← List.map_take, ← List.map_drop, wrap64, wrapu64, wrapu32, ← Int.natCast_add, ← Int.natCast_mul, cast_succ, wrapu32_nat, shr32, reps_wd, map_set_wd, List.length_set, zs_len, Try.f68, Int.toNat_natCast]
    refine W_loopS (fun k sl H nx => ∃ (i c : Nat) (o : List Nat), (∃ g : Nat → AV, sl = [.lst ma (a.map wd), .lst mb (b.map wd), g 2, g 3, g 4, .ref 0 0 (a.length + 1), .int .u64 c, g 7, g 8, g 9, g 10, g 11, g 12, g 13, g 14, g 15, g 16, g 17, g 18, g 19, .lst ma (a.map wd), .int .i64 a.length, .int .i64 i, g 23, g 24, g 25, g 26, g 27, g 28, g 29, g 30, g 31, g 32, g 33, g 34, g 35, g 36, g 37, g 38, g 39, g 40, g 41, g 42, g 43, g 44, g 45, g 46, g 47, g 48, g 49, g 50, g 51, g 52, g 53, g 54, g 55, g 56, g 57]) ∧ nx = 1 ∧
      H 0 = some ⟨o.map wd, false, 1, false⟩ ∧ o.length = a.length + 1 ∧ InR o ∧ c ≤ 1 ∧ i + k = a.length ∧ vp o i + c * BB ^ i = vp a i + vp b i) a.length ⟨0, 0, _, garb rfl, rfl, rfl, zs_len _, zs_inR _, by omega, by omega, by simp [vp]⟩ ?_
    rintro k _ H _ ⟨i, c, o, ⟨g, rfl⟩, rfl, hH, ho, hr, hc, hi, hv⟩
    have hx := ha.get i
    have hy := hb.get i
    by_cases hk : k = 0
    · obtain rfl : i = a.length := by omega
      have hl : (o.set a.length c).length = a.length + 1 := by rw [List.length_set, ho]
      have hy2 := vp_ge b a.length (by omega)
      have hval : val (o.set a.length c) = val a + val b := by rw [val_set_last ho, hv, hy2]; exact rfl
      have ht := trim_spec false (o.set a.length c) (hr.set (Nat.lt_of_le_of_lt hc (by decide))) (by omega)
      rw [hval] at ht
      simp (maxSteps := 4000000) (disch := omega) only [go_sem, ↓reduceIte, Nat.reduceAdd, Nat.reduceSub, Nat.reduceMul, Nat.reduceEqDiff, reduceCtorEq, Int.reduceAdd, Int.reduceLT, Int.reduceLE, Int.reduceToNat, Int.reduceNeg, Int.reduceSub, ← List.map_take, ← List.map_drop, wrap64, wrapu64, wrapu32, ← Int.natCast_add, ← Int.natCast_mul, cast_succ, wrapu32_nat, shr32, reps_wd, map_set_wd, List.length_set, zs_len, hH, ho, List.take_of_length_le, ht]
    · by_cases hiy : i < b.length
      · simp (maxSteps := 4000000) (disch := omega) only [go_sem, ↓reduceIte, Nat.reduceAdd, Nat.reduceSub, Nat.reduceMul, Nat.reduceEqDiff, reduceCtorEq, Int.reduceAdd, Int.reduceLT, Int.reduceLE, Int.reduceToNat, Int.reduceNeg, Int.reduceSub, ← List.map_take, ← List.map_drop, wrap64, wrapu64, wrapu32, ← Int.natCast_add, ← Int.natCast_mul, cast_succ, wrapu32_nat, shr32, reps_wd, map_set_wd, List.length_set, zs_len, hH, ho]
        refine ⟨k - 1, by omega, i + 1, (c + a.getD i 0 + b.getD i 0) / 4294967296, o.set i ((c + a.getD i 0 + b.getD i 0) % 4294967296), garb rfl, rfl, by rw [List.length_set, ho], hr.set (Nat.mod_lt _ (by decide)), by omega, by omega, plus_step (by omega) hv rfl⟩
      · simp (maxSteps := 4000000) (disch := omega) only [go_sem, ↓reduceIte, Nat.reduceAdd, Nat.reduceSub, Nat.reduceMul, Nat.reduceEqDiff, reduceCtorEq, Int.reduceAdd, Int.reduceLT, Int.reduceLE, Int.reduceToNat, Int.reduceNeg, Int.reduceSub, ← List.map_take, ← List.map_drop, wrap64, wrapu64, wrapu32, ← Int.natCast_add, ← Int.natCast_mul, cast_succ, wrapu32_nat, shr32, reps_wd, map_set_wd, List.length_set, zs_len, hH, ho]
        have h0 := getD_ge (l := b) (i := i) (by omega)
        refine ⟨k - 1, by omega, i + 1, (c + a.getD i 0) / 4294967296, o.set i ((c + a.getD i 0) % 4294967296), garb rfl, rfl, by rw [List.length_set, ho], hr.set (Nat.mod_lt _ (by decide)), by omega, by omega, plus_step (by omega) hv (by rw [h0]; rfl)⟩
end Go.Proofs.Ytpfcijgcjghgeaa

/- Walks of the package large: how two numbers stand. (Own work of this repo.) -/
namespace Go.Proofs.Ytpfcijgcjghgeaa
open Vm
set_option maxRecDepth 10000

theorem compare_spec (ma : Bool) (a : List Nat) (mb : Bool) (b : List Nat) (ha : Norm a) (hb : Norm b) (la : a.length < 2 ^ 40) (lb : b.length < 2 ^ 40) :
    denP E 58 [.lst ma (a.map wd), .lst mb (b.map wd)] = some (.ret (.int .i64 (cmpN (val a) (val b)))) := by
  refine denP_eq E58 rfl (by simp [AV.pureL, AV.pure, pure_wd]) ?_
  by_cases h : a.length = b.length
  · simp (maxSteps := 4000000) (disch := omega) only [go_sem, ↓reduceIte, Nat.reduceAdd, Nat.reduceSub, Nat.reduceMul, Nat.reduceEqDiff, reduceCtorEq, Int.reduceAdd, Int.reduceLT, Int.reduceLE, Int.reduceToNat, Int.reduceNeg, Int.reduceSub, ← List.map_take, ← List.map_drop, wrap64, wrapu64, wrapu32, ← Int.natCast_add, ← Int.natCast_mul, cast_succ, wrapu32_nat, shr32, reps_wd, map_set_wd, List.length_set, zs_len, Try.f58]
    refine W_loopS (fun k sl h nx => (∃ g : Nat → AV, sl = [.lst ma (a.map wd), .lst mb (b.map wd), g 2, g 3, .int .i64 0, .int .i64 ((k : Int) - 1), g 6, g 7, g 8, g 9, g 10, g 11, g 12, g 13, g 14, g 15, g 16, g 17, g 18, g 19, g 20, g 21, g 22, g 23, g 24, g 25, g 26, g 27, g 28, g 29, g 30, g 31, g 32, g 33, g 34, g 35, g 36, g 37, g 38, g 39, g 40, g 41, g 42]) ∧ h = Heap.empty ∧ nx = 0 ∧
      k ≤ a.length ∧ ∀ j, k ≤ j → j < a.length → a.getD j 0 = b.getD j 0) a.length ⟨garb rfl, rfl, rfl, Nat.le_refl _, by omega⟩ ?_
    rintro k _ _ _ ⟨⟨g, rfl⟩, rfl, rfl, hk, hall⟩
    by_cases hk0 : k = 0
    · subst hk0
      have hv : val a = val b := by
        rw [val, val, ← h]; exact vp_congr _ (fun i hi => hall i (by omega) hi)
      have hc : cmpN (val a) (val b) = 0 := by unfold cmpN; rw [if_neg (by omega), if_neg (by omega)]
      simp (maxSteps := 4000000) (disch := omega) only [go_sem, ↓reduceIte, Nat.reduceAdd, Nat.reduceSub, Nat.reduceMul, Nat.reduceEqDiff, reduceCtorEq, Int.reduceAdd, Int.reduceLT, Int.reduceLE, Int.reduceToNat, Int.reduceNeg, Int.reduceSub, ← List.map_take, ← List.map_drop, wrap64, wrapu64, wrapu32, ← Int.natCast_add, ← Int.natCast_mul, cast_succ, wrapu32_nat, shr32, reps_wd, map_set_wd, List.length_set, zs_len, hc]
    · have e : (k : Int) - 1 = ((k - 1 : Nat) : Int) := by omega
      simp (maxSteps := 4000000) (disch := omega) only [go_sem, ↓reduceIte, Nat.reduceAdd, Nat.reduceSub, Nat.reduceMul, Nat.reduceEqDiff, reduceCtorEq, Int.reduceAdd, Int.reduceLT, Int.reduceLE, Int.reduceToNat, Int.reduceNeg, Int.reduceSub, ← List.map_take, ← List.map_drop, wrap64, wrapu64, wrapu32, ← Int.natCast_add, ← Int.natCast_mul, cast_succ, wrapu32_nat, shr32, reps_wd, map_set_wd, List.length_set, zs_len, e]
      refine W_drawn ?_
      by_cases h1 : a.getD (k - 1) 0 < b.getD (k - 1) 0
      · have hv : val a < val b := by
          rw [val, val, ← h]; exact vp_less ha.1 (by omega) (fun j h1 h2 => hall j (by omega) h2) h1
        have hc : cmpN (val a) (val b) = -1 := by unfold cmpN; rw [if_pos hv]
        simp (maxSteps := 4000000) (disch := omega) only [go_sem, ↓reduceIte, Nat.reduceAdd, Nat.reduceSub, Nat.reduceMul, Nat.reduceEqDiff, reduceCtorEq, Int.reduceAdd, Int.reduceLT, Int.reduceLE, Int.reduceToNat, Int.reduceNeg, Int.reduceSub, ← List.map_take, ← List.map_drop, wrap64, wrapu64, wrapu32, ← Int.natCast_add, ← Int.natCast_mul, cast_succ, wrapu32_nat, shr32, reps_wd, map_set_wd, List.length_set, zs_len, hc]
        rfl
      · simp (maxSteps := 4000000) (disch := omega) only [go_sem, ↓reduceIte, Nat.reduceAdd, Nat.reduceSub, Nat.reduceMul, Nat.reduceEqDiff, reduceCtorEq, Int.reduceAdd, Int.reduceLT, Int.reduceLE, Int.reduceToNat, Int.reduceNeg, Int.reduceSub, ← List.map_take, ← List.map_drop, wrap64, wrapu64, wrapu32, ← Int.natCast_add, ← Int.natCast_mul, cast_succ, wrapu32_nat, shr32, reps_wd, map_set_wd, List.length_set, zs_len]
        refine ⟨by rfl, ?_⟩
        refine W_drawn ?_
        by_cases h2 : b.getD (k - 1) 0 < a.getD (k - 1) 0
        · have hv : val b < val a := by
            rw [val, val, ← h]; exact vp_less hb.1 (by omega) (fun j h1 h2 => (hall j (by omega) h2).symm) h2
          have hc : cmpN (val a) (val b) = 1 := by unfold cmpN; rw [if_neg (by omega), if_pos hv]
          simp (maxSteps := 4000000) (disch := omega) only [go_sem, ↓reduceIte, Nat.reduceAdd, Nat.reduceSub, Nat.reduceMul, Nat.reduceEqDiff, reduceCtorEq, Int.reduceAdd, Int.reduceLT, Int.reduceLE, Int.reduceToNat, Int.reduceNeg, Int.reduceSub, ← List.map_take, ← List.map_drop, wrap64, wrapu64, wrapu32, ← Int.natCast_add, ← Int.natCast_mul, cast_succ, wrapu32_nat, shr32, reps_wd, map_set_wd, List.length_set, zs_len, hc]
          rfl
        · simp (maxSteps := 4000000) (disch := omega) only [go_sem, ↓reduceIte, Nat.reduceAdd, Nat.reduceSub, Nat.reduceMul, Nat.reduceEqDiff, reduceCtorEq, Int.reduceAdd, Int.reduceLT, Int.reduceLE, Int.reduceToNat, Int.reduceNeg, Int.reduceSub, ← List.map_take, ← List.map_drop, wrap64, wrapu64, wrapu32, ← Int.natCast_add, ← Int.natCast_mul, cast_succ, wrapu32_nat, shr32, reps_wd, map_set_wd, List.length_set, zs_len]
          refine ⟨by rfl, ?_⟩
          exact ⟨k - 1, by omega, garb rfl, by omega, fun j h3 h4 => by
            by_cases hj : j = k - 1
            · subst hj; omega
            · exact hall j (by omega) h4⟩
  · by_cases hl : a.length < b.length
    · have hv := val_less_len ha.1 hb hl
      have hc : cmpN (val a) (val b) = -1 := by unfold cmpN; rw [if_pos hv]
      simp (maxSteps := 4000000) (disch := omega) only [go_sem, ↓reduceIte, Nat.reduceAdd, Nat.reduceSub, Nat.reduceMul, Nat.reduceEqDiff, reduceCtorEq, Int.reduceAdd, Int.reduceLT, Int.reduceLE, Int.reduceToNat, Int.reduceNeg, Int.reduceSub, ← List.map_take, ← List.map_drop, wrap64, wrapu64, wrapu32, ← Int.natCast_add, ← Int.natCast_mul, cast_succ, wrapu32_nat, shr32, reps_wd, map_set_wd, List.length_set, zs_len, Try.f58, hc]
    · have hv := val_less_len hb.1 ha (by omega)
      have hc : cmpN (val a) (val b) = 1 := by unfold cmpN; rw [if_neg (by omega), if_pos hv]
      simp (maxSteps := 4000000) (disch := omega) only [go_sem, ↓reduceIte, Nat.reduceAdd, Nat.reduceSub, Nat.reduceMul, Nat.reduceEqDiff, reduceCtorEq, Int.reduceAdd, Int.reduceLT, Int.reduceLE, Int.reduceToNat, Int.reduceNeg, Int.reduceSub, ← List.map_take, ← List.map_drop, wrap64, wrapu64, wrapu32, ← Int.natCast_add, ← Int.natCast_mul, cast_succ, wrapu32_nat, shr32, reps_wd, map_set_wd, List.length_set, zs_len, Try.f58, hc]
end Go.Proofs.Ytpfcijgcjghgeaa

/- Walks of the package large: the words' product. (Own work of this repo.) -/
namespace Go.Proofs.Ytpfcijgcjghgeaa
open Vm
set_option maxRecDepth 10000

theorem times_spec (ma : Bool) (a : List Nat) (mb : Bool) (b : List Nat) (ha : InR a) (hb : InR b) (la : a.length < 2 ^ 40) (lb : b.length < 2 ^ 40) :
    denP E 60 [.lst ma (a.map wd), .lst mb (b.map wd)] = some (.ret (.lst (decide (a.length = 0 ∨ b.length = 0)) ((dig (val a * val b)).map wd))) := by
  by_cases ha0 : a.length = 0
  · obtain rfl := List.length_eq_zero_iff.1 ha0
    rw [show decide (([] : List Nat).length = 0 ∨ b.length = 0) = true by simp]
    rw [val_nil, Nat.zero_mul, dig_zero]
    refine denP_eq E60 rfl (by simp [AV.pureL, AV.pure, pure_wd]) ?_
    simp (maxSteps := 4000000) (disch := omega) only [go_sem, ↓reduceIte, Nat.reduceAdd, Nat.reduceSub, Nat.reduceMul, Nat.reduceEqDiff, reduceCtorEq, Int.reduceAdd, Int.reduceLT, Int.reduceLE, Int.reduceToNat, Int.reduceNeg, Int.reduceSub, ← List.map_take, ← List.map_drop, wrap64, wrapu64, wrapu32, ← Int.natCast_add, ← Int.natCast_mul, cast_succ, wrapu32_nat, shr32, reps_wd, map_set_wd, List.length_set, zs_len, Try.f60]
  by_cases hb0 : b.length = 0
  · obtain rfl := List.length_eq_zero_iff.1 hb0
    rw [show decide (a.length = 0 ∨ ([] : List Nat).length = 0) = true by simp]
    rw [val_nil, Nat.mul_zero, dig_zero]
    refine denP_eq E60 rfl (by simp [AV.pureL, AV.pure, pure_wd]) ?_
    simp (maxSteps := 4000000) (disch := omega) only [go_sem, ↓reduceIte, Nat.reduceAdd, Nat.reduceSub, Nat.reduceMul, Nat.reduceEqDiff, reduceCtorEq, Int.reduceAdd, Int.reduceLT, Int.reduceLE, Int.reduceToNat, Int.reduceNeg, Int.reduceSub, ← List.map_take, ← List.map_drop, wrap64, wrapu64, wrapu32, ← Int.natCast_add, ← Int.natCast_mul, cast_succ, wrapu32_nat, shr32, reps_wd, map_set_wd, List.length_set, zs_len, Try.f60]
  rw [show decide (a.length = 0 ∨ b.length = 0) = false by simp [ha0, hb0]]
  refine denP_eq E60 rfl (by simp [AV.pureL, AV.pure, pure_wd]) ?_
  simp (maxSteps := 4000000) (disch := omega) only [go_sem, ↓reduceIte, Nat.reduceAdd, Nat.reduceSub, Nat.reduceMul, Nat.reduceEqDiff, reduceCtorEq, Int.reduceAdd, Int.reduceLT, Int.reduceLE, Int.reduceToNat, Int.reduceNeg, Int.reduceSub, ← List.map_take, ← List.map_drop, wrap64, wrapu64, wrapu32, ← Int.natCast_add, ← Int.natCast_mul, cast_succ, wrapu32_nat, shr32, reps_wd, map_set_wd, List.length_set, zs_len, Try.f60, Int.toNat_natCast]
  refine W_loopS (fun k sl H nx => ∃ (i : Nat) (o : List Nat), (∃ g : Nat → AV, sl = [.lst ma (a.map wd), .lst mb (b.map wd), g 2, g 3, g 4, .ref 0 0 (a.length + b.length), g 6, g 7, g 8, g 9, g 10, g 11, g 12, g 13, g 14, g 15, g 16, g 17, g 18, g 19, g 20, g 21, g 22, g 23, g 24, .lst ma (a.map wd), .int .i64 a.length, .int .i64 i, g 28, g 29, g 30, g 31, g 32, g 33, g 34, g 35, g 36, g 37, g 38, g 39, g 40, g 41, g 42, g 43, g 44, g 45, g 46, g 47, g 48, g 49, g 50, g 51, g 52, g 53, g 54, g 55, g 56, g 57, g 58, g 59, g 60, g 61, g 62, g 63, g 64, g 65, g 66, g 67, g 68, g 69, g 70, g 71, g 72, g 73, g 74]) ∧ nx = 1 ∧
    H 0 = some ⟨o.map wd, false, 1, false⟩ ∧ o.length = a.length + b.length ∧ InR o ∧ i + k = a.length ∧ Hd (vp o (i + b.length) = vp a i * val b) ∧ ∀ t, i + b.length ≤ t → o.getD t 0 = 0) a.length
    ⟨0, _, garb rfl, rfl, rfl, zs_len _, zs_inR _, by omega, ⟨by simp [vp, zs_vp]⟩, fun t _ => zs_get _ t⟩ ?_
  rintro k _ H _ ⟨i, o, ⟨g, rfl⟩, rfl, hH, ho, hr, hi, ⟨hv⟩, hz⟩
  replace hv := Hd.mk hv
  by_cases hk : k = 0
  · obtain rfl : i = a.length := by omega
    have hval : val o = val a * val b := by rw [val, ho]; exact hv.out
    have ht := trim_spec false o hr (by omega)
    rw [hval] at ht
    simp (maxSteps := 4000000) (disch := omega) only [go_sem, ↓reduceIte, Nat.reduceAdd, Nat.reduceSub, Nat.reduceMul, Nat.reduceEqDiff, reduceCtorEq, Int.reduceAdd, Int.reduceLT, Int.reduceLE, Int.reduceToNat, Int.reduceNeg, Int.reduceSub, ← List.map_take, ← List.map_drop, wrap64, wrapu64, wrapu32, ← Int.natCast_add, ← Int.natCast_mul, cast_succ, wrapu32_nat, shr32, reps_wd, map_set_wd, List.length_set, zs_len, hH, ho, List.take_of_length_le, ht]
  · have hx := ha.get i
    simp (maxSteps := 4000000) (disch := omega) only [go_sem, ↓reduceIte, Nat.reduceAdd, Nat.reduceSub, Nat.reduceMul, Nat.reduceEqDiff, reduceCtorEq, Int.reduceAdd, Int.reduceLT, Int.reduceLE, Int.reduceToNat, Int.reduceNeg, Int.reduceSub, ← List.map_take, ← List.map_drop, wrap64, wrapu64, wrapu32, ← Int.natCast_add, ← Int.natCast_mul, cast_succ, wrapu32_nat, shr32, reps_wd, map_set_wd, List.length_set, zs_len, hH, ho]
    refine W_loopS (fun k sl H nx => ∃ (j c : Nat) (p : List Nat), (∃ g : Nat → AV, sl = [.lst ma (a.map wd), .lst mb (b.map wd), g 2, g 3, g 4, .ref 0 0 (a.length + b.length), .int .i64 i, .int .u32 (a.getD i 0 : Nat), .int .u64 c, g 9, g 10, g 11, g 12, g 13, g 14, g 15, g 16, g 17, g 18, g 19, g 20, g 21, g 22, g 23, g 24, .lst ma (a.map wd), .int .i64 a.length, .int .i64 i, g 28, g 29, g 30, g 31, .lst mb (b.map wd), .int .i64 b.length, .int .i64 j, g 35, g 36, g 37, g 38, g 39, g 40, g 41, g 42, g 43, g 44, g 45, g 46, g 47, g 48, g 49, g 50, g 51, g 52, g 53, g 54, g 55, g 56, g 57, g 58, g 59, g 60, g 61, g 62, g 63, g 64, g 65, g 66, g 67, g 68, g 69, g 70, g 71, g 72, g 73, g 74]) ∧ nx = 1 ∧
      H 0 = some ⟨p.map wd, false, 1, false⟩ ∧ p.length = a.length + b.length ∧ InR p ∧ c < 4294967296 ∧ j + k = b.length ∧ Hd (vp p (i + j) + c * BB ^ (i + j) = vp o (i + j) + a.getD i 0 * vp b j * BB ^ i) ∧ ∀ t, i + j ≤ t → p.getD t 0 = o.getD t 0) b.length
      ⟨0, 0, _, garb rfl, rfl, hH, ho, hr, by omega, by omega, ⟨by simp [vp]⟩, fun t _ => rfl⟩ ?_
    rintro k' _ H' _ ⟨j, c, p, ⟨g, rfl⟩, rfl, hH', hp, hr', hc, hj, hv', hz'⟩
    by_cases hk' : k' = 0
    · obtain rfl : j = b.length := by omega
      simp (maxSteps := 4000000) (disch := omega) only [go_sem, ↓reduceIte, Nat.reduceAdd, Nat.reduceSub, Nat.reduceMul, Nat.reduceEqDiff, reduceCtorEq, Int.reduceAdd, Int.reduceLT, Int.reduceLE, Int.reduceToNat, Int.reduceNeg, Int.reduceSub, ← List.map_take, ← List.map_drop, wrap64, wrapu64, wrapu32, ← Int.natCast_add, ← Int.natCast_mul, cast_succ, wrapu32_nat, shr32, reps_wd, map_set_wd, List.length_set, zs_len, hH', hp]
      refine ⟨k - 1, by omega, i + 1, p.set (i + b.length) c, garb rfl, rfl, by rw [List.length_set, hp], hr'.set hc, by omega, ⟨?_⟩, fun t ht => ?_⟩
      · rw [show i + 1 + b.length = i + b.length + 1 by omega, vp, vp_set p _ _ _ (Nat.le_refl _), lget_set_self (by omega), hv'.out, hv.out, vp, Nat.add_mul]
        rw [show vp b b.length = val b from rfl]
        congr 1
        rw [Nat.mul_assoc, Nat.mul_assoc, Nat.mul_comm (val b)]
      · rw [lget_set_ne (by omega), hz' t (by omega), hz t (by omega)]
    · have hy := hb.get j
      have hw := hr.get (i + j)
      have hm := mul_word hx hy
      have e := hz' (i + j) (Nat.le_refl _)
      simp (maxSteps := 4000000) (disch := omega) only [go_sem, ↓reduceIte, Nat.reduceAdd, Nat.reduceSub, Nat.reduceMul, Nat.reduceEqDiff, reduceCtorEq, Int.reduceAdd, Int.reduceLT, Int.reduceLE, Int.reduceToNat, Int.reduceNeg, Int.reduceSub, ← List.map_take, ← List.map_drop, wrap64, wrapu64, wrapu32, ← Int.natCast_add, ← Int.natCast_mul, cast_succ, wrapu32_nat, shr32, reps_wd, map_set_wd, List.length_set, zs_len, hH', hp, e]
      have hs : (c + (a.getD i 0 * b.getD j 0 + o.getD (i + j) 0)) / 4294967296 < 4294967296 := by omega
      refine ⟨k' - 1, by omega, j + 1, (c + (a.getD i 0 * b.getD j 0 + o.getD (i + j) 0)) / 4294967296, p.set (i + j) ((c + (a.getD i 0 * b.getD j 0 + o.getD (i + j) 0)) % 4294967296), garb rfl, rfl, by rw [List.length_set, hp], hr'.set (Nat.mod_lt _ (by decide)), hs, by omega, ⟨times_step (by omega) hv'.out rfl⟩, fun t ht => ?_⟩
      rw [lget_set_ne (by omega)]
      exact hz' t (by omega)
end Go.Proofs.Ytpfcijgcjghgeaa

/- Walks of the package large: the words' difference. (Own work of this repo.) -/
namespace Go.Proofs.Ytpfcijgcjghgeaa
open Vm
set_option maxRecDepth 10000

theorem setCells_full : ∀ (vs cs pre : List AV), vs.length = cs.length → setCells (pre ++ cs) pre.length vs = pre ++ vs
  | [], [], pre, _ => rfl
  | v :: vs, c :: cs, pre, h => by
    rw [setCells_cons, List.set_append_right _ _ (Nat.le_refl _), Nat.sub_self, List.set_cons_zero]
    have := setCells_full vs cs (pre ++ [v]) (by simpa using h)
    simpa using this
theorem setCells_wd {l m : List Nat} (h : l.length = m.length) : setCells (l.map wd) 0 (m.map wd) = m.map wd := by
  have := setCells_full (m.map wd) (l.map wd) [] (by simpa using h.symm)
  simpa using this
theorem shr63 (n : Nat) : (n : Int).fdiv (2 ^ min 63 (kb .u64)) = ((n / 9223372036854775808 : Nat) : Int) := by
  rw [show min 63 (kb .u64) = 63 from rfl, Int.fdiv_eq_ediv_of_nonneg _ (by decide)]; rfl
theorem minus_step {o a b : List Nat} {i c w c' : Nat} (ho : i < o.length) (hv : vp a i + c * BB ^ i = vp o i + vp b i) (hs : a.getD i 0 + c' * 4294967296 = w + b.getD i 0 + c) :
    vp a (i + 1) + c' * BB ^ (i + 1) = vp (o.set i w) (i + 1) + vp b (i + 1) := by
  rw [vp, vp, vp, vp_set o i _ i (Nat.le_refl _), lget_set_self ho, Nat.pow_succ]
  have h3 : (a.getD i 0 + c' * 4294967296) * BB ^ i = (w + b.getD i 0 + c) * BB ^ i := by rw [hs]
  rw [Nat.add_mul, Nat.add_mul, Nat.add_mul] at h3
  have h4 : c' * (BB ^ i * BB) = c' * 4294967296 * BB ^ i := by rw [Nat.mul_comm (BB ^ i) BB, ← Nat.mul_assoc]
  rw [h4]
  omega
theorem minus_spec (ma : Bool) (a : List Nat) (mb : Bool) (b : List Nat) (ha : InR a) (hb : InR b) (la : a.length < 2 ^ 40) (lb : b.length ≤ a.length) (hle : val b ≤ val a) :
    denP E 72 [.lst ma (a.map wd), .lst mb (b.map wd)] = some (.ret (.lst false ((dig (val a - val b)).map wd))) := by
  refine denP_eq E72 rfl (by simp [AV.pureL, AV.pure, pure_wd]) ?_
  have hs0 := setCells_wd (l := zs a.length) (m := a) (zs_len _)
  simp (maxSteps := 4000000) (disch := omega) only [go_sem, ↓reduceIte, Nat.reduceAdd, Nat.reduceSub, Nat.reduceMul, Nat.reduceEqDiff, reduceCtorEq, Int.reduceAdd, Int.reduceLT, Int.reduceLE, Int.reduceToNat, Int.reduceNeg, Int.reduceSub, ← List.map_take, ← List.map_drop, wrap64, wrapu64, wrapu32, ← Int.natCast_add, ← Int.natCast_mul, cast_succ, wrapu32_nat, shr32, reps_wd, map_set_wd, List.length_set, zs_len, Try.f72, Int.toNat_natCast, copyEff, srcCells, Nat.min_self, List.take_of_length_le, hs0]
  refine W_loopI (fun k σ => ∃ (H : Heap) (i c : Nat) (o : List Nat) (g2 g3 g4 g7 g8 g9 g10 g11 g12 g13 g14 g18 g19 g20 g21 g22 g23 g24 g25 g26 g27 g28 g29 g30 g31 g32 g33 g34 g35 g36 g37 g38 g39 g40 g41 g42 g43 g44 g45 g46 g47 : AV), σ = ⟨[.lst ma (a.map wd), .lst mb (b.map wd), g2, g3, g4, .ref 0 0 a.length, .int .u64 c, g7, g8, g9, g10, g11, g12, g13, g14, .ref 0 0 a.length, .int .i64 a.length, .int .i64 i, g18, g19, g20, g21, g22, g23, g24, g25, g26, g27, g28, g29, g30, g31, g32, g33, g34, g35, g36, g37, g38, g39, g40, g41, g42, g43, g44, g45, g46, g47], H, 1⟩ ∧
      H 0 = some ⟨o.map wd, false, 1, false⟩ ∧ o.length = a.length ∧ InR o ∧ c ≤ 1 ∧ i + k = a.length ∧ Hd (vp a i + c * BB ^ i = vp o i + vp b i) ∧ ∀ t, i ≤ t → o.getD t 0 = a.getD t 0) a.length
    ⟨_, 0, 0, a, _, _, _, _, _, _, _, _, _, _, _, _, _, _, _, _, _, _, _, _, _, _, _, _, _, _, _, _, _, _, _, _, _, _, _, _, _, _, _, _, _, rfl, rfl, rfl, ha, by omega, by omega, ⟨by simp [vp]⟩, fun _ _ => rfl⟩ ?_
  rintro k σ ⟨H, i, c, o, g2, g3, g4, g7, g8, g9, g10, g11, g12, g13, g14, g18, g19, g20, g21, g22, g23, g24, g25, g26, g27, g28, g29, g30, g31, g32, g33, g34, g35, g36, g37, g38, g39, g40, g41, g42, g43, g44, g45, g46, g47, rfl, hH, ho, hr, hc, hi, hv, hz⟩
  by_cases hk : k = 0
  · obtain rfl : i = a.length := by omega
    have h1 := hv.out
    rw [vp_ge b _ lb, show vp a a.length = val a from rfl, ← ho, show vp o o.length = val o from rfl, ho] at h1
    have h2 := val_lt hr
    rw [ho] at h2
    have h3 : c = 0 := by
      rcases Nat.lt_or_ge 0 c with h | h
      · have : c = 1 := by omega
        subst this; omega
      · omega
    subst h3
    have hval : val o = val a - val b := by omega
    have ht := trim_spec false o hr (by omega)
    rw [hval] at ht
    clear hv h1 h2 hval
    simp (maxSteps := 4000000) (disch := omega) only [go_sem, ↓reduceIte, Nat.reduceAdd, Nat.reduceSub, Nat.reduceMul, Nat.reduceEqDiff, reduceCtorEq, Int.reduceAdd, Int.reduceLT, Int.reduceLE, Int.reduceToNat, Int.reduceNeg, Int.reduceSub, ← List.map_take, ← List.map_drop, wrap64, wrapu64, wrapu32, ← Int.natCast_add, ← Int.natCast_mul, cast_succ, wrapu32_nat, shr32, reps_wd, map_set_wd, List.length_set, zs_len, hH, ho, List.take_of_length_le, ht]
  · have hx := ha.get i
    have hy := hb.get i
    have e := hz i (Nat.le_refl _)
    obtain ⟨X, hX⟩ : ∃ X : Nat, (b.getD i 0 + c ≤ a.getD i 0 ∧ X = a.getD i 0 - c - b.getD i 0) ∨ (a.getD i 0 < b.getD i 0 + c ∧ X = 18446744073709551616 + a.getD i 0 - c - b.getD i 0) := by
      by_cases h : b.getD i 0 + c ≤ a.getD i 0
      · exact ⟨_, .inl ⟨h, rfl⟩⟩
      · exact ⟨_, .inr ⟨by omega, rfl⟩⟩
    have hw : a.getD i 0 + X / 9223372036854775808 * 4294967296 = X % 4294967296 + b.getD i 0 + c := by omega
    have hc2 : X / 9223372036854775808 ≤ 1 := by omega
    have fin : ∃ m, m < k ∧ i + 1 + m = a.length := ⟨k - 1, by omega, by omega⟩
    have hz2 : ∀ t, i + 1 ≤ t → (o.set i (X % 4294967296)).getD t 0 = a.getD t 0 := fun t ht => by rw [lget_set_ne (by omega)]; exact hz t (by omega)
    by_cases hiy : i < b.length
    · have eX : IntKind.u64.wrap (IntKind.u64.wrap ((a.getD i 0 : Nat) - (c : Int)) - (b.getD i 0 : Nat)) = (X : Int) := by
        rw [IntKind.wrap_u64, IntKind.wrap_u64]; omega
      have hst := minus_step (o := o) (by omega) hv.out hw
      clear hX hw
      simp (maxSteps := 4000000) (disch := omega) only [go_sem, ↓reduceIte, Nat.reduceAdd, Nat.reduceSub, Nat.reduceMul, Nat.reduceEqDiff, reduceCtorEq, Int.reduceAdd, Int.reduceLT, Int.reduceLE, Int.reduceToNat, Int.reduceNeg, Int.reduceSub, ← List.map_take, ← List.map_drop, wrap64, wrapu64, wrapu32, ← Int.natCast_add, ← Int.natCast_mul, cast_succ, wrapu32_nat, shr32, reps_wd, map_set_wd, List.length_set, zs_len, hH, ho, e, eX, shr63]
      exact ⟨k - 1, by omega, H.upd 0 (some ⟨(o.set i (X % 4294967296)).map wd, false, 1, false⟩), i + 1, X / 9223372036854775808, o.set i (X % 4294967296), _, _, _, _, _, _, _, _, _, _, _, _, _, _, _, _, _, _, _, _, _, _, _, _, _, _, _, _, _, _, _, _, _, _, _, _, _, _, _, _, _, rfl, rfl, by rw [List.length_set, ho], hr.set (Nat.mod_lt _ (by decide)), hc2, by omega, ⟨hst⟩, hz2⟩
    · have h0 := getD_ge (l := b) (i := i) (by omega)
      have eX : IntKind.u64.wrap ((a.getD i 0 : Nat) - (c : Int)) = (X : Int) := by
        rw [IntKind.wrap_u64]; omega
      have hst := minus_step (o := o) (by omega) hv.out hw
      clear hX hw
      simp (maxSteps := 4000000) (disch := omega) only [go_sem, ↓reduceIte, Nat.reduceAdd, Nat.reduceSub, Nat.reduceMul, Nat.reduceEqDiff, reduceCtorEq, Int.reduceAdd, Int.reduceLT, Int.reduceLE, Int.reduceToNat, Int.reduceNeg, Int.reduceSub, ← List.map_take, ← List.map_drop, wrap64, wrapu64, wrapu32, ← Int.natCast_add, ← Int.natCast_mul, cast_succ, wrapu32_nat, shr32, reps_wd, map_set_wd, List.length_set, zs_len, hH, ho, e, eX, shr63]
      exact ⟨k - 1, by omega, H.upd 0 (some ⟨(o.set i (X % 4294967296)).map wd, false, 1, false⟩), i + 1, X / 9223372036854775808, o.set i (X % 4294967296), _, _, _, _, _, _, _, _, _, _, _, _, _, _, _, _, _, _, _, _, _, _, _, _, _, _, _, _, _, _, _, _, _, _, _, _, _, _, _, _, _, rfl, rfl, by rw [List.length_set, ho], hr.set (Nat.mod_lt _ (by decide)), hc2, by omega, ⟨hst⟩, hz2⟩
end Go.Proofs.Ytpfcijgcjghgeaa

/- Walks of the package large: sums, differences and products of numbers with signs. (Own work of this repo.) -/
namespace Go.Proofs.Ytpfcijgcjghgeaa
open Vm
set_option maxRecDepth 10000

theorem sum_spec (ma : Bool) (x : Int) (mb : Bool) (y : Int) (neg : Bool) (hx : (dg x).length ≤ 4096) (hy : (dg y).length ≤ 4096) :
    denP E 59 [I ma x, I mb y, .bool neg] = some (.ret (RI false (x + sg neg y.natAbs))) := by
  refine denP_eq E59 rfl (by simp [AV.pureL, AV.pure, pure_wd]) ?_
  have h1 := plus_spec ma (dg x) mb (dg y) (dg_inR x) (dg_inR y) (by omega) (by omega)
  have h2 := compare_spec ma (dg x) mb (dg y) (dg_norm x) (dg_norm y) (by omega) (by omega)
  have l1 := dig_add x.natAbs y.natAbs
  have l1' : (dig (x.natAbs + y.natAbs)).length < 2 ^ 40 := by unfold dg at hx hy; omega
  have h3 := made_dig neg false (x.natAbs + y.natAbs) (by simp) l1'
  rw [val_dg, val_dg] at h1 h2
  by_cases hs : ng x = neg
  · have e : sg neg (x.natAbs + y.natAbs) = x + sg neg y.natAbs := by
      rw [← hs]; unfold sg ng; by_cases h : x < 0 <;> simp [h] <;> omega
    rw [e] at h3
    simp (maxSteps := 4000000) (disch := omega) only [go_sem, ↓reduceIte, Nat.reduceAdd, Nat.reduceSub, Nat.reduceMul, Nat.reduceEqDiff, reduceCtorEq, Int.reduceAdd, Int.reduceLT, Int.reduceLE, Int.reduceToNat, Int.reduceNeg, Int.reduceSub, ← List.map_take, ← List.map_drop, wrap64, wrapu64, wrapu32, Try.f59, h1, h3, hs]
  · by_cases hc : x.natAbs < y.natAbs
    · have h4 := minus_spec mb (dg y) ma (dg x) (dg_inR y) (dg_inR x) (by omega) (dig_mono (by omega)) (by rw [val_dg, val_dg]; omega)
      rw [val_dg, val_dg] at h4
      have l2 := dig_mono (a := y.natAbs - x.natAbs) (b := y.natAbs) (by omega)
      have h5 := made_dig neg false (y.natAbs - x.natAbs) (by simp) (by unfold dg at hy; omega)
      have e : sg neg (y.natAbs - x.natAbs) = x + sg neg y.natAbs := by
        have : neg = !(ng x) := by cases neg <;> cases h : ng x <;> simp_all
        rw [this]; unfold sg ng; by_cases h : x < 0 <;> simp [h] <;> omega
      rw [e] at h5
      have hc' : cmpN x.natAbs y.natAbs = -1 := if_pos hc
      rw [hc'] at h2
      have hs' : (ng x == neg) = false := by simpa using hs
      simp (maxSteps := 4000000) (disch := omega) only [go_sem, ↓reduceIte, Nat.reduceAdd, Nat.reduceSub, Nat.reduceMul, Nat.reduceEqDiff, reduceCtorEq, Int.reduceAdd, Int.reduceLT, Int.reduceLE, Int.reduceToNat, Int.reduceNeg, Int.reduceSub, ← List.map_take, ← List.map_drop, wrap64, wrapu64, wrapu32, Try.f59, h2, h4, h5, hs']
    · have h4 := minus_spec ma (dg x) mb (dg y) (dg_inR x) (dg_inR y) (by omega) (dig_mono (by omega)) (by rw [val_dg, val_dg]; omega)
      rw [val_dg, val_dg] at h4
      have l2 := dig_mono (a := x.natAbs - y.natAbs) (b := x.natAbs) (by omega)
      have h5 := made_dig (ng x) false (x.natAbs - y.natAbs) (by simp) (by unfold dg at hx; omega)
      have e : sg (ng x) (x.natAbs - y.natAbs) = x + sg neg y.natAbs := by
        have : neg = !(ng x) := by cases neg <;> cases h : ng x <;> simp_all
        rw [this]; unfold sg ng; by_cases h : x < 0 <;> simp [h] <;> omega
      rw [e] at h5
      have hc' : ¬ cmpN x.natAbs y.natAbs < 0 := by unfold cmpN; rw [if_neg hc]; split <;> decide
      have hs' : (ng x == neg) = false := by simpa using hs
      simp (maxSteps := 4000000) (disch := omega) only [go_sem, ↓reduceIte, Nat.reduceAdd, Nat.reduceSub, Nat.reduceMul, Nat.reduceEqDiff, reduceCtorEq, Int.reduceAdd, Int.reduceLT, Int.reduceLE, Int.reduceToNat, Int.reduceNeg, Int.reduceSub, ← List.map_take, ← List.map_drop, wrap64, wrapu64, wrapu32, Try.f59, h2, hs', hc']
      refine W_drawn ?_
      simp (maxSteps := 4000000) (disch := omega) only [go_sem, ↓reduceIte, Nat.reduceAdd, Nat.reduceSub, Nat.reduceMul, Nat.reduceEqDiff, reduceCtorEq, Int.reduceAdd, Int.reduceLT, Int.reduceLE, Int.reduceToNat, Int.reduceNeg, Int.reduceSub, ← List.map_take, ← List.map_drop, wrap64, wrapu64, wrapu32, h4, h5]
      rfl
theorem add_spec (ma : Bool) (x : Int) (mb : Bool) (y : Int) (hx : (dg x).length ≤ 4096) (hy : (dg y).length ≤ 4096) : denP E 21 [I ma x, I mb y] = some (.ret (RI false (x + y))) := by
  refine denP_eq E21 rfl (by simp [AV.pureL, AV.pure, pure_wd]) ?_
  have h1 := valid2_I ma x mb y hx hy
  have h2 := sum_spec ma x mb y (ng y) hx hy
  rw [sg_ng] at h2
  simp (maxSteps := 4000000) (disch := omega) only [go_sem, ↓reduceIte, Nat.reduceAdd, Nat.reduceSub, Nat.reduceMul, Nat.reduceEqDiff, reduceCtorEq, Int.reduceAdd, Int.reduceLT, Int.reduceLE, Int.reduceToNat, Int.reduceNeg, Int.reduceSub, ← List.map_take, ← List.map_drop, wrap64, wrapu64, wrapu32, Try.f21, h1, h2, fillAll, reps, refP, elems]
theorem sub_spec (ma : Bool) (x : Int) (mb : Bool) (y : Int) (hx : (dg x).length ≤ 4096) (hy : (dg y).length ≤ 4096) : denP E 22 [I ma x, I mb y] = some (.ret (RI false (x - y))) := by
  refine denP_eq E22 rfl (by simp [AV.pureL, AV.pure, pure_wd]) ?_
  have h1 := valid2_I ma x mb y hx hy
  have h2 := sum_spec ma x mb y (!(ng y)) hx hy
  rw [sg_not, ← Int.sub_eq_add_neg] at h2
  simp (maxSteps := 4000000) (disch := omega) only [go_sem, ↓reduceIte, Nat.reduceAdd, Nat.reduceSub, Nat.reduceMul, Nat.reduceEqDiff, reduceCtorEq, Int.reduceAdd, Int.reduceLT, Int.reduceLE, Int.reduceToNat, Int.reduceNeg, Int.reduceSub, ← List.map_take, ← List.map_drop, wrap64, wrapu64, wrapu32, Try.f22, h1, h2, fillAll, reps, refP, elems]
theorem mul_spec (ma : Bool) (x : Int) (mb : Bool) (y : Int) (hx : (dg x).length ≤ 4096) (hy : (dg y).length ≤ 4096) : denP E 23 [I ma x, I mb y] = some (.ret (RI (mz x y) (x * y))) := by
  refine denP_eq E23 rfl (by simp [AV.pureL, AV.pure, pure_wd]) ?_
  have h1 := valid2_I ma x mb y hx hy
  have h2 := times_spec ma (dg x) mb (dg y) (dg_inR x) (dg_inR y) (by omega) (by omega)
  rw [val_dg, val_dg] at h2
  have e : decide ((dg x).length = 0 ∨ (dg y).length = 0) = mz x y := by unfold mz; simp only [dg_len0]
  rw [e] at h2
  have l1 := dig_mul x.natAbs y.natAbs
  have h3 := made_dig (ng x != ng y) (mz x y) (x.natAbs * y.natAbs) (fun h => by
    unfold mz at h; rw [decide_eq_true_eq] at h; rcases h with rfl | rfl <;> simp) (by unfold dg at hx hy; omega)
  rw [sg_mul] at h3
  have hb : (!(ng x == ng y)) = (ng x != ng y) := rfl
  by_cases h0 : x = 0
  · have hl : (dg x).length = 0 := dg_len0.2 h0
    simp (maxSteps := 4000000) (disch := omega) only [go_sem, ↓reduceIte, Nat.reduceAdd, Nat.reduceSub, Nat.reduceMul, Nat.reduceEqDiff, reduceCtorEq, Int.reduceAdd, Int.reduceLT, Int.reduceLE, Int.reduceToNat, Int.reduceNeg, Int.reduceSub, ← List.map_take, ← List.map_drop, wrap64, wrapu64, wrapu32, Try.f23, h1, hl, fillAll, reps, refP, elems]
    refine W_drawn ?_
    simp (maxSteps := 4000000) (disch := omega) only [go_sem, ↓reduceIte, Nat.reduceAdd, Nat.reduceSub, Nat.reduceMul, Nat.reduceEqDiff, reduceCtorEq, Int.reduceAdd, Int.reduceLT, Int.reduceLE, Int.reduceToNat, Int.reduceNeg, Int.reduceSub, ← List.map_take, ← List.map_drop, wrap64, wrapu64, wrapu32, h2, h3, hb]
    rfl
  · have hl : 0 < (dg x).length := dg_pos.2 h0
    by_cases h0' : y = 0
    · have hl' : (dg y).length = 0 := dg_len0.2 h0'
      simp (maxSteps := 4000000) (disch := omega) only [go_sem, ↓reduceIte, Nat.reduceAdd, Nat.reduceSub, Nat.reduceMul, Nat.reduceEqDiff, reduceCtorEq, Int.reduceAdd, Int.reduceLT, Int.reduceLE, Int.reduceToNat, Int.reduceNeg, Int.reduceSub, ← List.map_take, ← List.map_drop, wrap64, wrapu64, wrapu32, Try.f23, h1, hl', fillAll, reps, refP, elems]
      refine W_drawn ?_
      simp (maxSteps := 4000000) (disch := omega) only [go_sem, ↓reduceIte, Nat.reduceAdd, Nat.reduceSub, Nat.reduceMul, Nat.reduceEqDiff, reduceCtorEq, Int.reduceAdd, Int.reduceLT, Int.reduceLE, Int.reduceToNat, Int.reduceNeg, Int.reduceSub, ← List.map_take, ← List.map_drop, wrap64, wrapu64, wrapu32, h2, h3, hb]
      rfl
    · have hl' : 0 < (dg y).length := dg_pos.2 h0'
      by_cases hs : (dg x).length + (dg y).length ≤ 4097
      · simp (maxSteps := 4000000) (disch := omega) only [go_sem, ↓reduceIte, Nat.reduceAdd, Nat.reduceSub, Nat.reduceMul, Nat.reduceEqDiff, reduceCtorEq, Int.reduceAdd, Int.reduceLT, Int.reduceLE, Int.reduceToNat, Int.reduceNeg, Int.reduceSub, ← List.map_take, ← List.map_drop, wrap64, wrapu64, wrapu32, Try.f23, h1, fillAll, reps, refP, elems]
        refine W_drawn ?_
        simp (maxSteps := 4000000) (disch := omega) only [go_sem, ↓reduceIte, Nat.reduceAdd, Nat.reduceSub, Nat.reduceMul, Nat.reduceEqDiff, reduceCtorEq, Int.reduceAdd, Int.reduceLT, Int.reduceLE, Int.reduceToNat, Int.reduceNeg, Int.reduceSub, ← List.map_take, ← List.map_drop, wrap64, wrapu64, wrapu32, h2, h3, hb]
        rfl
      · have := dg_mul_ge h0 h0'
        have h4 : ¬ (dg (x * y)).length ≤ 4096 := by omega
        simp (maxSteps := 4000000) (disch := omega) only [go_sem, ↓reduceIte, Nat.reduceAdd, Nat.reduceSub, Nat.reduceMul, Nat.reduceEqDiff, reduceCtorEq, Int.reduceAdd, Int.reduceLT, Int.reduceLE, Int.reduceToNat, Int.reduceNeg, Int.reduceSub, ← List.map_take, ← List.map_drop, wrap64, wrapu64, wrapu32, Try.f23, h1, fillAll, reps, refP, elems, places, RI, I, fit_no h4, er_no h4, fm_no h4, ng_zero, dg_zero]
theorem cmp_spec (ma : Bool) (x : Int) (mb : Bool) (y : Int) (hx : (dg x).length ≤ 4096) (hy : (dg y).length ≤ 4096) : denP E 20 [I ma x, I mb y] = some (.ret (.tup [.int .i64 (cmpI x y), .int .i64 0])) := by
  refine denP_eq E20 rfl (by simp [AV.pureL, AV.pure, pure_wd]) ?_
  have h1 := valid2_I ma x mb y hx hy
  have h2 := compare_spec ma (dg x) mb (dg y) (dg_norm x) (dg_norm y) (by omega) (by omega)
  have h3 := compare_spec mb (dg y) ma (dg x) (dg_norm y) (dg_norm x) (by omega) (by omega)
  rw [val_dg, val_dg] at h2 h3
  cases ha : ng x with
  | true =>
    have ha' := ng_true.1 ha
    cases hb : ng y with
    | true =>
      have hb' := ng_true.1 hb
      have e : cmpN y.natAbs x.natAbs = cmpI x y := by
        unfold cmpN cmpI
        by_cases h1 : x < y
        · rw [if_pos h1, if_pos (by omega)]
        · rw [if_neg h1, if_neg (by omega)]
          by_cases h2 : y < x
          · rw [if_pos h2, if_pos (by omega)]
          · rw [if_neg h2, if_neg (by omega)]
      rw [e] at h3
      simp only [I, ha, hb] at h1
      simp (maxSteps := 4000000) (disch := omega) only [go_sem, ↓reduceIte, Nat.reduceAdd, Nat.reduceSub, Nat.reduceMul, Nat.reduceEqDiff, reduceCtorEq, Int.reduceAdd, Int.reduceLT, Int.reduceLE, Int.reduceToNat, Int.reduceNeg, Int.reduceSub, ← List.map_take, ← List.map_drop, wrap64, wrapu64, wrapu32, Try.f20, ha, hb, h1, h3, fillAll, reps, refP, elems]
    | false =>
      have hb' := ng_false.1 hb
      have e : cmpI x y = -1 := by unfold cmpI; rw [if_pos (by omega)]
      simp only [I, ha, hb] at h1
      simp (maxSteps := 4000000) (disch := omega) only [go_sem, ↓reduceIte, Nat.reduceAdd, Nat.reduceSub, Nat.reduceMul, Nat.reduceEqDiff, reduceCtorEq, Int.reduceAdd, Int.reduceLT, Int.reduceLE, Int.reduceToNat, Int.reduceNeg, Int.reduceSub, ← List.map_take, ← List.map_drop, wrap64, wrapu64, wrapu32, Try.f20, ha, hb, h1, e, fillAll, reps, refP, elems]
  | false =>
    have ha' := ng_false.1 ha
    cases hb : ng y with
    | true =>
      have hb' := ng_true.1 hb
      have e : cmpI x y = 1 := by unfold cmpI; rw [if_neg (by omega), if_pos (by omega)]
      simp only [I, ha, hb] at h1
      simp (maxSteps := 4000000) (disch := omega) only [go_sem, ↓reduceIte, Nat.reduceAdd, Nat.reduceSub, Nat.reduceMul, Nat.reduceEqDiff, reduceCtorEq, Int.reduceAdd, Int.reduceLT, Int.reduceLE, Int.reduceToNat, Int.reduceNeg, Int.reduceSub, ← List.map_take, ← List.map_drop, wrap64, wrapu64, wrapu32, Try.f20, ha, hb, h1, e, fillAll, reps, refP, elems]
    | false =>
      have hb' := ng_false.1 hb
      have e : cmpN x.natAbs y.natAbs = cmpI x y := by
        unfold cmpN cmpI
        by_cases h1 : x < y
        · rw [if_pos h1, if_pos (by omega)]
        · rw [if_neg h1, if_neg (by omega)]
          by_cases h2 : y < x
          · rw [if_pos h2, if_pos (by omega)]
          · rw [if_neg h2, if_neg (by omega)]
      rw [e] at h2
      simp only [I, ha, hb] at h1
      simp (maxSteps := 4000000) (disch := omega) only [go_sem, ↓reduceIte, Nat.reduceAdd, Nat.reduceSub, Nat.reduceMul, Nat.reduceEqDiff, reduceCtorEq, Int.reduceAdd, Int.reduceLT, Int.reduceLE, Int.reduceToNat, Int.reduceNeg, Int.reduceSub, ← List.map_take, ← List.map_drop, wrap64, wrapu64, wrapu32, Try.f20, ha, hb, h1, h2, fillAll, reps, refP, elems]
end Go.Proofs.Ytpfcijgcjghgeaa

/- Walks of the reference of chapter 1: comparing, making. (Own work of this repo.) -/
namespace Go.Proofs.Ytpfcijgcjghgeaa
open Vm
set_option maxRecDepth 10000

theorem rZero_spec (m : Bool) (x : Int) : denP E 32 [I m x] = some (.ret (.bool (decide (x = 0)))) := by
  refine denP_eq E32 rfl (by simp [AV.pureL, AV.pure, pure_wd]) ?_
  have e : decide (((dg x).length : Int) = 0) = decide (x = 0) := by
    rw [decide_eq_decide, ← dg_len0 (z := x)]; omega
  simp (maxSteps := 4000000) (disch := omega) only [go_sem, ↓reduceIte, Nat.reduceAdd, Nat.reduceSub, Nat.reduceMul, Nat.reduceEqDiff, reduceCtorEq, Int.reduceAdd, Int.reduceLT, Int.reduceLE, Int.reduceToNat, Int.reduceNeg, Int.reduceSub, ← List.map_take, ← List.map_drop, wrap64, wrapu64, wrapu32, Try.f32, e]
theorem rSameWords_walk (ma : Bool) (a : List Nat) (mb : Bool) (b : List Nat) (la : a.length < 2 ^ 60) (lb : b.length < 2 ^ 60) :
    denP E 57 [.lst ma (a.map wd), .lst mb (b.map wd)] = some (.ret (.bool (decide (a = b)))) := by
  refine denP_eq E57 rfl (by simp [AV.pureL, AV.pure, pure_wd]) ?_
  by_cases h : a.length = b.length
  · simp (maxSteps := 4000000) (disch := omega) only [go_sem, ↓reduceIte, Nat.reduceAdd, Nat.reduceSub, Nat.reduceMul, Nat.reduceEqDiff, reduceCtorEq, Int.reduceAdd, Int.reduceLT, Int.reduceLE, Int.reduceToNat, Int.reduceNeg, Int.reduceSub, ← List.map_take, ← List.map_drop, wrap64, wrapu64, wrapu32, ← Int.natCast_add, ← Int.natCast_mul, cast_succ, wrapu32_nat, shr32, reps_wd, map_set_wd, List.length_set, zs_len, Try.f57]
    refine W_loopS (fun k sl h nx => ∃ i : Nat, (∃ g : Nat → AV, sl = [.lst ma (a.map wd), .lst mb (b.map wd), g 2, g 3, g 4, .int .i64 i, g 6, g 7, g 8, g 9, g 10, g 11, g 12, g 13, g 14, g 15, g 16, g 17, g 18, g 19, g 20, g 21, g 22, g 23, g 24, g 25]) ∧ h = Heap.empty ∧ nx = 0 ∧
      i + k = a.length ∧ ∀ j, j < i → a.getD j 0 = b.getD j 0) a.length ⟨0, garb rfl, rfl, rfl, by omega, by omega⟩ ?_
    rintro k _ _ _ ⟨i, ⟨g, rfl⟩, rfl, rfl, hk, hall⟩
    by_cases hk0 : k = 0
    · have hv : a = b := by
        refine List.ext_getElem h fun j h1 h2 => ?_
        have := hall j (by omega)
        rw [List.getD_eq_getElem?_getD, List.getD_eq_getElem?_getD, List.getElem?_eq_getElem h1, List.getElem?_eq_getElem h2] at this
        exact this
      have hc : decide (a = b) = true := decide_eq_true hv
      simp (maxSteps := 4000000) (disch := omega) only [go_sem, ↓reduceIte, Nat.reduceAdd, Nat.reduceSub, Nat.reduceMul, Nat.reduceEqDiff, reduceCtorEq, Int.reduceAdd, Int.reduceLT, Int.reduceLE, Int.reduceToNat, Int.reduceNeg, Int.reduceSub, ← List.map_take, ← List.map_drop, wrap64, wrapu64, wrapu32, ← Int.natCast_add, ← Int.natCast_mul, cast_succ, wrapu32_nat, shr32, reps_wd, map_set_wd, List.length_set, zs_len, hc]
    · simp (maxSteps := 4000000) (disch := omega) only [go_sem, ↓reduceIte, Nat.reduceAdd, Nat.reduceSub, Nat.reduceMul, Nat.reduceEqDiff, reduceCtorEq, Int.reduceAdd, Int.reduceLT, Int.reduceLE, Int.reduceToNat, Int.reduceNeg, Int.reduceSub, ← List.map_take, ← List.map_drop, wrap64, wrapu64, wrapu32, ← Int.natCast_add, ← Int.natCast_mul, cast_succ, wrapu32_nat, shr32, reps_wd, map_set_wd, List.length_set, zs_len]
      refine W_drawn ?_
      by_cases h1 : a.getD i 0 = b.getD i 0
      · simp (maxSteps := 4000000) (disch := omega) only [go_sem, ↓reduceIte, Nat.reduceAdd, Nat.reduceSub, Nat.reduceMul, Nat.reduceEqDiff, reduceCtorEq, Int.reduceAdd, Int.reduceLT, Int.reduceLE, Int.reduceToNat, Int.reduceNeg, Int.reduceSub, ← List.map_take, ← List.map_drop, wrap64, wrapu64, wrapu32, ← Int.natCast_add, ← Int.natCast_mul, cast_succ, wrapu32_nat, shr32, reps_wd, map_set_wd, List.length_set, zs_len, h1]
        refine ⟨by rfl, ?_⟩
        refine ⟨k - 1, by omega, i + 1, garb rfl, by omega, fun j hj => ?_⟩
        by_cases hji : j = i
        · subst hji; exact h1
        · exact hall j (by omega)
      · have hv : decide (a = b) = false := decide_eq_false (fun e => h1 (by rw [e]))
        simp (maxSteps := 4000000) (disch := omega) only [go_sem, ↓reduceIte, Nat.reduceAdd, Nat.reduceSub, Nat.reduceMul, Nat.reduceEqDiff, reduceCtorEq, Int.reduceAdd, Int.reduceLT, Int.reduceLE, Int.reduceToNat, Int.reduceNeg, Int.reduceSub, ← List.map_take, ← List.map_drop, wrap64, wrapu64, wrapu32, ← Int.natCast_add, ← Int.natCast_mul, cast_succ, wrapu32_nat, shr32, reps_wd, map_set_wd, List.length_set, zs_len, hv]
        rfl
  · have hv : decide (a = b) = false := decide_eq_false (fun e => h (by rw [e]))
    simp (maxSteps := 4000000) (disch := omega) only [go_sem, ↓reduceIte, Nat.reduceAdd, Nat.reduceSub, Nat.reduceMul, Nat.reduceEqDiff, reduceCtorEq, Int.reduceAdd, Int.reduceLT, Int.reduceLE, Int.reduceToNat, Int.reduceNeg, Int.reduceSub, ← List.map_take, ← List.map_drop, wrap64, wrapu64, wrapu32, ← Int.natCast_add, ← Int.natCast_mul, cast_succ, wrapu32_nat, shr32, reps_wd, map_set_wd, List.length_set, zs_len, Try.f57, hv]
theorem rSameB_spec (na ma : Bool) (a : List Nat) (nb mb : Bool) (b : List Nat) (la : a.length < 2 ^ 60) (lb : b.length < 2 ^ 60) :
    denP E 18 [iv na ma a, iv nb mb b] = some (.ret (.bool (na == nb && decide (a = b)))) := by
  refine denP_eq E18 rfl (by simp [AV.pureL, AV.pure, pure_wd]) ?_
  have h := rSameWords_walk ma a mb b la lb
  cases hs : na == nb with
  | true => simp (maxSteps := 4000000) (disch := omega) only [go_sem, ↓reduceIte, Nat.reduceAdd, Nat.reduceSub, Nat.reduceMul, Nat.reduceEqDiff, reduceCtorEq, Int.reduceAdd, Int.reduceLT, Int.reduceLE, Int.reduceToNat, Int.reduceNeg, Int.reduceSub, ← List.map_take, ← List.map_drop, wrap64, wrapu64, wrapu32, Try.f18, hs, h]
  | false => simp (maxSteps := 4000000) (disch := omega) only [go_sem, ↓reduceIte, Nat.reduceAdd, Nat.reduceSub, Nat.reduceMul, Nat.reduceEqDiff, reduceCtorEq, Int.reduceAdd, Int.reduceLT, Int.reduceLE, Int.reduceToNat, Int.reduceNeg, Int.reduceSub, ← List.map_take, ← List.map_drop, wrap64, wrapu64, wrapu32, Try.f18, hs, h]
theorem rSame_spec (ma : Bool) (x : Int) (mb : Bool) (y : Int) (hx : (dg x).length < 2 ^ 60) (hy : (dg y).length < 2 ^ 60) :
    denP E 18 [I ma x, I mb y] = some (.ret (.bool (decide (x = y)))) := by
  have h := rSameB_spec (ng x) ma (dg x) (ng y) mb (dg y) hx hy
  rw [h]
  congr 3
  by_cases e : x = y
  · subst e; simp
  · rw [decide_eq_false e]
    rw [Bool.eq_false_iff]
    intro h
    rw [Bool.and_eq_true, beq_iff_eq, decide_eq_true_eq] at h
    exact e (int_ext h.1 h.2)
def rvalidW (neg : Bool) (l : List Nat) : Bool := if l.length = 0 then !neg else decide (l.length ≤ 4096) && decide (l.getD (l.length - 1) 0 ≠ 0)
theorem rValid_walk (neg nl : Bool) (l : List Nat) (hl : l.length < 2 ^ 60) : denP E 25 [iv neg nl l] = some (.ret (.bool (rvalidW neg l))) := by
  refine denP_eq E25 rfl (by simp [AV.pureL, AV.pure, pure_wd]) ?_
  unfold rvalidW
  by_cases h2 : l.length = 0
  · simp (maxSteps := 4000000) (disch := omega) only [go_sem, ↓reduceIte, Nat.reduceAdd, Nat.reduceSub, Nat.reduceMul, Nat.reduceEqDiff, reduceCtorEq, Int.reduceAdd, Int.reduceLT, Int.reduceLE, Int.reduceToNat, Int.reduceNeg, Int.reduceSub, ← List.map_take, ← List.map_drop, wrap64, wrapu64, wrapu32, Try.f25]
  · have e : (l.length : Int) - 1 = (l.length - 1 : Nat) := by omega
    by_cases h1 : l.length ≤ 4096
    · by_cases h3 : l.getD (l.length - 1) 0 = 0
      · simp (maxSteps := 4000000) (disch := omega) only [go_sem, ↓reduceIte, Nat.reduceAdd, Nat.reduceSub, Nat.reduceMul, Nat.reduceEqDiff, reduceCtorEq, Int.reduceAdd, Int.reduceLT, Int.reduceLE, Int.reduceToNat, Int.reduceNeg, Int.reduceSub, ← List.map_take, ← List.map_drop, wrap64, wrapu64, wrapu32, Try.f25, e, ne_eq]
      · simp (maxSteps := 4000000) (disch := omega) only [go_sem, ↓reduceIte, Nat.reduceAdd, Nat.reduceSub, Nat.reduceMul, Nat.reduceEqDiff, reduceCtorEq, Int.reduceAdd, Int.reduceLT, Int.reduceLE, Int.reduceToNat, Int.reduceNeg, Int.reduceSub, ← List.map_take, ← List.map_drop, wrap64, wrapu64, wrapu32, Try.f25, e, ne_eq]
    · simp (maxSteps := 4000000) (disch := omega) only [go_sem, ↓reduceIte, Nat.reduceAdd, Nat.reduceSub, Nat.reduceMul, Nat.reduceEqDiff, reduceCtorEq, Int.reduceAdd, Int.reduceLT, Int.reduceLE, Int.reduceToNat, Int.reduceNeg, Int.reduceSub, ← List.map_take, ← List.map_drop, wrap64, wrapu64, wrapu32, Try.f25]
/-- A valid number is one. -/
theorem rvalid_norm {neg : Bool} {l : List Nat} (hr : InR l) (h : rvalidW neg l = true) : l.length ≤ 4096 ∧ ∃ z : Int, ng z = neg ∧ dg z = l := by
  unfold rvalidW at h
  by_cases h0 : l.length = 0
  · rw [if_pos h0] at h
    have := List.length_eq_zero_iff.1 h0
    subst this
    refine ⟨by simp, 0, ?_, dg_zero⟩
    simp at h; rw [h]; rfl
  · rw [if_neg h0, Bool.and_eq_true, decide_eq_true_eq, decide_eq_true_eq] at h
    have hn : Norm l := ⟨hr, .inr h.2⟩
    have hp := norm_pos hn (fun e => h0 (by rw [e]; rfl))
    refine ⟨h.1, sg neg (val l), ?_, ?_⟩
    · rw [ng_sg, decide_eq_true (by omega), Bool.and_true]
    · rw [dg_sg, dig_val hn]
theorem rvalidW_I (z : Int) : rvalidW (ng z) (dg z) = decide ((dg z).length ≤ 4096) := by
  unfold rvalidW
  rcases (dg_norm z).2 with h | h
  · have : z = 0 := dg_nil.1 h
    subst this
    rw [h]; rfl
  · have h0 : (dg z).length ≠ 0 := fun e => by rw [List.length_eq_zero_iff.1 e] at h; simp at h
    rw [if_neg h0, decide_eq_true h, Bool.and_true]
theorem rValid_spec (m : Bool) (z : Int) (h : (dg z).length < 2 ^ 60) : denP E 25 [I m z] = some (.ret (.bool (decide ((dg z).length ≤ 4096)))) := by
  have := rValid_walk (ng z) m (dg z) h
  rwa [rvalidW_I] at this
theorem rFits_spec (m : Bool) (z : Int) : denP E 51 [I m z] = some (.ret (.bool (decide ((dg z).length ≤ 4096)))) := by
  refine denP_eq E51 rfl (by simp [AV.pureL, AV.pure, pure_wd]) ?_
  have e : decide (((dg z).length : Int) ≤ 4096) = decide ((dg z).length ≤ 4096) := by rw [decide_eq_decide]; omega
  simp (maxSteps := 4000000) (disch := omega) only [go_sem, ↓reduceIte, Nat.reduceAdd, Nat.reduceSub, Nat.reduceMul, Nat.reduceEqDiff, reduceCtorEq, Int.reduceAdd, Int.reduceLT, Int.reduceLE, Int.reduceToNat, Int.reduceNeg, Int.reduceSub, ← List.map_take, ← List.map_drop, wrap64, wrapu64, wrapu32, Try.f51, e]
theorem rMake_spec (neg nl : Bool) (w : List Nat) (hw : InR w) (lw : w.length < 2 ^ 40) :
    denP E 62 [.bool neg, .lst nl (w.map wd)] = some (.ret (I (decide (val w = 0)) (sg neg (val w)))) := by
  refine denP_eq E62 rfl (by simp [AV.pureL, AV.pure, pure_wd]) ?_
  simp (maxSteps := 4000000) (disch := omega) only [go_sem, ↓reduceIte, Nat.reduceAdd, Nat.reduceSub, Nat.reduceMul, Nat.reduceEqDiff, reduceCtorEq, Int.reduceAdd, Int.reduceLT, Int.reduceLE, Int.reduceToNat, Int.reduceNeg, Int.reduceSub, ← List.map_take, ← List.map_drop, wrap64, wrapu64, wrapu32, ← Int.natCast_add, ← Int.natCast_mul, cast_succ, wrapu32_nat, shr32, reps_wd, map_set_wd, List.length_set, zs_len, Try.f62]
  refine W_loopS (fun k sl H nx => (∃ g : Nat → AV, sl = [.bool neg, .lst nl (w.map wd), g 2, g 3, .ptr 0 0, .int .i64 k, g 6, g 7, g 8, g 9, g 10, g 11, g 12, g 13, g 14, g 15, g 16, g 17, g 18, g 19, g 20, g 21, g 22, g 23, g 24, g 25, g 26, g 27, g 28, g 29, g 30, g 31, g 32, g 33, g 34]) ∧ nx = 1 ∧
    H 0 = some ⟨[.bool false, .lst true []], true, 2, false⟩ ∧ k ≤ w.length ∧ tz w k = tz w w.length) w.length ⟨garb rfl, rfl, rfl, by omega, rfl⟩ ?_
  rintro k _ H _ ⟨⟨g, rfl⟩, rfl, hH, hk, ht⟩
  have hd := take_tz hw
  have hln := ng_sg neg (val w)
  rw [dg_sg, hln]
  by_cases hk0 : k = 0
  · subst hk0
    have hv : val w = 0 := by
      rw [← ht] at hd
      have : dig (val w) = [] := by rw [← hd]; rfl
      exact dig_nil.1 this
    have e1 : decide (val w = 0) = true := decide_eq_true hv
    have e2 : decide (val w ≠ 0) = false := decide_eq_false (by simp [hv])
    rw [e1, e2, hv, dig_zero]
    cases neg with
    | true =>
      simp (maxSteps := 4000000) (disch := omega) only [go_sem, ↓reduceIte, Nat.reduceAdd, Nat.reduceSub, Nat.reduceMul, Nat.reduceEqDiff, reduceCtorEq, Int.reduceAdd, Int.reduceLT, Int.reduceLE, Int.reduceToNat, Int.reduceNeg, Int.reduceSub, ← List.map_take, ← List.map_drop, wrap64, wrapu64, wrapu32, ← Int.natCast_add, ← Int.natCast_mul, cast_succ, wrapu32_nat, shr32, reps_wd, map_set_wd, List.length_set, zs_len, fillAll, places, hH, appendEff, srcCells, cutBounds, flat]
      refine W_drawn ?_
      simp (maxSteps := 4000000) (disch := omega) only [go_sem, ↓reduceIte, Nat.reduceAdd, Nat.reduceSub, Nat.reduceMul, Nat.reduceEqDiff, reduceCtorEq, Int.reduceAdd, Int.reduceLT, Int.reduceLE, Int.reduceToNat, Int.reduceNeg, Int.reduceSub, ← List.map_take, ← List.map_drop, wrap64, wrapu64, wrapu32, ← Int.natCast_add, ← Int.natCast_mul, cast_succ, wrapu32_nat, shr32, reps_wd, map_set_wd, List.length_set, zs_len, fillAll, places, hH, appendEff, srcCells, cutBounds, flat]
      rfl
    | false =>
      simp (maxSteps := 4000000) (disch := omega) only [go_sem, ↓reduceIte, Nat.reduceAdd, Nat.reduceSub, Nat.reduceMul, Nat.reduceEqDiff, reduceCtorEq, Int.reduceAdd, Int.reduceLT, Int.reduceLE, Int.reduceToNat, Int.reduceNeg, Int.reduceSub, ← List.map_take, ← List.map_drop, wrap64, wrapu64, wrapu32, ← Int.natCast_add, ← Int.natCast_mul, cast_succ, wrapu32_nat, shr32, reps_wd, map_set_wd, List.length_set, zs_len, fillAll, places, hH, appendEff, srcCells, cutBounds, flat]
      refine W_drawn ?_
      simp (maxSteps := 4000000) (disch := omega) only [go_sem, ↓reduceIte, Nat.reduceAdd, Nat.reduceSub, Nat.reduceMul, Nat.reduceEqDiff, reduceCtorEq, Int.reduceAdd, Int.reduceLT, Int.reduceLE, Int.reduceToNat, Int.reduceNeg, Int.reduceSub, ← List.map_take, ← List.map_drop, wrap64, wrapu64, wrapu32, ← Int.natCast_add, ← Int.natCast_mul, cast_succ, wrapu32_nat, shr32, reps_wd, map_set_wd, List.length_set, zs_len, fillAll, places, hH, appendEff, srcCells, cutBounds, flat]
      rfl
  · have e : (k : Int) - 1 = ((k - 1 : Nat) : Int) := by omega
    by_cases h0 : w.getD (k - 1) 0 = 0
    · simp (maxSteps := 4000000) (disch := omega) only [go_sem, ↓reduceIte, Nat.reduceAdd, Nat.reduceSub, Nat.reduceMul, Nat.reduceEqDiff, reduceCtorEq, Int.reduceAdd, Int.reduceLT, Int.reduceLE, Int.reduceToNat, Int.reduceNeg, Int.reduceSub, ← List.map_take, ← List.map_drop, wrap64, wrapu64, wrapu32, ← Int.natCast_add, ← Int.natCast_mul, cast_succ, wrapu32_nat, shr32, reps_wd, map_set_wd, List.length_set, zs_len, e, h0]
      refine ⟨k - 1, by omega, garb rfl, hH, by omega, ?_⟩
      rw [← ht]
      obtain ⟨j, rfl⟩ : ∃ j, k = j + 1 := ⟨k - 1, by omega⟩
      simp only [Nat.add_sub_cancel] at h0 ⊢
      simp only [tz, if_pos h0]
    · have htk : tz w w.length = k := by
        rw [← ht]
        obtain ⟨j, rfl⟩ : ∃ j, k = j + 1 := ⟨k - 1, by omega⟩
        simp only [Nat.add_sub_cancel] at h0
        simp only [tz, if_neg h0]
      rw [htk] at hd
      have hv : val w ≠ 0 := by
        intro h
        rw [h, dig_zero] at hd
        have := congrArg List.length hd
        rw [List.length_take, Nat.min_eq_left hk] at this
        simp at this; omega
      have e1 : decide (val w = 0) = false := decide_eq_false hv
      have e2 : decide (val w ≠ 0) = true := decide_eq_true hv
      rw [e1, e2, ← hd]
      have hlen : (w.take k).length = k := by rw [List.length_take]; omega
      cases neg with
      | true =>
        simp (maxSteps := 4000000) (disch := omega) only [go_sem, ↓reduceIte, Nat.reduceAdd, Nat.reduceSub, Nat.reduceMul, Nat.reduceEqDiff, reduceCtorEq, Int.reduceAdd, Int.reduceLT, Int.reduceLE, Int.reduceToNat, Int.reduceNeg, Int.reduceSub, ← List.map_take, ← List.map_drop, wrap64, wrapu64, wrapu32, ← Int.natCast_add, ← Int.natCast_mul, cast_succ, wrapu32_nat, shr32, reps_wd, map_set_wd, List.length_set, zs_len, e, h0, fillAll, places, hH, appendEff, srcCells, cutBounds, hlen, List.take_take, Nat.min_self]
        refine W_drawn ?_
        simp (maxSteps := 4000000) (disch := omega) only [go_sem, ↓reduceIte, Nat.reduceAdd, Nat.reduceSub, Nat.reduceMul, Nat.reduceEqDiff, reduceCtorEq, Int.reduceAdd, Int.reduceLT, Int.reduceLE, Int.reduceToNat, Int.reduceNeg, Int.reduceSub, ← List.map_take, ← List.map_drop, wrap64, wrapu64, wrapu32, ← Int.natCast_add, ← Int.natCast_mul, cast_succ, wrapu32_nat, shr32, reps_wd, map_set_wd, List.length_set, zs_len, e, h0, fillAll, places, hH, appendEff, srcCells, cutBounds, hlen, List.take_take, Nat.min_self]
        rfl
      | false =>
        simp (maxSteps := 4000000) (disch := omega) only [go_sem, ↓reduceIte, Nat.reduceAdd, Nat.reduceSub, Nat.reduceMul, Nat.reduceEqDiff, reduceCtorEq, Int.reduceAdd, Int.reduceLT, Int.reduceLE, Int.reduceToNat, Int.reduceNeg, Int.reduceSub, ← List.map_take, ← List.map_drop, wrap64, wrapu64, wrapu32, ← Int.natCast_add, ← Int.natCast_mul, cast_succ, wrapu32_nat, shr32, reps_wd, map_set_wd, List.length_set, zs_len, e, h0, fillAll, places, hH, appendEff, srcCells, cutBounds, hlen, List.take_take, Nat.min_self]
        refine W_drawn ?_
        simp (maxSteps := 4000000) (disch := omega) only [go_sem, ↓reduceIte, Nat.reduceAdd, Nat.reduceSub, Nat.reduceMul, Nat.reduceEqDiff, reduceCtorEq, Int.reduceAdd, Int.reduceLT, Int.reduceLE, Int.reduceToNat, Int.reduceNeg, Int.reduceSub, ← List.map_take, ← List.map_drop, wrap64, wrapu64, wrapu32, ← Int.natCast_add, ← Int.natCast_mul, cast_succ, wrapu32_nat, shr32, reps_wd, map_set_wd, List.length_set, zs_len, e, h0, fillAll, places, hH, appendEff, srcCells, cutBounds, hlen, List.take_take, Nat.min_self]
        rfl
end Go.Proofs.Ytpfcijgcjghgeaa

/- Walks of the reference of chapter 1: order, sums, products. (Own work of this repo.) -/
namespace Go.Proofs.Ytpfcijgcjghgeaa
open Vm
set_option maxRecDepth 10000

theorem rorder_walk (ma : Bool) (a : List Nat) (mb : Bool) (b : List Nat) (ha : Norm a) (hb : Norm b) (la : a.length < 2 ^ 40) (lb : b.length < 2 ^ 40) :
    denP E 61 [.lst ma (a.map wd), .lst mb (b.map wd)] = some (.ret (.int .i64 (cmpN (val a) (val b)))) := by
  refine denP_eq E61 rfl (by simp [AV.pureL, AV.pure, pure_wd]) ?_
  by_cases h : a.length = b.length
  · simp (maxSteps := 4000000) (disch := omega) only [go_sem, ↓reduceIte, Nat.reduceAdd, Nat.reduceSub, Nat.reduceMul, Nat.reduceEqDiff, reduceCtorEq, Int.reduceAdd, Int.reduceLT, Int.reduceLE, Int.reduceToNat, Int.reduceNeg, Int.reduceSub, ← List.map_take, ← List.map_drop, wrap64, wrapu64, wrapu32, ← Int.natCast_add, ← Int.natCast_mul, cast_succ, wrapu32_nat, shr32, reps_wd, map_set_wd, List.length_set, zs_len, Try.f61]
    refine W_loopS (fun k sl h nx => (∃ g : Nat → AV, sl = [.lst ma (a.map wd), .lst mb (b.map wd), g 2, g 3, .int .i64 0, .int .i64 ((k : Int) - 1), g 6, g 7, g 8, g 9, g 10, g 11, g 12, g 13, g 14, g 15, g 16, g 17, g 18, g 19, g 20, g 21, g 22, g 23, g 24, g 25, g 26, g 27, g 28, g 29, g 30, g 31, g 32, g 33, g 34, g 35, g 36, g 37, g 38, g 39, g 40]) ∧ h = Heap.empty ∧ nx = 0 ∧
      k ≤ a.length ∧ ∀ j, k ≤ j → j < a.length → a.getD j 0 = b.getD j 0) a.length ⟨garb rfl, rfl, rfl, Nat.le_refl _, by omega⟩ ?_
    rintro k _ _ _ ⟨⟨g, rfl⟩, rfl, rfl, hk, hall⟩
    by_cases hk0 : k = 0
    · subst hk0
      have hv : val a = val b := by
        rw [val, val, ← h]; exact vp_congr _ (fun i hi => hall i (by omega) hi)
      have hc : cmpN (val a) (val b) = 0 := by unfold cmpN; rw [if_neg (by omega), if_neg (by omega)]
      simp (maxSteps := 4000000) (disch := omega) only [go_sem, ↓reduceIte, Nat.reduceAdd, Nat.reduceSub, Nat.reduceMul, Nat.reduceEqDiff, reduceCtorEq, Int.reduceAdd, Int.reduceLT, Int.reduceLE, Int.reduceToNat, Int.reduceNeg, Int.reduceSub, ← List.map_take, ← List.map_drop, wrap64, wrapu64, wrapu32, ← Int.natCast_add, ← Int.natCast_mul, cast_succ, wrapu32_nat, shr32, reps_wd, map_set_wd, List.length_set, zs_len, hc]
    · have e : (k : Int) - 1 = ((k - 1 : Nat) : Int) := by omega
      simp (maxSteps := 4000000) (disch := omega) only [go_sem, ↓reduceIte, Nat.reduceAdd, Nat.reduceSub, Nat.reduceMul, Nat.reduceEqDiff, reduceCtorEq, Int.reduceAdd, Int.reduceLT, Int.reduceLE, Int.reduceToNat, Int.reduceNeg, Int.reduceSub, ← List.map_take, ← List.map_drop, wrap64, wrapu64, wrapu32, ← Int.natCast_add, ← Int.natCast_mul, cast_succ, wrapu32_nat, shr32, reps_wd, map_set_wd, List.length_set, zs_len, e]
      refine W_drawn ?_
      by_cases h1 : a.getD (k - 1) 0 < b.getD (k - 1) 0
      · have hv : val a < val b := by
          rw [val, val, ← h]; exact vp_less ha.1 (by omega) (fun j h1 h2 => hall j (by omega) h2) h1
        have hc : cmpN (val a) (val b) = -1 := by unfold cmpN; rw [if_pos hv]
        simp (maxSteps := 4000000) (disch := omega) only [go_sem, ↓reduceIte, Nat.reduceAdd, Nat.reduceSub, Nat.reduceMul, Nat.reduceEqDiff, reduceCtorEq, Int.reduceAdd, Int.reduceLT, Int.reduceLE, Int.reduceToNat, Int.reduceNeg, Int.reduceSub, ← List.map_take, ← List.map_drop, wrap64, wrapu64, wrapu32, ← Int.natCast_add, ← Int.natCast_mul, cast_succ, wrapu32_nat, shr32, reps_wd, map_set_wd, List.length_set, zs_len, hc]
        rfl
      · simp (maxSteps := 4000000) (disch := omega) only [go_sem, ↓reduceIte, Nat.reduceAdd, Nat.reduceSub, Nat.reduceMul, Nat.reduceEqDiff, reduceCtorEq, Int.reduceAdd, Int.reduceLT, Int.reduceLE, Int.reduceToNat, Int.reduceNeg, Int.reduceSub, ← List.map_take, ← List.map_drop, wrap64, wrapu64, wrapu32, ← Int.natCast_add, ← Int.natCast_mul, cast_succ, wrapu32_nat, shr32, reps_wd, map_set_wd, List.length_set, zs_len]
        refine ⟨by rfl, ?_⟩
        refine W_drawn ?_
        by_cases h2 : b.getD (k - 1) 0 < a.getD (k - 1) 0
        · have hv : val b < val a := by
            rw [val, val, ← h]; exact vp_less hb.1 (by omega) (fun j h1 h2 => (hall j (by omega) h2).symm) h2
          have hc : cmpN (val a) (val b) = 1 := by unfold cmpN; rw [if_neg (by omega), if_pos hv]
          simp (maxSteps := 4000000) (disch := omega) only [go_sem, ↓reduceIte, Nat.reduceAdd, Nat.reduceSub, Nat.reduceMul, Nat.reduceEqDiff, reduceCtorEq, Int.reduceAdd, Int.reduceLT, Int.reduceLE, Int.reduceToNat, Int.reduceNeg, Int.reduceSub, ← List.map_take, ← List.map_drop, wrap64, wrapu64, wrapu32, ← Int.natCast_add, ← Int.natCast_mul, cast_succ, wrapu32_nat, shr32, reps_wd, map_set_wd, List.length_set, zs_len, hc]
          rfl
        · simp (maxSteps := 4000000) (disch := omega) only [go_sem, ↓reduceIte, Nat.reduceAdd, Nat.reduceSub, Nat.reduceMul, Nat.reduceEqDiff, reduceCtorEq, Int.reduceAdd, Int.reduceLT, Int.reduceLE, Int.reduceToNat, Int.reduceNeg, Int.reduceSub, ← List.map_take, ← List.map_drop, wrap64, wrapu64, wrapu32, ← Int.natCast_add, ← Int.natCast_mul, cast_succ, wrapu32_nat, shr32, reps_wd, map_set_wd, List.length_set, zs_len]
          refine ⟨by rfl, ?_⟩
          exact ⟨k - 1, by omega, garb rfl, by omega, fun j h3 h4 => by
            by_cases hj : j = k - 1
            · subst hj; omega
            · exact hall j (by omega) h4⟩
  · by_cases hl : a.length < b.length
    · have hv := val_less_len ha.1 hb hl
      have hc : cmpN (val a) (val b) = -1 := by unfold cmpN; rw [if_pos hv]
      simp (maxSteps := 4000000) (disch := omega) only [go_sem, ↓reduceIte, Nat.reduceAdd, Nat.reduceSub, Nat.reduceMul, Nat.reduceEqDiff, reduceCtorEq, Int.reduceAdd, Int.reduceLT, Int.reduceLE, Int.reduceToNat, Int.reduceNeg, Int.reduceSub, ← List.map_take, ← List.map_drop, wrap64, wrapu64, wrapu32, ← Int.natCast_add, ← Int.natCast_mul, cast_succ, wrapu32_nat, shr32, reps_wd, map_set_wd, List.length_set, zs_len, Try.f61, hc]
    · have hv := val_less_len hb.1 ha (by omega)
      have hc : cmpN (val a) (val b) = 1 := by unfold cmpN; rw [if_neg (by omega), if_pos hv]
      simp (maxSteps := 4000000) (disch := omega) only [go_sem, ↓reduceIte, Nat.reduceAdd, Nat.reduceSub, Nat.reduceMul, Nat.reduceEqDiff, reduceCtorEq, Int.reduceAdd, Int.reduceLT, Int.reduceLE, Int.reduceToNat, Int.reduceNeg, Int.reduceSub, ← List.map_take, ← List.map_drop, wrap64, wrapu64, wrapu32, ← Int.natCast_add, ← Int.natCast_mul, cast_succ, wrapu32_nat, shr32, reps_wd, map_set_wd, List.length_set, zs_len, Try.f61, hc]
theorem rorder_spec (ma : Bool) (x : Int) (mb : Bool) (y : Int) (hx : (dg x).length < 2 ^ 40) (hy : (dg y).length < 2 ^ 40) :
    denP E 61 [.lst ma ((dg x).map wd), .lst mb ((dg y).map wd)] = some (.ret (.int .i64 (cmpN x.natAbs y.natAbs))) := by
  rw [rorder_walk ma (dg x) mb (dg y) (dg_norm x) (dg_norm y) hx hy, val_dg, val_dg]
theorem rCmp_spec (ma : Bool) (x : Int) (mb : Bool) (y : Int) (hx : (dg x).length < 2 ^ 40) (hy : (dg y).length < 2 ^ 40) : denP E 27 [I ma x, I mb y] = some (.ret (.int .i64 (cmpI x y))) := by
  refine denP_eq E27 rfl (by simp [AV.pureL, AV.pure, pure_wd]) ?_
  have h2 := rorder_spec ma x mb y hx hy
  have h3 := rorder_spec mb y ma x hy hx
  cases ha : ng x with
  | true =>
    have ha' := ng_true.1 ha
    cases hb : ng y with
    | true =>
      have hb' := ng_true.1 hb
      have e : cmpN y.natAbs x.natAbs = cmpI x y := by
        unfold cmpN cmpI
        by_cases h1 : x < y
        · rw [if_pos h1, if_pos (by omega)]
        · rw [if_neg h1, if_neg (by omega)]
          by_cases h2 : y < x
          · rw [if_pos h2, if_pos (by omega)]
          · rw [if_neg h2, if_neg (by omega)]
      rw [e] at h3
      simp (maxSteps := 4000000) (disch := omega) only [go_sem, ↓reduceIte, Nat.reduceAdd, Nat.reduceSub, Nat.reduceMul, Nat.reduceEqDiff, reduceCtorEq, Int.reduceAdd, Int.reduceLT, Int.reduceLE, Int.reduceToNat, Int.reduceNeg, Int.reduceSub, ← List.map_take, ← List.map_drop, wrap64, wrapu64, wrapu32, Try.f27, ha, hb, h3]
    | false =>
      have hb' := ng_false.1 hb
      have e : cmpI x y = -1 := by unfold cmpI; rw [if_pos (by omega)]
      simp (maxSteps := 4000000) (disch := omega) only [go_sem, ↓reduceIte, Nat.reduceAdd, Nat.reduceSub, Nat.reduceMul, Nat.reduceEqDiff, reduceCtorEq, Int.reduceAdd, Int.reduceLT, Int.reduceLE, Int.reduceToNat, Int.reduceNeg, Int.reduceSub, ← List.map_take, ← List.map_drop, wrap64, wrapu64, wrapu32, Try.f27, ha, hb, e]
  | false =>
    have ha' := ng_false.1 ha
    cases hb : ng y with
    | true =>
      have hb' := ng_true.1 hb
      have e : cmpI x y = 1 := by unfold cmpI; rw [if_neg (by omega), if_pos (by omega)]
      simp (maxSteps := 4000000) (disch := omega) only [go_sem, ↓reduceIte, Nat.reduceAdd, Nat.reduceSub, Nat.reduceMul, Nat.reduceEqDiff, reduceCtorEq, Int.reduceAdd, Int.reduceLT, Int.reduceLE, Int.reduceToNat, Int.reduceNeg, Int.reduceSub, ← List.map_take, ← List.map_drop, wrap64, wrapu64, wrapu32, Try.f27, ha, hb, e]
    | false =>
      have hb' := ng_false.1 hb
      have e : cmpN x.natAbs y.natAbs = cmpI x y := by
        unfold cmpN cmpI
        by_cases h1 : x < y
        · rw [if_pos h1, if_pos (by omega)]
        · rw [if_neg h1, if_neg (by omega)]
          by_cases h2 : y < x
          · rw [if_pos h2, if_pos (by omega)]
          · rw [if_neg h2, if_neg (by omega)]
      rw [e] at h2
      simp (maxSteps := 4000000) (disch := omega) only [go_sem, ↓reduceIte, Nat.reduceAdd, Nat.reduceSub, Nat.reduceMul, Nat.reduceEqDiff, reduceCtorEq, Int.reduceAdd, Int.reduceLT, Int.reduceLE, Int.reduceToNat, Int.reduceNeg, Int.reduceSub, ← List.map_take, ← List.map_drop, wrap64, wrapu64, wrapu32, Try.f27, ha, hb, h2]
theorem rplus_walk (ma : Bool) (a : List Nat) (mb : Bool) (b : List Nat) (ha : InR a) (hb : InR b) (la : a.length < 2 ^ 40) (lb : b.length < 2 ^ 40) :
    ∃ o : List Nat, denP E 63 [.lst ma (a.map wd), .lst mb (b.map wd)] = some (.ret (.lst false (o.map wd))) ∧ InR o ∧ o.length = max a.length b.length + 1 ∧ val o = val a + val b := by
  refine denP_ex E63 rfl (by simp [AV.pureL, AV.pure, pure_wd]) ?_
  obtain ⟨n, hn⟩ : ∃ n : Nat, n = max a.length b.length + 1 := ⟨_, rfl⟩
  have e1 : (if (a.length : Int) < (b.length : Int) then (b.length : Int) else (a.length : Int)) + 1 = (n : Int) := by split <;> omega
  simp (maxSteps := 4000000) (disch := omega) only [go_sem, ↓reduceIte, Nat.reduceAdd, Nat.reduceSub, Nat.reduceMul, Nat.reduceEqDiff, reduceCtorEq, Int.reduceAdd, Int.reduceLT, Int.reduceLE, Int.reduceToNat, Int.reduceNeg, Int.reduceSub, ← List.map_take, ← List.map_drop, wrap64, wrapu64, wrapu32, ← Int.natCast_add, ← Int.natCast_mul, cast_succ, wrapu32_nat, shr32, reps_wd, map_set_wd, List.length_set, zs_len, Try.f63, e1]
  refine W_loopS (fun k sl H nx => ∃ (i c : Nat) (o : List Nat), (∃ g : Nat → AV, sl = [.lst ma (a.map wd), .lst mb (b.map wd), g 2, g 3, g 4, .int .i64 n, .ref 0 0 n, .int .u64 c, .int .i64 i, g 9, g 10, g 11, g 12, g 13, g 14, g 15, g 16, g 17, g 18, g 19, g 20, g 21, g 22, g 23, g 24, g 25, g 26, g 27, g 28, g 29, g 30, g 31, g 32, g 33, g 34, g 35, g 36, g 37, g 38, g 39, g 40, g 41, g 42, g 43, g 44, g 45, g 46, g 47, g 48, g 49, g 50, g 51, g 52]) ∧ nx = 1 ∧
    H 0 = some ⟨o.map wd, false, 1, false⟩ ∧ o.length = n ∧ InR o ∧ c ≤ 1 ∧ i + k = n ∧ Hd (vp o i + c * BB ^ i = vp a i + vp b i)) n ⟨0, 0, _, garb rfl, rfl, rfl, zs_len _, zs_inR _, by omega, by omega, ⟨by simp [vp]⟩⟩ ?_
  rintro k _ H _ ⟨i, c, o, ⟨g, rfl⟩, rfl, hH, ho, hr, hc, hi, hv⟩
  have hx := ha.get i
  have hy := hb.get i
  by_cases hk : k = 0
  · obtain rfl : i = n := by omega
    have hval : val o = val a + val b := by
      have h1 := hv.out
      have h2 := vp_ge a i (by omega)
      have h3 := vp_ge b i (by omega)
      rw [h2, h3, show vp o i = val o by rw [val, ho]] at h1
      have h4 := val_lt ha
      have h5 := val_lt hb
      have h6 := pow_max a.length b.length
      rcases Nat.eq_zero_or_pos c with h | h
      · subst h; omega
      · have : c = 1 := by omega
        subst this
        rw [hn] at h1
        omega
    clear hv
    simp (maxSteps := 4000000) (disch := omega) only [go_sem, ↓reduceIte, Nat.reduceAdd, Nat.reduceSub, Nat.reduceMul, Nat.reduceEqDiff, reduceCtorEq, Int.reduceAdd, Int.reduceLT, Int.reduceLE, Int.reduceToNat, Int.reduceNeg, Int.reduceSub, ← List.map_take, ← List.map_drop, wrap64, wrapu64, wrapu32, ← Int.natCast_add, ← Int.natCast_mul, cast_succ, wrapu32_nat, shr32, reps_wd, map_set_wd, List.length_set, zs_len, hH, ho, List.take_of_length_le]
    exact ⟨o, rfl, hr, by omega, hval⟩
  · by_cases hia : i < a.length
    · by_cases hib : i < b.length
      · simp (maxSteps := 4000000) (disch := omega) only [go_sem, ↓reduceIte, Nat.reduceAdd, Nat.reduceSub, Nat.reduceMul, Nat.reduceEqDiff, reduceCtorEq, Int.reduceAdd, Int.reduceLT, Int.reduceLE, Int.reduceToNat, Int.reduceNeg, Int.reduceSub, ← List.map_take, ← List.map_drop, wrap64, wrapu64, wrapu32, ← Int.natCast_add, ← Int.natCast_mul, cast_succ, wrapu32_nat, shr32, reps_wd, map_set_wd, List.length_set, zs_len, hH, ho, and_low]
        refine ⟨k - 1, by omega, i + 1, (c + a.getD i 0 + b.getD i 0) / 4294967296, o.set i ((c + a.getD i 0 + b.getD i 0) % 4294967296), garb rfl, rfl, by rw [List.length_set, ho], hr.set (Nat.mod_lt _ (by decide)), by omega, by omega, ⟨plus_step (by omega) hv.out rfl⟩⟩
      · have h0 := getD_ge (l := b) (i := i) (by omega)
        simp (maxSteps := 4000000) (disch := omega) only [go_sem, ↓reduceIte, Nat.reduceAdd, Nat.reduceSub, Nat.reduceMul, Nat.reduceEqDiff, reduceCtorEq, Int.reduceAdd, Int.reduceLT, Int.reduceLE, Int.reduceToNat, Int.reduceNeg, Int.reduceSub, ← List.map_take, ← List.map_drop, wrap64, wrapu64, wrapu32, ← Int.natCast_add, ← Int.natCast_mul, cast_succ, wrapu32_nat, shr32, reps_wd, map_set_wd, List.length_set, zs_len, hH, ho, and_low]
        refine ⟨k - 1, by omega, i + 1, (c + a.getD i 0) / 4294967296, o.set i ((c + a.getD i 0) % 4294967296), garb rfl, rfl, by rw [List.length_set, ho], hr.set (Nat.mod_lt _ (by decide)), by omega, by omega, ⟨plus_step (by omega) hv.out (by rw [h0]; rfl)⟩⟩
    · have h0 := getD_ge (l := a) (i := i) (by omega)
      by_cases hib : i < b.length
      · simp (maxSteps := 4000000) (disch := omega) only [go_sem, ↓reduceIte, Nat.reduceAdd, Nat.reduceSub, Nat.reduceMul, Nat.reduceEqDiff, reduceCtorEq, Int.reduceAdd, Int.reduceLT, Int.reduceLE, Int.reduceToNat, Int.reduceNeg, Int.reduceSub, ← List.map_take, ← List.map_drop, wrap64, wrapu64, wrapu32, ← Int.natCast_add, ← Int.natCast_mul, cast_succ, wrapu32_nat, shr32, reps_wd, map_set_wd, List.length_set, zs_len, hH, ho, and_low]
        refine ⟨k - 1, by omega, i + 1, (c + b.getD i 0) / 4294967296, o.set i ((c + b.getD i 0) % 4294967296), garb rfl, rfl, by rw [List.length_set, ho], hr.set (Nat.mod_lt _ (by decide)), by omega, by omega, ⟨plus_step (by omega) hv.out (by rw [h0]; rfl)⟩⟩
      · have h1 := getD_ge (l := b) (i := i) (by omega)
        simp (maxSteps := 4000000) (disch := omega) only [go_sem, ↓reduceIte, Nat.reduceAdd, Nat.reduceSub, Nat.reduceMul, Nat.reduceEqDiff, reduceCtorEq, Int.reduceAdd, Int.reduceLT, Int.reduceLE, Int.reduceToNat, Int.reduceNeg, Int.reduceSub, ← List.map_take, ← List.map_drop, wrap64, wrapu64, wrapu32, ← Int.natCast_add, ← Int.natCast_mul, cast_succ, wrapu32_nat, shr32, reps_wd, map_set_wd, List.length_set, zs_len, hH, ho, and_low]
        refine ⟨k - 1, by omega, i + 1, c / 4294967296, o.set i (c % 4294967296), garb rfl, rfl, by rw [List.length_set, ho], hr.set (Nat.mod_lt _ (by decide)), by omega, by omega, ⟨plus_step (by omega) hv.out (by rw [h0, h1]; rfl)⟩⟩
theorem minus_step2 {o a b : List Nat} {i c w c' : Nat} (ho : i < o.length) (hv : vp a i + c * BB ^ i = vp o i + vp b i) (hs : a.getD i 0 + c' * 4294967296 = w + b.getD i 0 + c) :
    vp a (i + 1) + c' * BB ^ (i + 1) = vp (o.set i w) (i + 1) + vp b (i + 1) := by
  rw [vp, vp, vp, vp_set o i _ i (Nat.le_refl _), lget_set_self ho, Nat.pow_succ]
  have h3 : (a.getD i 0 + c' * 4294967296) * BB ^ i = (w + b.getD i 0 + c) * BB ^ i := by rw [hs]
  rw [Nat.add_mul, Nat.add_mul, Nat.add_mul] at h3
  have h4 : c' * (BB ^ i * BB) = c' * 4294967296 * BB ^ i := by rw [Nat.mul_comm (BB ^ i) BB, ← Nat.mul_assoc]
  rw [h4]
  omega
theorem rminus_walk (ma : Bool) (a : List Nat) (mb : Bool) (b : List Nat) (ha : InR a) (hb : InR b) (la : a.length < 2 ^ 40) (lb : b.length ≤ a.length) (hle : val b ≤ val a) :
    ∃ o : List Nat, denP E 64 [.lst ma (a.map wd), .lst mb (b.map wd)] = some (.ret (.lst false (o.map wd))) ∧ InR o ∧ o.length = a.length ∧ val o = val a - val b := by
  refine denP_ex E64 rfl (by simp [AV.pureL, AV.pure, pure_wd]) ?_
  simp (maxSteps := 4000000) (disch := omega) only [go_sem, ↓reduceIte, Nat.reduceAdd, Nat.reduceSub, Nat.reduceMul, Nat.reduceEqDiff, reduceCtorEq, Int.reduceAdd, Int.reduceLT, Int.reduceLE, Int.reduceToNat, Int.reduceNeg, Int.reduceSub, ← List.map_take, ← List.map_drop, wrap64, wrapu64, wrapu32, ← Int.natCast_add, ← Int.natCast_mul, cast_succ, wrapu32_nat, shr32, reps_wd, map_set_wd, List.length_set, zs_len, Try.f64]
  refine W_loopS (fun k sl H nx => ∃ (i c : Nat) (o : List Nat), (∃ g : Nat → AV, sl = [.lst ma (a.map wd), .lst mb (b.map wd), g 2, g 3, g 4, .ref 0 0 a.length, .int .u64 c, .int .i64 i, g 8, g 9, g 10, g 11, g 12, g 13, g 14, g 15, g 16, g 17, g 18, g 19, g 20, g 21, g 22, g 23, g 24, g 25, g 26, g 27, g 28, g 29, g 30, g 31, g 32, g 33, g 34, g 35, g 36, g 37, g 38, g 39, g 40, g 41, g 42, g 43, g 44, g 45, g 46]) ∧ nx = 1 ∧
    H 0 = some ⟨o.map wd, false, 1, false⟩ ∧ o.length = a.length ∧ InR o ∧ c ≤ 1 ∧ i + k = a.length ∧ Hd (vp a i + c * BB ^ i = vp o i + vp b i)) a.length ⟨0, 0, _, garb rfl, rfl, rfl, zs_len _, zs_inR _, by omega, by omega, ⟨by simp [vp]⟩⟩ ?_
  rintro k _ H _ ⟨i, c, o, ⟨g, rfl⟩, rfl, hH, ho, hr, hc, hi, hv⟩
  have hx := ha.get i
  have hy := hb.get i
  by_cases hk : k = 0
  · obtain rfl : i = a.length := by omega
    have hval : val o = val a - val b := by
      have h1 := hv.out
      rw [vp_ge b _ lb, show vp a a.length = val a from rfl, ← ho, show vp o o.length = val o from rfl, ho] at h1
      have h2 := val_lt hr
      rw [ho] at h2
      rcases Nat.eq_zero_or_pos c with h | h
      · subst h; omega
      · have : c = 1 := by omega
        subst this; omega
    clear hv
    simp (maxSteps := 4000000) (disch := omega) only [go_sem, ↓reduceIte, Nat.reduceAdd, Nat.reduceSub, Nat.reduceMul, Nat.reduceEqDiff, reduceCtorEq, Int.reduceAdd, Int.reduceLT, Int.reduceLE, Int.reduceToNat, Int.reduceNeg, Int.reduceSub, ← List.map_take, ← List.map_drop, wrap64, wrapu64, wrapu32, ← Int.natCast_add, ← Int.natCast_mul, cast_succ, wrapu32_nat, shr32, reps_wd, map_set_wd, List.length_set, zs_len, hH, ho, List.take_of_length_le]
    exact ⟨o, rfl, hr, ho, hval⟩
  · by_cases hib : i < b.length
    · obtain ⟨X, hX⟩ : ∃ X : Nat, X = a.getD i 0 + 4294967296 - c - b.getD i 0 := ⟨_, rfl⟩
      have e1 : (((a.getD i 0 : Nat) : Int) + 4294967296 - (c : Int)) - ((b.getD i 0 : Nat) : Int) = (X : Int) := by omega
      have hX2 : X < 8589934592 := by omega
      have e2 : (1 : Int) - ((X / 4294967296 : Nat) : Int) = ((1 - X / 4294967296 : Nat) : Int) := by omega
      have hw : a.getD i 0 + (1 - X / 4294967296) * 4294967296 = X % 4294967296 + b.getD i 0 + c := by omega
      have hst := minus_step2 (o := o) (by omega) hv.out hw
      simp (maxSteps := 4000000) (disch := omega) only [go_sem, ↓reduceIte, Nat.reduceAdd, Nat.reduceSub, Nat.reduceMul, Nat.reduceEqDiff, reduceCtorEq, Int.reduceAdd, Int.reduceLT, Int.reduceLE, Int.reduceToNat, Int.reduceNeg, Int.reduceSub, ← List.map_take, ← List.map_drop, wrap64, wrapu64, wrapu32, ← Int.natCast_add, ← Int.natCast_mul, cast_succ, wrapu32_nat, shr32, reps_wd, map_set_wd, List.length_set, zs_len, hH, ho, e1, and_low, e2]
      refine ⟨k - 1, by omega, i + 1, 1 - X / 4294967296, o.set i (X % 4294967296), garb rfl, rfl, by rw [List.length_set, ho], hr.set (Nat.mod_lt _ (by decide)), by omega, by omega, ⟨hst⟩⟩
    · have h0 := getD_ge (l := b) (i := i) (by omega)
      obtain ⟨X, hX⟩ : ∃ X : Nat, X = a.getD i 0 + 4294967296 - c := ⟨_, rfl⟩
      have e1 : ((a.getD i 0 : Nat) : Int) + 4294967296 - (c : Int) = (X : Int) := by omega
      have hX2 : X < 8589934592 := by omega
      have e2 : (1 : Int) - ((X / 4294967296 : Nat) : Int) = ((1 - X / 4294967296 : Nat) : Int) := by omega
      have hw : a.getD i 0 + (1 - X / 4294967296) * 4294967296 = X % 4294967296 + b.getD i 0 + c := by omega
      have hst := minus_step2 (o := o) (by omega) hv.out hw
      simp (maxSteps := 4000000) (disch := omega) only [go_sem, ↓reduceIte, Nat.reduceAdd, Nat.reduceSub, Nat.reduceMul, Nat.reduceEqDiff, reduceCtorEq, Int.reduceAdd, Int.reduceLT, Int.reduceLE, Int.reduceToNat, Int.reduceNeg, Int.reduceSub, ← List.map_take, ← List.map_drop, wrap64, wrapu64, wrapu32, ← Int.natCast_add, ← Int.natCast_mul, cast_succ, wrapu32_nat, shr32, reps_wd, map_set_wd, List.length_set, zs_len, hH, ho, e1, and_low, e2]
      refine ⟨k - 1, by omega, i + 1, 1 - X / 4294967296, o.set i (X % 4294967296), garb rfl, rfl, by rw [List.length_set, ho], hr.set (Nat.mod_lt _ (by decide)), by omega, by omega, ⟨hst⟩⟩
end Go.Proofs.Ytpfcijgcjghgeaa

/- Walks of the reference of chapter 1: sums and products of numbers with signs. (Own work of this repo.) -/
namespace Go.Proofs.Ytpfcijgcjghgeaa
open Vm
set_option maxRecDepth 10000

theorem rMake_z {neg nl : Bool} {w : List Nat} {z : Int} (hw : InR w) (lw : w.length < 2 ^ 40) (h : sg neg (val w) = z) : denP E 62 [.bool neg, .lst nl (w.map wd)] = some (.ret (RM z)) := by
  have e : decide (val w = 0) = decide (z = 0) := by
    rw [← h, decide_eq_decide]; unfold sg; split <;> omega
  rw [rMake_spec neg nl w hw lw, h, e]
theorem rNeg_spec (m : Bool) (x : Int) (hx : (dg x).length < 2 ^ 38) : denP E 65 [I m x] = some (.ret (RM (-x))) := by
  refine denP_eq E65 rfl (by simp [AV.pureL, AV.pure, pure_wd]) ?_
  have h := rMake_z (neg := !(ng x)) (nl := m) (w := dg x) (z := -x) (dg_inR x) (by omega) (by rw [val_dg, sg_not])
  simp (maxSteps := 4000000) (disch := omega) only [go_sem, ↓reduceIte, Nat.reduceAdd, Nat.reduceSub, Nat.reduceMul, Nat.reduceEqDiff, reduceCtorEq, Int.reduceAdd, Int.reduceLT, Int.reduceLE, Int.reduceToNat, Int.reduceNeg, Int.reduceSub, ← List.map_take, ← List.map_drop, wrap64, wrapu64, wrapu32, Try.f65, h]
theorem rAbs_spec (m : Bool) (x : Int) (hx : (dg x).length < 2 ^ 38) : denP E 46 [I m x] = some (.ret (RM (x.natAbs : Int))) := by
  refine denP_eq E46 rfl (by simp [AV.pureL, AV.pure, pure_wd]) ?_
  have h := rMake_z (neg := false) (nl := m) (w := dg x) (z := (x.natAbs : Int)) (dg_inR x) (by omega) (by rw [val_dg]; rfl)
  simp (maxSteps := 4000000) (disch := omega) only [go_sem, ↓reduceIte, Nat.reduceAdd, Nat.reduceSub, Nat.reduceMul, Nat.reduceEqDiff, reduceCtorEq, Int.reduceAdd, Int.reduceLT, Int.reduceLE, Int.reduceToNat, Int.reduceNeg, Int.reduceSub, ← List.map_take, ← List.map_drop, wrap64, wrapu64, wrapu32, Try.f46, h]
theorem rAdd_spec (ma : Bool) (x : Int) (mb : Bool) (y : Int) (hx : (dg x).length < 2 ^ 38) (hy : (dg y).length < 2 ^ 38) : denP E 29 [I ma x, I mb y] = some (.ret (RM (x + y))) := by
  refine denP_eq E29 rfl (by simp [AV.pureL, AV.pure, pure_wd]) ?_
  have h2 := rorder_spec ma x mb y (by omega) (by omega)
  cases hs : ng x == ng y with
  | true =>
    obtain ⟨o, h1, hr, ho, hv⟩ := rplus_walk ma (dg x) mb (dg y) (dg_inR x) (dg_inR y) (by omega) (by omega)
    rw [val_dg, val_dg] at hv
    have h3 := rMake_z (neg := ng x) (nl := false) (w := o) (z := x + y) hr (by omega) (by
      rw [hv]; rw [beq_iff_eq] at hs; revert hs; unfold sg ng; by_cases h : x < 0 <;> by_cases h' : y < 0 <;> simp [h, h'] <;> omega)
    simp (maxSteps := 4000000) (disch := omega) only [go_sem, ↓reduceIte, Nat.reduceAdd, Nat.reduceSub, Nat.reduceMul, Nat.reduceEqDiff, reduceCtorEq, Int.reduceAdd, Int.reduceLT, Int.reduceLE, Int.reduceToNat, Int.reduceNeg, Int.reduceSub, ← List.map_take, ← List.map_drop, wrap64, wrapu64, wrapu32, Try.f29, hs]
    refine W_drawn ?_
    simp (maxSteps := 4000000) (disch := omega) only [go_sem, ↓reduceIte, Nat.reduceAdd, Nat.reduceSub, Nat.reduceMul, Nat.reduceEqDiff, reduceCtorEq, Int.reduceAdd, Int.reduceLT, Int.reduceLE, Int.reduceToNat, Int.reduceNeg, Int.reduceSub, ← List.map_take, ← List.map_drop, wrap64, wrapu64, wrapu32, h1, h3]
    rfl
  | false =>
    by_cases hc : x.natAbs < y.natAbs
    · obtain ⟨o, h1, hr, ho, hv⟩ := rminus_walk mb (dg y) ma (dg x) (dg_inR y) (dg_inR x) (by omega) (dig_mono (by omega)) (by rw [val_dg, val_dg]; omega)
      rw [val_dg, val_dg] at hv
      have h3 := rMake_z (neg := ng y) (nl := false) (w := o) (z := x + y) hr (by omega) (by
        rw [hv]; rw [beq_eq_false_iff_ne] at hs; revert hs; unfold sg ng; by_cases h : x < 0 <;> by_cases h' : y < 0 <;> simp [h, h'] <;> omega)
      have hc' : cmpN x.natAbs y.natAbs = -1 := if_pos hc
      simp (maxSteps := 4000000) (disch := omega) only [go_sem, ↓reduceIte, Nat.reduceAdd, Nat.reduceSub, Nat.reduceMul, Nat.reduceEqDiff, reduceCtorEq, Int.reduceAdd, Int.reduceLT, Int.reduceLE, Int.reduceToNat, Int.reduceNeg, Int.reduceSub, ← List.map_take, ← List.map_drop, wrap64, wrapu64, wrapu32, Try.f29, hs, h2, hc']
      refine W_drawn ?_
      simp (maxSteps := 4000000) (disch := omega) only [go_sem, ↓reduceIte, Nat.reduceAdd, Nat.reduceSub, Nat.reduceMul, Nat.reduceEqDiff, reduceCtorEq, Int.reduceAdd, Int.reduceLT, Int.reduceLE, Int.reduceToNat, Int.reduceNeg, Int.reduceSub, ← List.map_take, ← List.map_drop, wrap64, wrapu64, wrapu32, h1, h3]
      rfl
    · obtain ⟨o, h1, hr, ho, hv⟩ := rminus_walk ma (dg x) mb (dg y) (dg_inR x) (dg_inR y) (by omega) (dig_mono (by omega)) (by rw [val_dg, val_dg]; omega)
      rw [val_dg, val_dg] at hv
      have h3 := rMake_z (neg := ng x) (nl := false) (w := o) (z := x + y) hr (by omega) (by
        rw [hv]; rw [beq_eq_false_iff_ne] at hs; revert hs; unfold sg ng; by_cases h : x < 0 <;> by_cases h' : y < 0 <;> simp [h, h'] <;> omega)
      have hc' : 0 ≤ cmpN x.natAbs y.natAbs := by unfold cmpN; rw [if_neg hc]; split <;> decide
      simp (maxSteps := 4000000) (disch := omega) only [go_sem, ↓reduceIte, Nat.reduceAdd, Nat.reduceSub, Nat.reduceMul, Nat.reduceEqDiff, reduceCtorEq, Int.reduceAdd, Int.reduceLT, Int.reduceLE, Int.reduceToNat, Int.reduceNeg, Int.reduceSub, ← List.map_take, ← List.map_drop, wrap64, wrapu64, wrapu32, Try.f29, hs, h2, hc']
      refine W_drawn ?_
      simp (maxSteps := 4000000) (disch := omega) only [go_sem, ↓reduceIte, Nat.reduceAdd, Nat.reduceSub, Nat.reduceMul, Nat.reduceEqDiff, reduceCtorEq, Int.reduceAdd, Int.reduceLT, Int.reduceLE, Int.reduceToNat, Int.reduceNeg, Int.reduceSub, ← List.map_take, ← List.map_drop, wrap64, wrapu64, wrapu32, h1, h3]
      rfl
theorem rSub_spec (ma : Bool) (x : Int) (mb : Bool) (y : Int) (hx : (dg x).length < 2 ^ 38) (hy : (dg y).length < 2 ^ 38) : denP E 30 [I ma x, I mb y] = some (.ret (RM (x - y))) := by
  refine denP_eq E30 rfl (by simp [AV.pureL, AV.pure, pure_wd]) ?_
  have h1 := rNeg_spec mb y hy
  have h2 := rAdd_spec ma x (decide (-y = 0)) (-y) hx (by rw [dg_neg]; exact hy)
  rw [← Int.sub_eq_add_neg] at h2
  simp (maxSteps := 4000000) (disch := omega) only [go_sem, ↓reduceIte, Nat.reduceAdd, Nat.reduceSub, Nat.reduceMul, Nat.reduceEqDiff, reduceCtorEq, Int.reduceAdd, Int.reduceLT, Int.reduceLE, Int.reduceToNat, Int.reduceNeg, Int.reduceSub, ← List.map_take, ← List.map_drop, wrap64, wrapu64, wrapu32, Try.f30]
  refine W_drawn ?_
  simp (maxSteps := 4000000) (disch := omega) only [go_sem, ↓reduceIte, Nat.reduceAdd, Nat.reduceSub, Nat.reduceMul, Nat.reduceEqDiff, reduceCtorEq, Int.reduceAdd, Int.reduceLT, Int.reduceLE, Int.reduceToNat, Int.reduceNeg, Int.reduceSub, ← List.map_take, ← List.map_drop, wrap64, wrapu64, wrapu32, h1, h2]
  rfl
theorem rMul_spec (ma : Bool) (x : Int) (mb : Bool) (y : Int) (hx : (dg x).length < 2 ^ 38) (hy : (dg y).length < 2 ^ 38) : denP E 31 [I ma x, I mb y] = some (.ret (RM (x * y))) := by
  have key : ∀ (na nb : Bool) (a b : List Nat), InR a → InR b → a.length < 2 ^ 38 → b.length < 2 ^ 38 → denP E 31 [iv na ma a, iv nb mb b] = some (.ret (RM (sg (na != nb) (val a * val b)))) := by
    intro na nb a b ha hb la lb
    refine denP_eq E31 rfl (by simp [AV.pureL, AV.pure, pure_wd]) ?_
    simp (maxSteps := 4000000) (disch := omega) only [go_sem, ↓reduceIte, Nat.reduceAdd, Nat.reduceSub, Nat.reduceMul, Nat.reduceEqDiff, reduceCtorEq, Int.reduceAdd, Int.reduceLT, Int.reduceLE, Int.reduceToNat, Int.reduceNeg, Int.reduceSub, ← List.map_take, ← List.map_drop, wrap64, wrapu64, wrapu32, ← Int.natCast_add, ← Int.natCast_mul, cast_succ, wrapu32_nat, shr32, reps_wd, map_set_wd, List.length_set, zs_len, Try.f31]
    refine W_loopS (fun k sl H nx => ∃ (i : Nat) (o : List Nat), (∃ g : Nat → AV, sl = [g 0, g 1, .ptr 0 0, .ptr 1 0, .ptr 2 0, .ref 3 0 (a.length + b.length), .int .i64 i, g 7, g 8, g 9, g 10, g 11, g 12, g 13, g 14, g 15, g 16, g 17, g 18, g 19, g 20, g 21, g 22, g 23, g 24, g 25, g 26, g 27, g 28, g 29, g 30, g 31, g 32, g 33, g 34, g 35, g 36, g 37, g 38, g 39, g 40, g 41, g 42, g 43, g 44, g 45, g 46, g 47, g 48, g 49, g 50, g 51, g 52, g 53, g 54, g 55, g 56, g 57, g 58, g 59, g 60, g 61, g 62, g 63, g 64, g 65, g 66, g 67, g 68, g 69, g 70, g 71, g 72, g 73, g 74, g 75, g 76, g 77, g 78, g 79]) ∧ nx = 4 ∧
      H 0 = some ⟨[.bool na, .lst ma (a.map wd)], true, 2, false⟩ ∧ H 1 = some ⟨[.bool nb, .lst mb (b.map wd)], true, 2, false⟩ ∧ H 2 = some ⟨[.bool false, .lst true []], true, 2, false⟩ ∧
      H 3 = some ⟨o.map wd, false, 1, false⟩ ∧ o.length = a.length + b.length ∧ InR o ∧ i + k = a.length ∧ Hd (vp o (i + b.length) = vp a i * val b) ∧ ∀ t, i + b.length ≤ t → o.getD t 0 = 0) a.length
      ⟨0, _, garb rfl, rfl, rfl, rfl, rfl, rfl, zs_len _, zs_inR _, by omega, ⟨by simp [vp, zs_vp]⟩, fun t _ => zs_get _ t⟩ ?_
    rintro k _ H _ ⟨i, o, ⟨g, rfl⟩, rfl, hH0, hH1, hH2, hH, ho, hr, hi, hv, hz⟩
    by_cases hk : k = 0
    · obtain rfl : i = a.length := by omega
      have hval : val o = val a * val b := by rw [val, ho]; exact hv.out
      have h3 := rMake_z (neg := na != nb) (nl := false) (w := o) (z := sg (na != nb) (val a * val b)) hr (by omega) (by rw [hval])
      have hb2 : (!(na == nb)) = (na != nb) := rfl
      clear hv
      simp (maxSteps := 4000000) (disch := omega) only [go_sem, ↓reduceIte, Nat.reduceAdd, Nat.reduceSub, Nat.reduceMul, Nat.reduceEqDiff, reduceCtorEq, Int.reduceAdd, Int.reduceLT, Int.reduceLE, Int.reduceToNat, Int.reduceNeg, Int.reduceSub, ← List.map_take, ← List.map_drop, wrap64, wrapu64, wrapu32, ← Int.natCast_add, ← Int.natCast_mul, cast_succ, wrapu32_nat, shr32, reps_wd, map_set_wd, List.length_set, zs_len, hH, hH0, hH1, hH2, ho, List.take_of_length_le, hb2, h3]
    · have hx := ha.get i
      simp (maxSteps := 4000000) (disch := omega) only [go_sem, ↓reduceIte, Nat.reduceAdd, Nat.reduceSub, Nat.reduceMul, Nat.reduceEqDiff, reduceCtorEq, Int.reduceAdd, Int.reduceLT, Int.reduceLE, Int.reduceToNat, Int.reduceNeg, Int.reduceSub, ← List.map_take, ← List.map_drop, wrap64, wrapu64, wrapu32, ← Int.natCast_add, ← Int.natCast_mul, cast_succ, wrapu32_nat, shr32, reps_wd, map_set_wd, List.length_set, zs_len, hH, hH0, hH1, hH2, ho]
      refine W_loopS (fun k sl H nx => ∃ (j c : Nat) (p : List Nat), (∃ g : Nat → AV, sl = [g 0, g 1, .ptr 0 0, .ptr 1 0, .ptr 2 0, .ref 3 0 (a.length + b.length), .int .i64 i, .int .u64 c, .int .i64 j, g 9, g 10, g 11, g 12, g 13, g 14, g 15, g 16, g 17, g 18, g 19, g 20, g 21, g 22, g 23, g 24, g 25, g 26, g 27, g 28, g 29, g 30, g 31, g 32, g 33, g 34, g 35, g 36, g 37, g 38, g 39, g 40, g 41, g 42, g 43, g 44, g 45, g 46, g 47, g 48, g 49, g 50, g 51, g 52, g 53, g 54, g 55, g 56, g 57, g 58, g 59, g 60, g 61, g 62, g 63, g 64, g 65, g 66, g 67, g 68, g 69, g 70, g 71, g 72, g 73, g 74, g 75, g 76, g 77, g 78, g 79]) ∧ nx = 4 ∧
        H 0 = some ⟨[.bool na, .lst ma (a.map wd)], true, 2, false⟩ ∧ H 1 = some ⟨[.bool nb, .lst mb (b.map wd)], true, 2, false⟩ ∧ H 2 = some ⟨[.bool false, .lst true []], true, 2, false⟩ ∧
        H 3 = some ⟨p.map wd, false, 1, false⟩ ∧ p.length = a.length + b.length ∧ InR p ∧ c < 4294967296 ∧ j + k = b.length ∧ Hd (vp p (i + j) + c * BB ^ (i + j) = vp o (i + j) + a.getD i 0 * vp b j * BB ^ i) ∧ ∀ t, i + j ≤ t → p.getD t 0 = o.getD t 0) b.length
        ⟨0, 0, _, garb rfl, rfl, hH0, hH1, hH2, hH, ho, hr, by omega, by omega, ⟨by simp [vp]⟩, fun t _ => rfl⟩ ?_
      rintro k' _ H' _ ⟨j, c, p, ⟨g, rfl⟩, rfl, hH0', hH1', hH2', hH', hp, hr', hc, hj, hv', hz'⟩
      by_cases hk' : k' = 0
      · obtain rfl : j = b.length := by omega
        simp (maxSteps := 4000000) (disch := omega) only [go_sem, ↓reduceIte, Nat.reduceAdd, Nat.reduceSub, Nat.reduceMul, Nat.reduceEqDiff, reduceCtorEq, Int.reduceAdd, Int.reduceLT, Int.reduceLE, Int.reduceToNat, Int.reduceNeg, Int.reduceSub, ← List.map_take, ← List.map_drop, wrap64, wrapu64, wrapu32, ← Int.natCast_add, ← Int.natCast_mul, cast_succ, wrapu32_nat, shr32, reps_wd, map_set_wd, List.length_set, zs_len, hH', hH0', hH1', hH2', hp]
        refine ⟨k - 1, by omega, i + 1, p.set (i + b.length) c, garb rfl, rfl, by rw [List.length_set, hp], hr'.set hc, by omega, ⟨?_⟩, fun t ht => ?_⟩
        · rw [show i + 1 + b.length = i + b.length + 1 by omega, vp, vp_set p _ _ _ (Nat.le_refl _), lget_set_self (by omega), hv'.out, hv.out, vp, Nat.add_mul]
          rw [show vp b b.length = val b from rfl]
          congr 1
          rw [Nat.mul_assoc, Nat.mul_assoc, Nat.mul_comm (val b)]
        · rw [lget_set_ne (by omega), hz' t (by omega), hz t (by omega)]
      · have hy := hb.get j
        have hw := hr.get (i + j)
        have hm := mul_word hx hy
        have e := hz' (i + j) (Nat.le_refl _)
        simp (maxSteps := 4000000) (disch := omega) only [go_sem, ↓reduceIte, Nat.reduceAdd, Nat.reduceSub, Nat.reduceMul, Nat.reduceEqDiff, reduceCtorEq, Int.reduceAdd, Int.reduceLT, Int.reduceLE, Int.reduceToNat, Int.reduceNeg, Int.reduceSub, ← List.map_take, ← List.map_drop, wrap64, wrapu64, wrapu32, ← Int.natCast_add, ← Int.natCast_mul, cast_succ, wrapu32_nat, shr32, reps_wd, map_set_wd, List.length_set, zs_len, hH', hH0', hH1', hH2', hp, e]
        refine W_drawn ?_
        simp (maxSteps := 4000000) (disch := omega) only [go_sem, ↓reduceIte, Nat.reduceAdd, Nat.reduceSub, Nat.reduceMul, Nat.reduceEqDiff, reduceCtorEq, Int.reduceAdd, Int.reduceLT, Int.reduceLE, Int.reduceToNat, Int.reduceNeg, Int.reduceSub, ← List.map_take, ← List.map_drop, wrap64, wrapu64, wrapu32, ← Int.natCast_add, ← Int.natCast_mul, cast_succ, wrapu32_nat, shr32, reps_wd, map_set_wd, List.length_set, zs_len, hH', hH0', hH1', hH2', hp, e]
        refine ⟨by rfl, ?_⟩
        have hs : (c + (a.getD i 0 * b.getD j 0 + o.getD (i + j) 0)) / 4294967296 < 4294967296 := by omega
        simp (maxSteps := 4000000) (disch := omega) only [go_sem, ↓reduceIte, Nat.reduceAdd, Nat.reduceSub, Nat.reduceMul, Nat.reduceEqDiff, reduceCtorEq, Int.reduceAdd, Int.reduceLT, Int.reduceLE, Int.reduceToNat, Int.reduceNeg, Int.reduceSub, ← List.map_take, ← List.map_drop, wrap64, wrapu64, wrapu32, ← Int.natCast_add, ← Int.natCast_mul, cast_succ, wrapu32_nat, shr32, reps_wd, map_set_wd, List.length_set, zs_len, hH', hH0', hH1', hH2', hp, e, and_low]
        refine ⟨k' - 1, by omega, j + 1, (c + (a.getD i 0 * b.getD j 0 + o.getD (i + j) 0)) / 4294967296, p.set (i + j) ((c + (a.getD i 0 * b.getD j 0 + o.getD (i + j) 0)) % 4294967296), garb rfl, rfl, by rw [List.length_set, hp], hr'.set (Nat.mod_lt _ (by decide)), hs, by omega, ⟨times_step (by omega) hv'.out rfl⟩, fun t ht => ?_⟩
        rw [lget_set_ne (by omega)]
        exact hz' t (by omega)
  have := key (ng x) (ng y) (dg x) (dg y) (dg_inR x) (dg_inR y) hx hy
  rwa [val_dg, val_dg, show sg (ng x != ng y) (x.natAbs * y.natAbs) = x * y from sg_mul x y] at this
end Go.Proofs.Ytpfcijgcjghgeaa

/- The machine over pure values and the rows: what the arguments of a row are as values of the machine. (Own work of this repo.) -/
namespace Vm
open Go Go.RowKit

def FitS (E : Env) (F : TypeId → List AV → Prop) : List (Nat × TypeId) → List AV → Prop
  | [], avs => avs = []
  | (_, u) :: fs, avs => ∃ x y, avs = x ++ y ∧ F u x ∧ FitS E F fs y
/-- A row's element. -/
def elm (ti : TI) (cs : List AV) : AV := if ti.agg then .agg cs else cs.headD undef
def FitD (E : Env) (F : TypeId → List AV → Prop) (avs : List AV) : TD → Prop
  | .int k => ∃ i, avs = [.int k i] ∧ (Lit.int k i).wf = true
  | .bool => ∃ b, avs = [.bool b]
  | .str => ∃ s, avs = [.str s] ∧ s.size ≤ maxLen
  | .slice e => match E.T e with
    | none => False
    | some te => avs = [.lst true []] ∨ ∃ xs, avs = [.lst false xs] ∧ xs.length ≤ maxLen ∧ ∀ x ∈ xs, ∃ cs, x = elm te cs ∧ cs.length = te.size ∧ F e cs
  | .struct fs => FitS E F fs avs
  | .array n e => ∃ xs : List (List AV), xs.length = n ∧ avs = xs.flatten ∧ ∀ x ∈ xs, F e x
  | _ => False
/-- What cells of a type are. -/
def Fit (E : Env) : Nat → TypeId → List AV → Prop
  | 0 => fun _ _ => False
  | m + 1 => fun t avs => match E.T t with
    | none => False
    | some ti => avs.length = ti.size ∧ FitD E (Fit E m) avs ti.desc
def FitArgs (E : Env) : List TypeId → List AV → Prop
  | [], avs => avs = []
  | t :: ts, avs => ∃ cs x ys, avs = x :: ys ∧ (match E.T t with | none => False | some ti => x = elm ti cs ∧ Fit E 6 t cs) ∧ FitArgs E ts ys

/-- Do the fields lie one behind the other? -/
def tiles (E : Env) (S : TypeId → Bool) : List (Nat × TypeId) → Nat → Nat → Bool
  | [], o, size => o == size
  | (o', u) :: fs, o, size => o' == o && S u && (match E.T u with | some tu => tiles E S fs (o + tu.size) size | none => false)
def Sup (E : Env) : Nat → TypeId → Bool
  | 0, _ => false
  | m + 1, t => match E.T t with
    | none => false
    | some ti => (match ti.desc with
      | .int _ | .bool | .str => ti.size == 1 && !ti.agg
      | .slice e => ti.size == 1 && !ti.agg && Sup E m e && (match E.T e with | some te => te.size != 0 | none => false)
      | .struct fs => ti.agg && tiles E (Sup E m) fs 0 ti.size
      | .array n e => ti.agg && Sup E m e && (match E.T e with | some te => ti.size == n * te.size | none => false)
      | _ => false)

section
variable {P : Program} {E : Env} {H : Type} {enc : TypeId × Value → H} {w : World} {base : Nat} {sp : Nat → Bool} {held : Bool}

theorem cells_of (hE : EOk P E) {t : TypeId} {ti : TI} (h : E.T t = some ti) : P.cellsOf t = ti.size := by
  obtain ⟨i, d, z, F⟩ := tiOf_facts (hE.ty _ _ h)
  rw [Program.cellsOf, F.info]
  exact F.size

/-- The cells stand for values of the machine, one for one. -/
def Cel (w : World) (cs : List Value) (avs : List AV) : Prop := avs.length = cs.length ∧ ∀ (j : Nat) (v : Value) (a : AV), cs[j]? = some v → avs[j]? = some a → Rep (C0 w) v a ∧ v.oneCell' = true ∧ a.scal = true ∧ a.pure = true
theorem Cel.nil : Cel w [] [] := ⟨rfl, fun j v a h => by simp at h⟩
theorem Cel.one {v : Value} {a : AV} (h : Rep (C0 w) v a) (h1 : v.oneCell' = true) (h2 : a.scal = true) (h3 : a.pure = true) : Cel w [v] [a] := by
  refine ⟨rfl, fun j v' a' hv ha => ?_⟩
  match j with
  | 0 => simp at hv ha; subst hv; subst ha; exact ⟨h, h1, h2, h3⟩
  | j + 1 => simp at hv
theorem Cel.app {cs ds : List Value} {avs bs : List AV} (h : Cel w cs avs) (g : Cel w ds bs) : Cel w (cs ++ ds) (avs ++ bs) := by
  refine ⟨by rw [List.length_append, List.length_append, h.1, g.1], fun j v a hv ha => ?_⟩
  by_cases hj : j < cs.length
  · rw [List.getElem?_append_left hj] at hv
    rw [List.getElem?_append_left (by rw [h.1]; exact hj)] at ha
    exact h.2 j v a hv ha
  · rw [List.getElem?_append_right (by omega)] at hv
    rw [List.getElem?_append_right (by rw [h.1]; omega), h.1] at ha
    exact g.2 _ v a hv ha
theorem pureL_ofm {avs : List AV} : (∀ a ∈ avs, a.pure = true) → AV.pureL avs = true := by
  induction avs with
  | nil => intro _; rfl
  | cons x xs ih => intro h; simp only [AV.pureL, Bool.and_eq_true]; exact ⟨h x (by simp), ih fun a ha => h a (by simp [ha])⟩
theorem Cel.pureL {cs : List Value} {avs : List AV} (h : Cel w cs avs) : AV.pureL avs = true := pureL_ofm fun a ha => by
  obtain ⟨j, hj, rfl⟩ := List.getElem_of_mem ha
  have hj' : j < cs.length := by rw [← h.1]; exact hj
  exact (h.2 j _ _ (List.getElem?_eq_getElem hj') (List.getElem?_eq_getElem hj)).2.2.2

theorem add_at {a : Addr} {x y : Nat} {v : Value} (h : w.cell? ((a.add x).add y) = some v) : w.cell? ⟨a.block, a.off + (x + y), none⟩ = some v ∧ a.block < w.heap.size ∧ (x + y = 0 → a.spot = none) := by
  have hb : ((a.add x).add y).block = a.block := by unfold Addr.add; split <;> split <;> rfl
  have h1 := World.block_lt_of_cell? w _ h
  rw [hb] at h1
  by_cases h0 : x + y = 0
  · obtain rfl : x = 0 := by omega
    obtain rfl : y = 0 := by omega
    have e : (a.add 0).add 0 = a := by simp [Addr.add]
    rw [e] at h
    have hs : a.spot = none := by
      cases hsp : a.spot with
      | none => rfl
      | some k =>
        simp only [World.cell?, hsp] at h
        split at h <;> simp at h
    refine ⟨?_, h1, fun _ => hs⟩
    have e2 : a = ⟨a.block, a.off + (0 + 0), none⟩ := by cases a; simp_all
    rw [e2] at h; exact h
  · refine ⟨?_, h1, fun h => absurd h h0⟩
    have e : (a.add x).add y = ⟨a.block, a.off + (x + y), none⟩ := by
      unfold Addr.add
      by_cases hx : x = 0
      · subst hx; simp only [if_true]; rw [if_neg (by omega)]; simp
      · rw [if_neg hx]
        by_cases hy : y = 0
        · subst hy; simp
        · rw [if_neg hy]; simp [Nat.add_assoc]
    rw [e] at h; exact h

theorem elm_cells {ti : TI} {cs : List AV} (hl : cs.length = ti.size) (h : ti.agg = false → ti.size = 1) (hs : ∀ a ∈ cs, a.scal = true) : (elm ti cs).cells = cs := by
  unfold elm
  cases ha : ti.agg with
  | true => rfl
  | false =>
    have := h ha
    match cs, hl with
    | [], hl => simp at hl; omega
    | [c], _ =>
      have := hs c (by simp)
      cases c <;> simp_all [AV.scal, AV.cells]
    | _ :: _ :: _, hl => simp at hl; omega
theorem sup_one {m : Nat} {t : TypeId} {ti : TI} (h : Sup E m t = true) (ht : E.T t = some ti) (ha : ti.agg = false) : ti.size = 1 := by
  cases m with
  | zero => simp [Sup] at h
  | succ m =>
    simp only [Sup, ht] at h
    split at h <;> simp_all

theorem open_cells (hE : EOk P E) : ∀ (m : Nat) (t : TypeId), Sup E m t = true → ∀ (n : Nat) (cs : List Value) (x : DataW H × List MemPlace), DataW.trod enc P w base sp held n t cs = some x → ∃ avs, Cel w cs avs ∧ Fit E m t avs
  | 0, t, hs, _, _, _, _ => by simp [Sup] at hs
  | m + 1, t, hs, n, cs, x, h => by
    have ih := open_cells hE m
    simp only [Sup] at hs
    split at hs
    · cases hs
    · rename_i ti ht
      obtain ⟨i, d, z, F⟩ := tiOf_facts (hE.ty _ _ ht)
      have hsz := cells_of hE ht
      have had := F.ad
      have hund := F.und
      simp only [Fit, ht]
      split at hs
      · -- int
        rename_i k hd
        rw [hd] at had ⊢
        simp only [Bool.and_eq_true, beq_iff_eq] at hs
        obtain rfl : d = .int k := by cases d <;> simp_all [dOf]
        obtain ⟨q, rfl, _, hw⟩ := DataW.trod_int hund h
        exact ⟨[.int k q], Cel.one (.int _ _) rfl rfl rfl, by simp [hs.1], q, rfl, hw⟩
      · rename_i hd
        rw [hd] at had ⊢
        simp only [Bool.and_eq_true, beq_iff_eq] at hs
        obtain rfl : d = .bool := by cases d <;> simp_all [dOf]
        obtain ⟨q, rfl, _⟩ := DataW.trod_bool hund h
        exact ⟨[.bool q], Cel.one (.bool _) rfl rfl rfl, by simp [hs.1], q, rfl⟩
      · rename_i hd
        rw [hd] at had ⊢
        simp only [Bool.and_eq_true, beq_iff_eq] at hs
        obtain rfl : d = .string := by cases d <;> simp_all [dOf]
        obtain ⟨q, rfl, _, hw⟩ := DataW.trod_string hund h
        exact ⟨[.str q], Cel.one (.str _) rfl rfl rfl, by simp [hs.1], q, rfl, hw⟩
      · -- slice
        rename_i e hd
        rw [hd] at had ⊢
        simp only [Bool.and_eq_true, beq_iff_eq] at hs
        obtain ⟨⟨⟨hs1, _⟩, hse⟩, hsz0⟩ := hs
        obtain rfl : d = .slice e := by cases d <;> simp_all [dOf]
        split at hsz0
        · rename_i te hte
          have hesz := cells_of hE hte
          have hpos : te.size ≠ 0 := by simpa using hsz0
          simp only [FitD, hte]
          rcases Go.Deep.open_slice hund h with ⟨rfl, _⟩ | ⟨a, len, cap, mm, n', D, Pl, rfl, _, hl, hm, hmm, _, hx⟩
          · exact ⟨[.lst true []], Cel.one .lnil rfl rfl rfl, by simp [hs1], .inl rfl⟩
          · have hmm' : len ≤ mm := by rw [hmm]; split <;> omega
            have each : ∀ i, i < len → ∃ (cs' : List Value) (avs : List AV), w.cells? base (a.add (i * P.cellsOf e)) (P.cellsOf e) = some cs' ∧ Cel w cs' avs ∧ Fit E m e avs := fun i hi => by
              obtain ⟨cs', h1, h2⟩ := hx i (by omega)
              obtain ⟨avs, h3, h4⟩ := ih e hse n' cs' _ h2
              exact ⟨cs', avs, h1, h3, h4⟩
            let U : Nat → List Value := fun i => if hi : i < len then (each i hi).choose else []
            let A : Nat → List AV := fun i => if hi : i < len then (each i hi).choose_spec.choose else []
            have hUA : ∀ i, i < len → w.cells? base (a.add (i * P.cellsOf e)) (P.cellsOf e) = some (U i) ∧ Cel w (U i) (A i) ∧ Fit E m e (A i) := fun i hi => by
              simp only [U, A, dif_pos hi]
              exact (each i hi).choose_spec.choose_spec
            have hUl : ∀ i, i < len → (U i).length = te.size := fun i hi => by rw [(World.cells?_some (hUA i hi).1).2.1, hesz]
            have hAl : ∀ i, i < len → (A i).length = te.size := fun i hi => by rw [(hUA i hi).2.1.1, hUl i hi]
            have hsc : ∀ i, i < len → ∀ c ∈ A i, c.scal = true ∧ c.pure = true := fun i hi c hc => by
              obtain ⟨j, hj, rfl⟩ := List.getElem_of_mem hc
              have hj' : j < (U i).length := by rw [← (hUA i hi).2.1.1]; exact hj
              exact ((hUA i hi).2.1.2 j _ _ (List.getElem?_eq_getElem hj') (List.getElem?_eq_getElem hj)).2.2
            have hec : ∀ i, i < len → (elm te (A i)).cells = A i := fun i hi => elm_cells (hAl i hi) (fun ha => sup_one hse hte ha) fun a ha => (hsc i hi a ha).1
            have hep : ∀ i, i < len → (elm te (A i)).pure = true := fun i hi => by
              unfold elm
              split
              · simp only [AV.pure]; exact pureL_ofm fun a ha => (hsc i hi a ha).2
              · have := hAl i hi
                cases hA : A i with
                | nil => rfl
                | cons c cs => exact (hsc i hi c (by rw [hA]; simp)).2
            have hel : ∀ i v, ((List.range len).map fun i => elm te (A i))[i]? = some v → i < len ∧ v = elm te (A i) := fun i v h => by
              rw [List.getElem?_map] at h
              by_cases hi : i < len
              · rw [List.getElem?_range hi] at h; simp at h; exact ⟨hi, h.symm⟩
              · rw [List.getElem?_eq_none (by simpa using hi)] at h; simp at h
            have hat : ∀ i j c, i < len → (A i)[j]? = some c → ∃ v, (U i)[j]? = some v ∧ w.cell? ((a.add (i * te.size)).add j) = some v := fun i j c hi hc => by
              have hj : j < te.size := by rw [← hAl i hi]; exact (List.getElem?_eq_some_iff.1 hc).1
              have := (World.cells?_some (hUA i hi).1).2.2 j (by rw [hesz]; exact hj)
              rw [hesz] at this
              have hv : (U i)[j]? = some ((U i)[j]'(by rw [hUl i hi]; exact hj)) := List.getElem?_eq_getElem _
              exact ⟨_, hv, by rw [this, hv]⟩
            refine ⟨[.lst false ((List.range len).map fun i => elm te (A i))], ?_, by simp [hs1], .inr ⟨_, rfl, by simp; omega, fun x hx => ?_⟩⟩
            · have hlen : ((List.range len).map fun i => elm te (A i)).length = len := by simp
              have hrep : Rep (C0 w) (.slice (some a) ((List.range len).map fun i => elm te (A i)).length cap) (.lst false ((List.range len).map fun i => elm te (A i))) := by
                refine .lst a cap te.size _ (fun i j => ((U i)[j]?).getD (.bool true)) (by rw [hlen]; exact hl) (fun x hx => ?_) (fun hne => ?_) (fun i x hx j c hc => ?_) (fun i x hx j c hc => ?_) (fun i x hx j c hc => ?_)
                · obtain ⟨i, hi, rfl⟩ := List.mem_map.1 hx
                  have hi := List.mem_range.1 hi
                  rw [hec i hi, hAl i hi]
                · have h0 : 0 < len := by
                    rcases Nat.eq_zero_or_pos len with h | h
                    · subst h; exact absurd rfl hne
                    · exact h
                  obtain ⟨c, hc⟩ : ∃ c, (A 0)[0]? = some c := ⟨(A 0)[0]'(by rw [hAl 0 h0]; omega), List.getElem?_eq_getElem _⟩
                  obtain ⟨v, _, hv⟩ := hat 0 0 c h0 hc
                  have := add_at hv
                  exact ⟨this.2.2 (by simp), this.2.1, C0_wr w _⟩
                · obtain ⟨hi, rfl⟩ := hel i x hx
                  rw [hec i hi] at hc
                  obtain ⟨v, hv, hcell⟩ := hat i j c hi hc
                  rw [hv]
                  exact (add_at hcell).1
                · obtain ⟨hi, rfl⟩ := hel i x hx
                  rw [hec i hi] at hc
                  obtain ⟨v, hv, hcell⟩ := hat i j c hi hc
                  rw [hv]
                  exact ((hUA i hi).2.1.2 j v c hv hc).2.1
                · obtain ⟨hi, rfl⟩ := hel i x hx
                  rw [hec i hi] at hc
                  obtain ⟨v, hv, hcell⟩ := hat i j c hi hc
                  rw [hv]
                  exact ((hUA i hi).2.1.2 j v c hv hc).1
              rw [hlen] at hrep
              refine Cel.one hrep rfl rfl ?_
              simp only [AV.pure]
              exact pureL_ofm fun x hx => by
                obtain ⟨i, hi, rfl⟩ := List.mem_map.1 hx
                exact hep i (List.mem_range.1 hi)
            · obtain ⟨i, hi, rfl⟩ := List.mem_map.1 hx
              have hi := List.mem_range.1 hi
              exact ⟨A i, rfl, hAl i hi, (hUA i hi).2.2⟩
        · cases hsz0
      · -- struct
        rename_i fs hd
        rw [hd] at had ⊢
        simp only [Bool.and_eq_true] at hs
        obtain ⟨_, hs⟩ := hs
        obtain ⟨gs, rfl⟩ : ∃ gs, d = .struct gs := by cases d <;> simp_all [dOf]
        simp only [dOf, Option.some.injEq, TD.struct.injEq] at had
        obtain ⟨xs, n', _, _, hl, _, hf⟩ := DataW.trod_struct hund h
        have key : ∀ (l : List Field) (o : Nat) (cs : List Value), (∀ f ∈ l, ∃ y, DataW.trod enc P w base sp held n' f.type ((cs.drop (f.offset - o)).take (P.cellsOf f.type)) = some y) → tiles E (Sup E m) (l.map fun f => (f.offset, f.type)) o ti.size = true → cs.length + o = ti.size →
            ∃ avs, Cel w cs avs ∧ FitS E (Fit E m) (l.map fun f => (f.offset, f.type)) avs := by
          intro l
          induction l with
          | nil =>
            intro o cs _ ht' hcl
            simp only [List.map_nil, tiles, beq_iff_eq] at ht'
            have : cs = [] := List.length_eq_zero_iff.1 (by omega)
            subst this
            exact ⟨[], Cel.nil, rfl⟩
          | cons f l ihl =>
            intro o cs hall ht' hcl
            simp only [List.map_cons, tiles, Bool.and_eq_true, beq_iff_eq] at ht'
            obtain ⟨⟨ho, hsu⟩, hrest⟩ := ht'
            split at hrest
            · rename_i tu htu
              have hu := cells_of hE htu
              obtain ⟨y, hy⟩ := hall f (by simp)
              rw [ho, Nat.sub_self, List.drop_zero, hu] at hy
              obtain ⟨as1, h1, h2⟩ := ih f.type hsu n' _ _ hy
              have hlen1 : as1.length = tu.size := by
                cases m with
                | zero => simp [Sup] at hsu
                | succ m => simp only [Fit, htu] at h2; exact h2.1
              have hcs : tu.size ≤ cs.length := by
                have := h1.1
                rw [hlen1, List.length_take] at this
                omega
              have hle : ∀ (l' : List (Nat × TypeId)) (o' : Nat), tiles E (Sup E m) l' o' ti.size = true → ∀ q ∈ l', o' ≤ q.1 := by
                intro l'
                induction l' with
                | nil => intro _ _ q hq; cases hq
                | cons p l' ihp =>
                  intro o' hp q hq
                  obtain ⟨p1, p2⟩ := p
                  simp only [tiles, Bool.and_eq_true, beq_iff_eq] at hp
                  obtain ⟨⟨hp1, _⟩, hp3⟩ := hp
                  split at hp3
                  · rcases List.mem_cons.1 hq with rfl | hq
                    · exact Nat.le_of_eq hp1.symm
                    · have := ihp _ hp3 q hq; omega
                  · cases hp3
              obtain ⟨as2, h3, h4⟩ := ihl (o + tu.size) (cs.drop tu.size) (fun g hg => by
                obtain ⟨y, hy⟩ := hall g (by simp [hg])
                refine ⟨y, ?_⟩
                have hge := hle _ _ hrest (g.offset, g.type) (List.mem_map.2 ⟨g, hg, rfl⟩)
                have hge' : o + tu.size ≤ g.offset := hge
                rw [List.drop_drop, show tu.size + (g.offset - (o + tu.size)) = g.offset - o by omega]
                exact hy) hrest (by rw [List.length_drop]; omega)
              refine ⟨as1 ++ as2, ?_, as1, as2, rfl, h2, h4⟩
              have := h1.app h3
              rwa [List.take_append_drop] at this
            · cases hrest
        rw [← had] at hs
        obtain ⟨avs, h1, h2⟩ := key gs.toList 0 cs (fun f hf' => by
          obtain ⟨i, hi, rfl⟩ := List.getElem_of_mem hf'
          have hi' : i < gs.size := by simpa using hi
          have := hf i gs[i] (Array.getElem?_eq_getElem hi')
          have hx : i < xs.length := by omega
          rw [List.getElem?_eq_getElem hx] at this
          simp only [Nat.sub_zero, Array.getElem_toList]
          exact ⟨_, this⟩) hs (by omega)
        refine ⟨avs, h1, by rw [h1.1, hl, hsz], ?_⟩
        simp only [FitD]
        rw [← had]
        exact h2
      · -- array
        rename_i k e hd
        rw [hd] at had ⊢
        simp only [Bool.and_eq_true] at hs
        obtain ⟨⟨_, hse⟩, hs⟩ := hs
        obtain rfl : d = .array k e := by cases d <;> simp_all [dOf]
        split at hs
        · rename_i te hte
          have hesz := cells_of hE hte
          simp only [beq_iff_eq] at hs
          obtain ⟨xs, n', _, _, hl, hxl, hf⟩ := DataW.trod_array hund h
          have key : ∀ (q : Nat) (cs : List Value), (∀ i, i < q → ∃ y, DataW.trod enc P w base sp held n' e ((cs.drop (i * te.size)).take te.size) = some y) → cs.length = q * te.size → ∃ ys : List (List AV), ys.length = q ∧ Cel w cs ys.flatten ∧ ∀ y ∈ ys, Fit E m e y := by
            intro q
            induction q with
            | zero =>
              intro cs _ hcl
              have : cs = [] := List.length_eq_zero_iff.1 (by omega)
              subst this
              exact ⟨[], rfl, Cel.nil, fun y hy => by cases hy⟩
            | succ q ihq =>
              intro cs hall hcl
              rw [Nat.add_mul, Nat.one_mul] at hcl
              obtain ⟨y, hy⟩ := hall 0 (by omega)
              rw [Nat.zero_mul, List.drop_zero] at hy
              obtain ⟨as1, h1, h2⟩ := ih e hse n' _ _ hy
              obtain ⟨ys, h3, h4, h5⟩ := ihq (cs.drop te.size) (fun i hi => by
                obtain ⟨y, hy⟩ := hall (i + 1) (by omega)
                refine ⟨y, ?_⟩
                rw [List.drop_drop, show te.size + i * te.size = (i + 1) * te.size by rw [Nat.add_mul]; omega]
                exact hy) (by rw [List.length_drop]; omega)
              refine ⟨as1 :: ys, by simp [h3], ?_, fun y hy => ?_⟩
              · have := h1.app h4
                rwa [List.take_append_drop] at this
              · rcases List.mem_cons.1 hy with rfl | hy
                · exact h2
                · exact h5 y hy
          obtain ⟨ys, h1, h2, h3⟩ := key k cs (fun i hi => by
            have := hf i hi
            have hx : i < xs.length := by omega
            rw [List.getElem?_eq_getElem hx, hesz] at this
            exact ⟨_, this⟩) (by rw [hl, hsz, hs])
          exact ⟨ys.flatten, h2, by rw [h2.1, hl, hsz], ys, h1, rfl, h3⟩
        · cases hs
      · cases hs

theorem okWide_form (hE : EOk P E) {m : Nat} {t : TypeId} {ti : TI} {r : Reach} {b : Nat} {v : Value} (ht : E.T t = some ti) (hs : Sup E m t = true) (h : Value.okWide P w r b t v) : (ti.agg = true ∧ ∃ vs : Array Value, v = .agg vs) ∨ (ti.agg = false ∧ v.oneCell' = true) := by
  obtain ⟨i, d, z, F⟩ := tiOf_facts (hE.ty _ _ ht)
  have had := F.ad
  have hag := F.agg
  cases m with
  | zero => simp [Sup] at hs
  | succ m =>
    simp only [Sup, ht] at hs
    unfold Value.okWide at h
    rw [F.und] at h
    cases d with
    | struct gs => left; refine ⟨by rw [hag]; rfl, ?_⟩; obtain ⟨cs, rfl, _⟩ := h; exact ⟨cs, rfl⟩
    | array n e => left; refine ⟨by rw [hag]; rfl, ?_⟩; obtain ⟨cs, rfl, _⟩ := h; exact ⟨cs, rfl⟩
    | int k => right; refine ⟨by rw [hag]; rfl, ?_⟩; cases v <;> first | rfl | (simp [Cell.okWide, Cell.ok, F.und] at h)
    | bool => right; refine ⟨by rw [hag]; rfl, ?_⟩; cases v <;> first | rfl | (simp [Cell.okWide, Cell.ok, F.und] at h)
    | string => right; refine ⟨by rw [hag]; rfl, ?_⟩; cases v <;> first | rfl | (simp [Cell.okWide, Cell.ok, F.und] at h)
    | slice e => right; refine ⟨by rw [hag]; rfl, ?_⟩; cases v <;> first | rfl | (simp [Cell.okWide, Cell.ok, F.und] at h)
    | _ =>
      have hd : ∀ x, dOf _ = some x → x = ti.desc := fun x hx => by rw [had] at hx; cases hx; rfl
      simp only [dOf] at had
      first
        | (cases had; done)
        | (simp only [Option.some.injEq] at had; rw [← had] at hs; simp at hs)

/-- The arguments of a row: what they are to the machine; and that they read the same wherever nothing old has turned. -/
theorem open_args (hE : EOk P E) (hl : laidOutB P = true) : ∀ (ts : List TypeId) (vs : List Value) (ds : List (DataW H)) (ps : List MemPlace), ts.all (fun t => Sup E 6 t && P.readableRec t && decide (t < P.types.size)) = true → DataW.TrodAll enc P w 0 (fun _ => true) true ts vs ds ps →
    (∀ (j : Nat) (t : TypeId) (v : Value), ts[j]? = some t → vs[j]? = some v → ∃ r b, Value.okWide P w r b t v) →
    ∃ avs, FitArgs E ts avs ∧ RepL (C0 w) vs avs ∧ AV.pureL avs = true ∧ ∀ w', Below w.heap.size w w' → DataW.TrodAll enc P w' 0 (fun b => decide (b < w.heap.size)) true ts vs ds ps
  | [], vs, ds, ps, _, h, _ => by
    obtain ⟨rfl, rfl, rfl⟩ := ChangeShapes.trodAll_nil h
    exact ⟨[], rfl, trivial, rfl, fun w' _ => rfl⟩
  | t :: ts, vs, ds, ps, hs, h, hv => by
    obtain ⟨v, vs, d, ds, p, q, rfl, rfl, rfl, h0, h1⟩ := ChangeShapes.trodAll_cons h
    simp only [List.all_cons, Bool.and_eq_true, decide_eq_true_eq] at hs
    obtain ⟨⟨⟨hs0, hr⟩, hlt⟩, hs1⟩ := hs
    obtain ⟨avs, g1, g2, g3, g4⟩ := open_args hE hl ts vs ds q (by simpa using hs1) h1 fun j t v ht hv' => hv (j + 1) t v (by simpa using ht) (by simpa using hv')
    obtain ⟨fuel, h0'⟩ := h0
    obtain ⟨cs, k1, k2⟩ := open_cells hE 6 t hs0 fuel _ _ h0'
    obtain ⟨ti, hti⟩ : ∃ ti, E.T t = some ti := by
      cases hh : E.T t with
      | none => simp [Fit, hh] at k2
      | some ti => exact ⟨ti, rfl⟩
    have hcl : cs.length = ti.size := by simp only [Fit, hti] at k2; exact k2.1
    obtain ⟨r, b, hok⟩ := hv 0 t v rfl rfl
    have hrep : Rep (C0 w) v (elm ti cs) ∧ (elm ti cs).pure = true := by
      have hp := k1.pureL
      rcases okWide_form hE hti hs0 hok with ⟨ha, us, rfl⟩ | ⟨ha, h1c⟩
      · unfold elm
        rw [if_pos ha]
        refine ⟨.agg us cs ?_ fun j v x hv hx => ?_, by simpa [AV.pure] using hp⟩
        · have := k1.1; simpa [Value.cells] using this.symm
        · exact (k1.2 j v x (by simpa [Value.cells] using hv) hx).1
      · have h1 := sup_one hs0 hti ha
        have hc : v.cells.toList = [v] := by cases v <;> first | rfl | (simp [Value.oneCell'] at h1c)
        rw [hc] at k1
        obtain ⟨a, rfl⟩ : ∃ a, cs = [a] := List.length_eq_one_iff.1 (by rw [hcl, h1])
        unfold elm
        simp only [ha, Bool.false_eq_true, if_false, List.headD_cons]
        have := k1.2 0 v a rfl rfl
        exact ⟨this.1, this.2.2.2⟩
    refine ⟨elm ti cs :: avs, ⟨cs, _, avs, rfl, by rw [hti]; exact ⟨rfl, k2⟩, g1⟩, ⟨hrep.1, g2⟩, by simp only [AV.pureL, hrep.2, g3]; rfl, fun w' hb => ?_⟩
    refine ⟨p, q, ?_, g4 w' hb, rfl⟩
    refine Below.trod hl hr hlt ⟨fuel, h0'⟩ hb fun x hx => ?_
    exact DataW.trod_lt _ _ _ _ h0' x hx
theorem trodAll_len : ∀ {ts : List TypeId} {vs : List Value} {ds : List (DataW H)} {ps : List MemPlace}, DataW.TrodAll enc P w base sp held ts vs ds ps → ds.length = ts.length
  | [], vs, ds, ps, h => by obtain ⟨rfl, rfl, rfl⟩ := ChangeShapes.trodAll_nil h; rfl
  | t :: ts, vs, ds, ps, h => by
    obtain ⟨v, vs, d, ds, p, q, rfl, rfl, rfl, h0, h1⟩ := ChangeShapes.trodAll_cons h
    simp [trodAll_len h1]
end
end Vm

/- Walks of the laws of chapter 1: their helpers. (Own work of this repo.) -/
namespace Go.Proofs.Ytpfcijgcjghgeaa
open Vm
set_option maxRecDepth 10000

theorem ladd_spec (ma : Bool) (x : Int) (mb : Bool) (y : Int) (hx : (dg x).length ≤ 4096) (hy : (dg y).length ≤ 4096) (h : (dg (x + y)).length ≤ 4096) : denP E 16 [I ma x, I mb y] = some (.ret (.tup [I false (x + y), .bool true])) := by
  refine denP_eq E16 rfl (by simp [AV.pureL, AV.pure, pure_wd]) ?_
  have h1 := add_spec ma x mb y hx hy
  simp only [RI, fm_of h, fit_of h, er_of h] at h1
  simp (maxSteps := 4000000) (disch := omega) only [go_sem, ↓reduceIte, Nat.reduceAdd, Nat.reduceSub, Nat.reduceMul, Nat.reduceEqDiff, reduceCtorEq, Int.reduceAdd, Int.reduceLT, Int.reduceLE, Int.reduceToNat, Int.reduceNeg, Int.reduceSub, ← List.map_take, ← List.map_drop, wrap64, wrapu64, wrapu32, Try.f16, h1]
theorem lsub_spec (ma : Bool) (x : Int) (mb : Bool) (y : Int) (hx : (dg x).length ≤ 4096) (hy : (dg y).length ≤ 4096) (h : (dg (x - y)).length ≤ 4096) : denP E 17 [I ma x, I mb y] = some (.ret (.tup [I false (x - y), .bool true])) := by
  refine denP_eq E17 rfl (by simp [AV.pureL, AV.pure, pure_wd]) ?_
  have h1 := sub_spec ma x mb y hx hy
  simp only [RI, fm_of h, fit_of h, er_of h] at h1
  simp (maxSteps := 4000000) (disch := omega) only [go_sem, ↓reduceIte, Nat.reduceAdd, Nat.reduceSub, Nat.reduceMul, Nat.reduceEqDiff, reduceCtorEq, Int.reduceAdd, Int.reduceLT, Int.reduceLE, Int.reduceToNat, Int.reduceNeg, Int.reduceSub, ← List.map_take, ← List.map_drop, wrap64, wrapu64, wrapu32, Try.f17, h1]
theorem lmul_spec (ma : Bool) (x : Int) (mb : Bool) (y : Int) (hx : (dg x).length ≤ 4096) (hy : (dg y).length ≤ 4096) (h : (dg (x * y)).length ≤ 4096) : denP E 19 [I ma x, I mb y] = some (.ret (.tup [I (mz x y) (x * y), .bool true])) := by
  refine denP_eq E19 rfl (by simp [AV.pureL, AV.pure, pure_wd]) ?_
  have h1 := mul_spec ma x mb y hx hy
  simp only [RI, fm_of h, fit_of h, er_of h] at h1
  simp (maxSteps := 4000000) (disch := omega) only [go_sem, ↓reduceIte, Nat.reduceAdd, Nat.reduceSub, Nat.reduceMul, Nat.reduceEqDiff, reduceCtorEq, Int.reduceAdd, Int.reduceLT, Int.reduceLE, Int.reduceToNat, Int.reduceNeg, Int.reduceSub, ← List.map_take, ← List.map_drop, wrap64, wrapu64, wrapu32, Try.f19, h1]

/-- Numbers as they come: sign, words. -/
abbrev Raw := Bool × Bool × List Nat
abbrev ivr (q : Raw) : AV := iv q.1 q.2.1 q.2.2
def lightW (most : Nat) (q : Raw) : Bool := decide (q.2.2.length ≤ most) && rvalidW q.1 q.2.2
theorem get_ivr {L : List Raw} {i : Nat} (h : i < L.length) : (L.map ivr)[i]? = some (.agg [.bool (L.getD i default).1, .lst (L.getD i default).2.1 ((L.getD i default).2.2.map wd)]) := by
  simp [h]
theorem pure_ivr (L : List Raw) : AV.pureL (L.map ivr) = true := by
  induction L with
  | nil => rfl
  | cons q L ih => simp only [List.map_cons, AV.pureL, AV.pure, ih, pure_wd]; rfl
theorem light_walk (most : Nat) (L : List Raw) (hL : L.length < 2 ^ 40) (hm : most < 2 ^ 50) : denP E 15 [.int .i64 most, .lst false (L.map ivr)] = some (.ret (.bool (L.all (lightW most)))) := by
  refine denP_eq E15 rfl (by simp [AV.pureL, AV.pure, pure_ivr]) ?_
  simp (maxSteps := 4000000) (disch := omega) only [go_sem, ↓reduceIte, Nat.reduceAdd, Nat.reduceSub, Nat.reduceMul, Nat.reduceEqDiff, reduceCtorEq, Int.reduceAdd, Int.reduceLT, Int.reduceLE, Int.reduceToNat, Int.reduceNeg, Int.reduceSub, ← List.map_take, ← List.map_drop, wrap64, wrapu64, wrapu32, ← Int.natCast_add, ← Int.natCast_mul, cast_succ, wrapu32_nat, shr32, reps_wd, map_set_wd, List.length_set, zs_len, Try.f15]
  refine W_loopS (fun k sl h nx => ∃ i : Nat, (∃ g : Nat → AV, sl = [.int .i64 most, .lst false (L.map ivr), g 2, g 3, g 4, .int .i64 i, g 6, g 7, g 8, g 9, g 10, g 11, g 12, g 13, g 14, g 15, g 16, g 17, g 18, g 19, g 20, g 21, g 22, g 23, g 24, g 25, g 26, g 27]) ∧ h = Heap.empty ∧ nx = 0 ∧
    i + k = L.length ∧ ∀ j, j < i → lightW most (L.getD j default) = true) L.length ⟨0, garb rfl, rfl, rfl, by omega, by omega⟩ ?_
  rintro k _ _ _ ⟨i, ⟨g, rfl⟩, rfl, rfl, hk, hall⟩
  by_cases hk0 : k = 0
  · have hv : L.all (lightW most) = true := by
      rw [List.all_eq_true]
      intro q hq
      obtain ⟨j, hj, rfl⟩ := List.getElem_of_mem hq
      have := hall j (by omega)
      rwa [List.getD_eq_getElem?_getD, List.getElem?_eq_getElem hj] at this
    simp (maxSteps := 4000000) (disch := omega) only [go_sem, ↓reduceIte, Nat.reduceAdd, Nat.reduceSub, Nat.reduceMul, Nat.reduceEqDiff, reduceCtorEq, Int.reduceAdd, Int.reduceLT, Int.reduceLE, Int.reduceToNat, Int.reduceNeg, Int.reduceSub, ← List.map_take, ← List.map_drop, wrap64, wrapu64, wrapu32, ← Int.natCast_add, ← Int.natCast_mul, cast_succ, wrapu32_nat, shr32, reps_wd, map_set_wd, List.length_set, zs_len, hv]
  · have hg := get_ivr (L := L) (i := i) (by omega)
    have hmem : L.getD i default ∈ L := by
      rw [List.getD_eq_getElem?_getD, List.getElem?_eq_getElem (by omega)]; exact List.getElem_mem _
    have hno : lightW most (L.getD i default) = false → L.all (lightW most) = false := fun h => by
      rw [List.all_eq_false]; exact ⟨_, hmem, by rw [h]; simp⟩
    generalize hq : L.getD i default = q at *
    obtain ⟨neg, nl, l⟩ := q
    dsimp only at hg
    by_cases h2 : l.length ≤ most
    · have h1 := rValid_walk neg nl l (by omega)
      cases h3 : rvalidW neg l with
      | true =>
        rw [h3] at h1
        simp (maxSteps := 4000000) (disch := omega) only [go_sem, ↓reduceIte, Nat.reduceAdd, Nat.reduceSub, Nat.reduceMul, Nat.reduceEqDiff, reduceCtorEq, Int.reduceAdd, Int.reduceLT, Int.reduceLE, Int.reduceToNat, Int.reduceNeg, Int.reduceSub, ← List.map_take, ← List.map_drop, wrap64, wrapu64, wrapu32, ← Int.natCast_add, ← Int.natCast_mul, cast_succ, wrapu32_nat, shr32, reps_wd, map_set_wd, List.length_set, zs_len, hg, h1]
        refine ⟨k - 1, by omega, i + 1, garb rfl, by omega, fun j hj => ?_⟩
        by_cases hji : j = i
        · subst hji; rw [hq]; simp [lightW, h2, h3]
        · exact hall j (by omega)
      | false =>
        rw [h3] at h1
        have hv := hno (by simp [lightW, h3])
        simp (maxSteps := 4000000) (disch := omega) only [go_sem, ↓reduceIte, Nat.reduceAdd, Nat.reduceSub, Nat.reduceMul, Nat.reduceEqDiff, reduceCtorEq, Int.reduceAdd, Int.reduceLT, Int.reduceLE, Int.reduceToNat, Int.reduceNeg, Int.reduceSub, ← List.map_take, ← List.map_drop, wrap64, wrapu64, wrapu32, ← Int.natCast_add, ← Int.natCast_mul, cast_succ, wrapu32_nat, shr32, reps_wd, map_set_wd, List.length_set, zs_len, hg, h1, hv]
    · have hv := hno (by simp [lightW, h2])
      simp (maxSteps := 4000000) (disch := omega) only [go_sem, ↓reduceIte, Nat.reduceAdd, Nat.reduceSub, Nat.reduceMul, Nat.reduceEqDiff, reduceCtorEq, Int.reduceAdd, Int.reduceLT, Int.reduceLE, Int.reduceToNat, Int.reduceNeg, Int.reduceSub, ← List.map_take, ← List.map_drop, wrap64, wrapu64, wrapu32, ← Int.natCast_add, ← Int.natCast_mul, cast_succ, wrapu32_nat, shr32, reps_wd, map_set_wd, List.length_set, zs_len, hg, hv]
/-- Light numbers are numbers. -/
theorem light_norm {most : Nat} {q : Raw} (hr : InR q.2.2) (h : lightW most q = true) : q.2.2.length ≤ most ∧ q.2.2.length ≤ 4096 ∧ ∃ z : Int, ivr q = I q.2.1 z ∧ dg z = q.2.2 := by
  unfold lightW at h
  rw [Bool.and_eq_true, decide_eq_true_eq] at h
  obtain ⟨h1, z, h2, h3⟩ := rvalid_norm hr h.2
  exact ⟨h.1, h1, z, by rw [I, h2, h3], h3⟩
/-- What an argument of the numbers' type is. -/
theorem fit_raw {m : Nat} {cs : List AV} (h : Fit E (m + 3) 28 cs) : ∃ q : Raw, cs = [.bool q.1, .lst q.2.1 (q.2.2.map wd)] ∧ InR q.2.2 ∧ (q.2.1 = true → q.2.2 = []) ∧ q.2.2.length ≤ maxLen := by
  simp only [Fit, opn_eq, T1, T2, T3, T4, T5, T6, T7, T8, T9, T10, T11, T12, T13, T14, T15, T16, T17, T18, T19, T20, T21, T22, T23, T25, T26, T27, T28, T29, T30, T31, T32, T33, T35, T36, T37, T39, T41, T42, T43, T44, T45, T46, T47, T48, T49, T50, T51, T52, T54, T56, T58, T59, T61, T62, T64, T65, T66, T67, T68, T69, T70, T71, T72, T73, T74, T76, T77, T78, T79, T80, T81, T82, T83, T84, T85, T87, T88, T89, T91, T92, T93, T95, T97, T98, T100, T101, T102, T103, T104, T105, T106, T107, T108, T109, T110, T111, T112, T113, T114, T115, T116, T117, T118, T119, T120, T121, T122, FitD, FitS] at h
  obtain ⟨_, x, y, rfl, ⟨_, b, rfl⟩, x2, y2, rfl, ⟨_, h2⟩, rfl⟩ := h
  rcases h2 with rfl | ⟨xs, rfl, hl, hx⟩
  · exact ⟨(b, true, []), rfl, fun x hx => by (cases hx), fun _ => rfl, by simp⟩
  · have key : ∀ (xs : List AV), (∀ x ∈ xs, ∃ cs, x = elm ⟨1, 4, false, .int .u32 0, .int .u32⟩ cs ∧ cs.length = 1 ∧ cs.length = 1 ∧ ∃ i, cs = [.int .u32 i] ∧ (Lit.int .u32 i).wf = true) → ∃ l : List Nat, xs = l.map wd ∧ InR l := by
      intro xs
      induction xs with
      | nil => intro _; exact ⟨[], rfl, fun x hx => by (cases hx)⟩
      | cons x xs ih =>
        intro h
        obtain ⟨l, rfl, hl⟩ := ih fun y hy => h y (by simp [hy])
        obtain ⟨cs, rfl, _, _, i, rfl, hi⟩ := h x (by simp)
        have hi' : 0 ≤ i ∧ i < 4294967296 := by simp [Lit.wf, IntKind.max, IntKind.min, IntKind.bits, IntKind.signed] at hi; omega
        refine ⟨i.toNat :: l, ?_, fun y hy => ?_⟩
        · have : ((i.toNat : Nat) : Int) = i := by omega
          simp [elm, wd, this]
        · rcases List.mem_cons.1 hy with rfl | hy
          · show i.toNat < 4294967296; omega
          · exact hl y hy
    obtain ⟨l, rfl, hr⟩ := key xs hx
    exact ⟨(b, false, l), rfl, hr, fun h => by simp at h, by simpa using hl⟩
end Go.Proofs.Ytpfcijgcjghgeaa

/- The examples of the chapter hold. (Own work of this repo.) -/
namespace Go.Proofs.Ytpfcijgcjghgeaa
open Vm
set_option maxRecDepth 100000 in
theorem awake14 : denP E 14 [] = some (.ret (.bool true)) := denP_of (n := 200) (by kernel_rfl)

end Go.Proofs.Ytpfcijgcjghgeaa

/- Plain facts: numbers of binary digits, shifts of rows of words. (Own work of this repo.) -/
namespace Vm

/-- How many binary digits. -/
def bl (n : Nat) : Nat := if h : n = 0 then 0 else bl (n / 2) + 1
termination_by n
decreasing_by omega
theorem bl_zero : bl 0 = 0 := by rw [bl]; simp
theorem bl_pos {n : Nat} (h : n ≠ 0) : bl n = bl (n / 2) + 1 := by rw [bl, dif_neg h]
theorem bl_lt (n : Nat) : n < 2 ^ bl n := by
  induction n using Nat.strongRecOn with
  | _ n ih =>
    by_cases h : n = 0
    · subst h; rw [bl_zero]; decide
    · have := ih (n / 2) (by omega)
      rw [bl_pos h, Nat.pow_succ]; omega
theorem bl_ge {n : Nat} (h : n ≠ 0) : 2 ^ (bl n - 1) ≤ n := by
  induction n using Nat.strongRecOn with
  | _ n ih =>
    rw [bl_pos h, Nat.add_sub_cancel]
    by_cases h2 : n / 2 = 0
    · rw [h2, bl_zero]; simp; omega
    · have := ih (n / 2) (by omega) h2
      have h3 : bl (n / 2) = bl (n / 2) - 1 + 1 := by rw [bl_pos h2]; omega
      rw [h3, Nat.pow_succ]; omega
theorem bl_le {n k : Nat} : bl n ≤ k ↔ n < 2 ^ k := by
  constructor
  · intro h
    exact Nat.lt_of_lt_of_le (bl_lt n) (Nat.pow_le_pow_right (by decide) h)
  · intro h
    by_cases h0 : n = 0
    · subst h0; rw [bl_zero]; omega
    · have h1 := bl_ge h0
      have h2 : 2 ^ (bl n - 1) < 2 ^ k := by omega
      have := (Nat.pow_lt_pow_iff_right (by decide : 1 < 2)).1 h2
      omega
theorem bl_eq {n k : Nat} (h1 : n < 2 ^ k) (h2 : k = 0 ∨ 2 ^ (k - 1) ≤ n) : bl n = k := by
  have h3 := bl_le.2 h1
  rcases h2 with rfl | h2
  · omega
  · rcases Nat.lt_or_ge (bl n) k with h | h
    · have h4 : n < 2 ^ (k - 1) := bl_le.1 (by omega)
      omega
    · omega
theorem bl_mono {a b : Nat} (h : a ≤ b) : bl a ≤ bl b := bl_le.2 (Nat.lt_of_le_of_lt h (bl_lt b))
theorem bl_nz {n : Nat} (h : n ≠ 0) : 0 < bl n := by rw [bl_pos h]; omega
/-- A number's binary digits, from its words. -/
theorem bl_val {l : List Nat} (hr : InR l) (h : l.getD (l.length - 1) 0 ≠ 0) : bl (val l) = 32 * (l.length - 1) + bl (l.getD (l.length - 1) 0) := by
  have hl : l.length ≠ 0 := fun e => by rw [List.length_eq_zero_iff] at e; subst e; simp at h
  obtain ⟨k, hk⟩ : ∃ k, l.length = k + 1 := ⟨l.length - 1, by omega⟩
  rw [hk, Nat.add_sub_cancel] at h ⊢
  have e : val l = vp l k + l.getD k 0 * BB ^ k := by rw [val, hk, vp]
  have h1 := vp_lt hr k
  have hp : BB ^ k = 2 ^ (32 * k) := by rw [Nat.pow_mul]
  generalize l.getD k 0 = t at *
  have h2 := bl_lt t
  have h3 := bl_ge h
  have h4 := bl_nz h
  refine bl_eq ?_ (.inr ?_)
  · rw [e, Nat.pow_add, ← hp]
    have : (t + 1) * BB ^ k ≤ 2 ^ bl t * BB ^ k := Nat.mul_le_mul_right _ h2
    rw [Nat.add_mul] at this
    rw [Nat.mul_comm (BB ^ k)]
    omega
  · rw [e, show 32 * k + bl t - 1 = 32 * k + (bl t - 1) by omega, Nat.pow_add, ← hp, Nat.mul_comm]
    have : 2 ^ (bl t - 1) * BB ^ k ≤ t * BB ^ k := Nat.mul_le_mul_right _ h3
    omega
/-- The table of the library. -/
def lenTab (x : Nat) : Nat := bl x
theorem bl_shift16 {x : Nat} (h : 65536 ≤ x) : bl x = 16 + bl (x / 65536) := by
  refine bl_eq ?_ (.inr ?_)
  · have := bl_lt (x / 65536)
    rw [Nat.pow_add]
    have h2 : (x / 65536 + 1) * 65536 ≤ 2 ^ bl (x / 65536) * 65536 := Nat.mul_le_mul_right _ this
    omega
  · have h0 : x / 65536 ≠ 0 := by omega
    have := bl_ge h0
    have h4 := bl_nz h0
    rw [show 16 + bl (x / 65536) - 1 = 16 + (bl (x / 65536) - 1) by omega, Nat.pow_add]
    have h2 : 2 ^ (bl (x / 65536) - 1) * 65536 ≤ x / 65536 * 65536 := Nat.mul_le_mul_right _ this
    omega
theorem bl_shift8 {x : Nat} (h : 256 ≤ x) : bl x = 8 + bl (x / 256) := by
  refine bl_eq ?_ (.inr ?_)
  · have := bl_lt (x / 256)
    rw [Nat.pow_add]
    have h2 : (x / 256 + 1) * 256 ≤ 2 ^ bl (x / 256) * 256 := Nat.mul_le_mul_right _ this
    omega
  · have h0 : x / 256 ≠ 0 := by omega
    have := bl_ge h0
    have h4 := bl_nz h0
    rw [show 8 + bl (x / 256) - 1 = 8 + (bl (x / 256) - 1) by omega, Nat.pow_add]
    have h2 : 2 ^ (bl (x / 256) - 1) * 256 ≤ x / 256 * 256 := Nat.mul_le_mul_right _ this
    omega

/-! #### shifts -/
theorem pow_split {k : Nat} (h : k < 32) : 2 ^ k * 2 ^ (32 - k) = 4294967296 := by
  rw [← Nat.pow_add, show k + (32 - k) = 32 by omega]
theorem pow_lt32 {k : Nat} (h : k < 32) : 2 ^ k ≤ 2147483648 := by
  have : 2 ^ k ≤ 2 ^ 31 := Nat.pow_le_pow_right (by decide) (by omega)
  exact this
/-- A word moved to the left: what is carried, and what stays has zeros. -/
theorem left_word {x k : Nat} (hk : k < 32) (hx : x < 4294967296) : x * 2 ^ k / 4294967296 < 2 ^ k ∧ x * 2 ^ k % 4294967296 = (x % 2 ^ (32 - k)) * 2 ^ k := by
  have hp := pow_split hk
  have h0 : 0 < 2 ^ k := Nat.pow_pos (by decide)
  constructor
  · rw [Nat.div_lt_iff_lt_mul (by decide), Nat.mul_comm]
    exact Nat.mul_lt_mul_of_pos_left hx h0
  · rw [← hp, Nat.mul_comm (2 ^ k), Nat.mul_mod_mul_right]
theorem left_step {o a : List Nat} {q i k h : Nat} (hk : k < 32) (ha : a.getD i 0 < 4294967296) (ho : q + i + 1 < o.length) (hh : o.getD (q + i) 0 = h) (hv : vp o (q + i + 1) = vp a i * (2 ^ k * BB ^ q)) :
    vp ((o.set (q + i) (h + a.getD i 0 * 2 ^ k % 4294967296)).set (q + i + 1) (a.getD i 0 * 2 ^ k / 4294967296)) (q + (i + 1) + 1) = vp a (i + 1) * (2 ^ k * BB ^ q) := by
  rw [show q + (i + 1) + 1 = q + i + 1 + 1 by omega, vp, lget_set_self (by rw [List.length_set]; omega), vp_set _ _ _ _ (Nat.le_refl _), vp, lget_set_self (by omega), vp_set _ _ _ _ (Nat.le_refl _)]
  rw [vp, hh] at hv
  rw [vp, Nat.add_mul, Nat.add_mul, ← hv, show BB ^ (q + i + 1) = BB ^ (q + i) * BB from Nat.pow_succ _ _]
  have h1 : a.getD i 0 * 2 ^ k % 4294967296 * BB ^ (q + i) + a.getD i 0 * 2 ^ k / 4294967296 * (BB ^ (q + i) * BB) = a.getD i 0 * 2 ^ k * BB ^ (q + i) := split_mul (a.getD i 0 * 2 ^ k) (BB ^ (q + i))
  have h2 : a.getD i 0 * BB ^ i * (2 ^ k * BB ^ q) = a.getD i 0 * 2 ^ k * BB ^ (q + i) := by
    rw [Nat.pow_add]; generalize a.getD i 0 = x; generalize BB ^ i = y; generalize BB ^ q = z; generalize 2 ^ k = w; grind
  rw [h2]
  omega
/-- A row's words moved to the right, each with the low part of the next one. -/
theorem right_word {x y k : Nat} (hk : k < 32) (hx : x < 4294967296) : (x + y * 4294967296) / 2 ^ k % 4294967296 = x / 2 ^ k + (y % 2 ^ k) * 2 ^ (32 - k) := by
  have hp := pow_split hk
  have h0 : 0 < 2 ^ k := Nat.pow_pos (by decide)
  have h0' : 0 < 2 ^ (32 - k) := Nat.pow_pos (by decide)
  have h1 : (x + y * 4294967296) / 2 ^ k = x / 2 ^ k + y * 2 ^ (32 - k) := by
    rw [← hp, show y * (2 ^ k * 2 ^ (32 - k)) = 2 ^ k * (y * 2 ^ (32 - k)) by grind, Nat.add_mul_div_left _ _ h0]
  have hlt : x / 2 ^ k < 2 ^ (32 - k) := by rw [Nat.div_lt_iff_lt_mul h0, Nat.mul_comm, hp]; exact hx
  rw [h1]
  have h2 : y * 2 ^ (32 - k) = (y % 2 ^ k) * 2 ^ (32 - k) + 4294967296 * (y / 2 ^ k) := by
    have := Nat.mod_add_div y (2 ^ k)
    generalize y / 2 ^ k = d at *
    rw [← hp]
    generalize hm : y % 2 ^ k = m at *
    rw [← this]; grind
  rw [h2, ← Nat.add_assoc, Nat.add_mul_mod_self_left, Nat.mod_eq_of_lt]
  have h3 : y % 2 ^ k < 2 ^ k := Nat.mod_lt _ h0
  have h4 : (y % 2 ^ k + 1) * 2 ^ (32 - k) ≤ 2 ^ k * 2 ^ (32 - k) := Nat.mul_le_mul_right _ h3
  rw [Nat.add_mul, hp] at h4
  omega
theorem right_inv {o b : List Nat} {k : Nat} (hk : k < 32) (hb : InR b) (h : ∀ i, i < b.length → o.getD i 0 = (b.getD i 0 + b.getD (i + 1) 0 * 4294967296) / 2 ^ k % 4294967296) : ∀ i, i ≤ b.length →
    vp b (i + 1) = 2 ^ k * (vp o i + b.getD i 0 / 2 ^ k * BB ^ i) + b.getD 0 0 % 2 ^ k := by
  have hp := pow_split hk
  intro i
  induction i with
  | zero =>
    intro _
    have := Nat.div_add_mod (b.getD 0 0) (2 ^ k)
    simp only [vp, Nat.pow_zero, Nat.mul_one, Nat.zero_add]
    omega
  | succ i ih =>
    intro hi
    have h1 := ih (by omega)
    have h2 := h i (by omega)
    rw [right_word hk (hb.get i)] at h2
    rw [vp, h1, vp, h2]
    have h3 := Nat.div_add_mod (b.getD (i + 1) 0) (2 ^ k)
    generalize b.getD (i + 1) 0 = y at *
    generalize y / 2 ^ k = d at *
    generalize y % 2 ^ k = m at *
    generalize b.getD i 0 / 2 ^ k = e at *
    generalize b.getD 0 0 % 2 ^ k = r at *
    rw [← h3, Nat.pow_succ, show BB = 2 ^ k * 2 ^ (32 - k) from hp.symm]
    generalize (2 ^ k * 2 ^ (32 - k)) ^ i = z
    grind
theorem right_val {o b : List Nat} {k : Nat} (hk : k < 32) (hb : InR b) (hl : o.length = b.length) (h : ∀ i, i < b.length → o.getD i 0 = (b.getD i 0 + b.getD (i + 1) 0 * 4294967296) / 2 ^ k % 4294967296) :
    val b = 2 ^ k * val o + b.getD 0 0 % 2 ^ k := by
  have := right_inv hk hb h b.length (Nat.le_refl _)
  rw [vp_ge b _ (by omega), getD_ge (Nat.le_refl _), Nat.zero_div, Nat.zero_mul, Nat.add_zero] at this
  rw [this, val, hl]
/-- A row, cut in two. -/
theorem vp_split (a : List Nat) (q : Nat) : ∀ n, vp a (q + n) = vp a q + BB ^ q * vp (a.drop q) n := by
  intro n
  induction n with
  | zero => simp [vp]
  | succ n ih =>
    rw [← Nat.add_assoc, vp, ih, vp, getD_drop, Nat.pow_add]
    generalize BB ^ q = x; generalize BB ^ n = y; generalize a.getD (q + n) 0 = z; grind
theorem val_split {a : List Nat} {q : Nat} (h : q ≤ a.length) : val a = vp a q + BB ^ q * val (a.drop q) := by
  have := vp_split a q (a.length - q)
  rw [show q + (a.length - q) = a.length by omega] at this
  rw [val, val, List.length_drop, this]
theorem vp_take {a : List Nat} {q : Nat} (h : q ≤ a.length) : val (a.take q) = vp a q := by
  rw [val, List.length_take, Nat.min_eq_left h]
  exact vp_congr _ fun i hi => getD_take hi
theorem vp_nz {a : List Nat} : ∀ n, vp a n = 0 ↔ ∀ i, i < n → a.getD i 0 = 0
  | 0 => by simp [vp]
  | n + 1 => by
    have h0 : 0 < BB ^ n := Nat.pow_pos (by decide)
    rw [vp, Nat.add_eq_zero_iff, vp_nz n, Nat.mul_eq_zero]
    constructor
    · rintro ⟨h1, h2⟩ i hi
      by_cases e : i = n
      · subst e; rcases h2 with h2 | h2
        · exact h2
        · omega
      · exact h1 i (by omega)
    · intro h
      exact ⟨fun i hi => h i (by omega), .inl (h n (by omega))⟩
end Vm

/- Walks: rows of words moved to the left. (Own work of this repo.) -/
namespace Go.Proofs.Ytpfcijgcjghgeaa
open Vm
set_option maxRecDepth 10000

theorem pow32 (n : Nat) : 2 ^ n = 2 ^ (n % 32) * BB ^ (n / 32) := by
  rw [show BB = 2 ^ 32 from rfl, ← Nat.pow_mul, ← Nat.pow_add, Nat.mod_add_div]
theorem shl_nat {x k : Nat} (hk : k < 32) (hx : x < 4294967296) : IntKind.u64.wrap ((x : Int) * 2 ^ min k (kb .u64)) = ((x * 2 ^ k : Nat) : Int) := by
  have h1 := pow_lt32 hk
  have h2 : x * 2 ^ k ≤ 4294967296 * 2147483648 := Nat.mul_le_mul (Nat.le_of_lt hx) h1
  rw [show min k (kb .u64) = k from Nat.min_eq_left (by show k ≤ 64; omega)]
  have e : (x : Int) * 2 ^ k = ((x * 2 ^ k : Nat) : Int) := by push_cast; rfl
  rw [e]
  exact wrapu64 (by omega) (by omega)
theorem left_or {h x k : Nat} (hk : k < 32) (hx : x < 4294967296) (hh : h < 2 ^ k) : IntKind.u32.wrap ((BitVec.ofInt (kb .u32) (h : Int) ||| BitVec.ofInt (kb .u32) ((x * 2 ^ k % 4294967296 : Nat) : Int)).toNat : Int) = ((h + x * 2 ^ k % 4294967296 : Nat) : Int) := by
  have h1 := pow_lt32 hk
  rw [or32b (by omega) (Nat.mod_lt _ (by decide)), (left_word hk hx).2, or_add hh]
theorem left_sum {h x k : Nat} (hk : k < 32) (hx : x < 4294967296) (hh : h < 2 ^ k) : h + x * 2 ^ k % 4294967296 < 4294967296 := by
  rw [(left_word hk hx).2]
  have hp := pow_split hk
  have h3 : x % 2 ^ (32 - k) < 2 ^ (32 - k) := Nat.mod_lt _ (Nat.pow_pos (by decide))
  have h4 : (x % 2 ^ (32 - k) + 1) * 2 ^ k ≤ 2 ^ (32 - k) * 2 ^ k := Nat.mul_le_mul_right _ h3
  rw [Nat.add_mul, Nat.mul_comm (2 ^ (32 - k)), hp] at h4
  omega
theorem left_spec (m : Bool) (a : List Nat) (n : Nat) (ha : InR a) (la : a.length < 2 ^ 38) (hn : n < 2 ^ 38) : denP E 66 [.lst m (a.map wd), .int .i64 n] = some (.ret (.lst (decide (a.length = 0)) ((dig (val a * 2 ^ n)).map wd))) := by
  refine denP_eq E66 rfl (by simp [AV.pureL, AV.pure, pure_wd]) ?_
  by_cases h0 : a.length = 0
  · obtain rfl := List.length_eq_zero_iff.1 h0
    rw [val_nil, Nat.zero_mul, dig_zero]
    simp (maxSteps := 4000000) (disch := omega) only [go_sem, ↓reduceIte, Nat.reduceAdd, Nat.reduceSub, Nat.reduceMul, Nat.reduceEqDiff, reduceCtorEq, Int.reduceAdd, Int.reduceLT, Int.reduceLE, Int.reduceToNat, Int.reduceNeg, Int.reduceSub, ← List.map_take, ← List.map_drop, wrap64, wrapu64, wrapu32, ← Int.natCast_add, ← Int.natCast_mul, cast_succ, wrapu32_nat, shr32, reps_wd, map_set_wd, List.length_set, zs_len, Try.f66]
  · have e1 : (n : Int).tdiv 32 = ((n / 32 : Nat) : Int) := rfl
    have e2 : (n : Int).tmod 32 = ((n % 32 : Nat) : Int) := rfl
    have hpow := pow32 n
    generalize hq : n / 32 = q at *
    generalize hk : n % 32 = k at *
    have hk' : k < 32 := by omega
    have hq' : q < 2 ^ 38 := by omega
    rw [decide_eq_false h0]
    simp (maxSteps := 4000000) (disch := omega) only [go_sem, ↓reduceIte, Nat.reduceAdd, Nat.reduceSub, Nat.reduceMul, Nat.reduceEqDiff, reduceCtorEq, Int.reduceAdd, Int.reduceLT, Int.reduceLE, Int.reduceToNat, Int.reduceNeg, Int.reduceSub, ← List.map_take, ← List.map_drop, wrap64, wrapu64, wrapu32, ← Int.natCast_add, ← Int.natCast_mul, cast_succ, wrapu32_nat, shr32, reps_wd, map_set_wd, List.length_set, zs_len, Try.f66, e1, e2]
    refine W_loopS (fun j sl H nx => ∃ (i : Nat) (o : List Nat), (∃ g : Nat → AV, sl = [g 0, .int .i64 n, g 2, g 3, g 4, .ref 0 0 (q + a.length + 1), .int .u64 k, g 7, g 8, g 9, g 10, g 11, g 12, g 13, g 14, g 15, g 16, g 17, g 18, g 19, g 20, g 21, g 22, .lst m (a.map wd), .int .i64 a.length, .int .i64 i, g 26, g 27, g 28, g 29, g 30, g 31, g 32, g 33, g 34, g 35, g 36, g 37, g 38, g 39, g 40, g 41, g 42, g 43, g 44, g 45, g 46, g 47, g 48, g 49, g 50, g 51, g 52, g 53, g 54, g 55, g 56, g 57]) ∧ nx = 1 ∧
      H 0 = some ⟨o.map wd, false, 1, false⟩ ∧ o.length = q + a.length + 1 ∧ InR o ∧ i + j = a.length ∧ Hd (vp o (q + i + 1) = vp a i * (2 ^ k * BB ^ q)) ∧ Hd (o.getD (q + i) 0 < 2 ^ k) ∧ ∀ t, q + i < t → o.getD t 0 = 0) a.length
      ⟨0, _, garb rfl, rfl, rfl, zs_len _, zs_inR _, by omega, ⟨by rw [zs_vp]; simp [vp]⟩, ⟨by rw [zs_get]; exact Nat.pow_pos (by decide)⟩, fun t _ => zs_get _ t⟩ ?_
    rintro j _ H _ ⟨i, o, ⟨g, rfl⟩, rfl, hH, ho, hr, hi, hv, hh, hz⟩
    by_cases hj : j = 0
    · obtain rfl : i = a.length := by omega
      have hval : val o = val a * 2 ^ n := by rw [val, ho, hv.out, hpow]; rfl
      have ht := trim_spec false o hr (by omega)
      rw [hval] at ht
      clear hv hh hpow
      simp (maxSteps := 4000000) (disch := omega) only [go_sem, ↓reduceIte, Nat.reduceAdd, Nat.reduceSub, Nat.reduceMul, Nat.reduceEqDiff, reduceCtorEq, Int.reduceAdd, Int.reduceLT, Int.reduceLE, Int.reduceToNat, Int.reduceNeg, Int.reduceSub, ← List.map_take, ← List.map_drop, wrap64, wrapu64, wrapu32, ← Int.natCast_add, ← Int.natCast_mul, cast_succ, wrapu32_nat, shr32, reps_wd, map_set_wd, List.length_set, zs_len, hH, ho, List.take_of_length_le, ht]
    · have hx := ha.get i
      have e3 := left_or hk' hx hh.out
      have e4 := left_sum hk' hx hh.out
      have e5 := (left_word hk' hx).1
      have e6 := pow_lt32 hk'
      have e7 := shl_nat hk' hx
      have st := left_step (o := o) hk' hx (by omega) rfl hv.out
      have e8 : a.getD i 0 * 2 ^ k / 4294967296 % 4294967296 = a.getD i 0 * 2 ^ k / 4294967296 := Nat.mod_eq_of_lt (by omega)
      clear hv hh hpow
      simp (maxSteps := 4000000) (disch := omega) only [go_sem, ↓reduceIte, Nat.reduceAdd, Nat.reduceSub, Nat.reduceMul, Nat.reduceEqDiff, reduceCtorEq, Int.reduceAdd, Int.reduceLT, Int.reduceLE, Int.reduceToNat, Int.reduceNeg, Int.reduceSub, ← List.map_take, ← List.map_drop, wrap64, wrapu64, wrapu32, ← Int.natCast_add, ← Int.natCast_mul, cast_succ, wrapu32_nat, shr32, reps_wd, map_set_wd, List.length_set, zs_len, hH, ho, e1, e3, e7, e8]
      refine ⟨j - 1, by omega, i + 1, (o.set (q + i) (o.getD (q + i) 0 + a.getD i 0 * 2 ^ k % 4294967296)).set (q + i + 1) (a.getD i 0 * 2 ^ k / 4294967296), garb rfl, rfl, by rw [List.length_set, List.length_set, ho], (hr.set e4).set (Nat.lt_of_lt_of_le e5 (by show _ ≤ 4294967296; omega)), by omega, ⟨st⟩, ⟨?_⟩, fun t ht => ?_⟩
      · rw [show q + (i + 1) = q + i + 1 by omega, lget_set_self (by rw [List.length_set]; omega)]; exact e5
      · rw [lget_set_ne (by omega), lget_set_ne (by omega)]; exact hz t (by omega)
theorem shifted_walk (m : Bool) (a : List Nat) (k : Nat) (ha : InR a) (la : a.length < 2 ^ 38) (hk' : k < 32) : ∃ o : List Nat, denP E 70 [.lst m (a.map wd), .int .i64 k] = some (.ret (.lst false (o.map wd))) ∧ InR o ∧ o.length = a.length + 1 ∧ val o = val a * 2 ^ k := by
  refine denP_ex E70 rfl (by simp [AV.pureL, AV.pure, pure_wd]) ?_
  simp (maxSteps := 4000000) (disch := omega) only [go_sem, ↓reduceIte, Nat.reduceAdd, Nat.reduceSub, Nat.reduceMul, Nat.reduceEqDiff, reduceCtorEq, Int.reduceAdd, Int.reduceLT, Int.reduceLE, Int.reduceToNat, Int.reduceNeg, Int.reduceSub, ← List.map_take, ← List.map_drop, wrap64, wrapu64, wrapu32, ← Int.natCast_add, ← Int.natCast_mul, cast_succ, wrapu32_nat, shr32, reps_wd, map_set_wd, List.length_set, zs_len, Try.f70]
  refine W_loopS (fun j sl H nx => ∃ (i : Nat) (o : List Nat), (∃ g : Nat → AV, sl = [.lst m (a.map wd), .int .i64 k, g 2, g 3, g 4, .ref 0 0 (a.length + 1), .int .i64 i, g 7, g 8, g 9, g 10, g 11, g 12, g 13, g 14, g 15, g 16, g 17, g 18, g 19, g 20, g 21, g 22, g 23, g 24, g 25, g 26, g 27, g 28, g 29, g 30, g 31, g 32, g 33, g 34, g 35, g 36, g 37, g 38, g 39, g 40, g 41]) ∧ nx = 1 ∧
    H 0 = some ⟨o.map wd, false, 1, false⟩ ∧ o.length = a.length + 1 ∧ InR o ∧ i + j = a.length ∧ Hd (vp o (0 + i + 1) = vp a i * (2 ^ k * BB ^ 0)) ∧ Hd (o.getD (0 + i) 0 < 2 ^ k) ∧ ∀ t, i < t → o.getD t 0 = 0) a.length
    ⟨0, _, garb rfl, rfl, rfl, zs_len _, zs_inR _, by omega, ⟨by rw [zs_vp]; simp [vp]⟩, ⟨by rw [zs_get]; exact Nat.pow_pos (by decide)⟩, fun t _ => zs_get _ t⟩ ?_
  rintro j _ H _ ⟨i, o, ⟨g, rfl⟩, rfl, hH, ho, hr, hi, hv, hh, hz⟩
  by_cases hj : j = 0
  · obtain rfl : i = a.length := by omega
    have hval : val o = val a * 2 ^ k := by
      have := hv.out
      rw [Nat.pow_zero, Nat.mul_one, Nat.zero_add] at this
      rw [val, ho, this]; rfl
    clear hv hh
    simp (maxSteps := 4000000) (disch := omega) only [go_sem, ↓reduceIte, Nat.reduceAdd, Nat.reduceSub, Nat.reduceMul, Nat.reduceEqDiff, reduceCtorEq, Int.reduceAdd, Int.reduceLT, Int.reduceLE, Int.reduceToNat, Int.reduceNeg, Int.reduceSub, ← List.map_take, ← List.map_drop, wrap64, wrapu64, wrapu32, ← Int.natCast_add, ← Int.natCast_mul, cast_succ, wrapu32_nat, shr32, reps_wd, map_set_wd, List.length_set, zs_len, hH, ho, List.take_of_length_le]
    exact ⟨o, rfl, hr, ho, hval⟩
  · have hx := ha.get i
    have hh' := hh.out
    rw [Nat.zero_add] at hh'
    have e3 := left_or hk' hx hh'
    have e4 := left_sum hk' hx hh'
    have e5 := (left_word hk' hx).1
    have e6 := pow_lt32 hk'
    have e7 := shl_nat hk' hx
    have st := left_step (o := o) (q := 0) hk' hx (by omega) rfl hv.out
    simp only [Nat.zero_add] at st
    have e8 : a.getD i 0 * 2 ^ k / 4294967296 % 4294967296 = a.getD i 0 * 2 ^ k / 4294967296 := Nat.mod_eq_of_lt (by omega)
    have e9 := and_low (n := a.getD i 0 * 2 ^ k) (by
      have : a.getD i 0 * 2 ^ k ≤ 4294967296 * 2147483648 := Nat.mul_le_mul (Nat.le_of_lt hx) e6
      omega)
    have e10 : a.getD i 0 * 2 ^ k % 4294967296 % 4294967296 = a.getD i 0 * 2 ^ k % 4294967296 := Nat.mod_mod _ _
    clear hv hh hh'
    simp (maxSteps := 4000000) (disch := omega) only [go_sem, ↓reduceIte, Nat.reduceAdd, Nat.reduceSub, Nat.reduceMul, Nat.reduceEqDiff, reduceCtorEq, Int.reduceAdd, Int.reduceLT, Int.reduceLE, Int.reduceToNat, Int.reduceNeg, Int.reduceSub, ← List.map_take, ← List.map_drop, wrap64, wrapu64, wrapu32, ← Int.natCast_add, ← Int.natCast_mul, cast_succ, wrapu32_nat, shr32, reps_wd, map_set_wd, List.length_set, zs_len, hH, ho, e3, e7, e8, e9, e10]
    refine ⟨j - 1, by omega, i + 1, (o.set i (o.getD i 0 + a.getD i 0 * 2 ^ k % 4294967296)).set (i + 1) (a.getD i 0 * 2 ^ k / 4294967296), garb rfl, rfl, by rw [List.length_set, List.length_set, ho], (hr.set e4).set (Nat.lt_of_lt_of_le e5 (by show _ ≤ 4294967296; omega)), by omega, ⟨by simpa using st⟩, ⟨?_⟩, fun t ht => ?_⟩
    · rw [lget_set_self (by rw [List.length_set]; omega)]; exact e5
    · rw [lget_set_ne (by omega), lget_set_ne (by omega)]; exact hz t (by omega)
theorem shifted_open (m : Bool) (a : List Nat) (k : Nat) (ha : InR a) (la : a.length < 2 ^ 38) (hk' : k < 32) (h : Heap) (nx : Nat) : ∃ (o : List Nat) (h' : Heap), denO E 70 [.lst m (a.map wd), .int .i64 k] h nx = some (.ret (.ref nx 0 (a.length + 1)), h', nx + 1) ∧
    h' nx = some ⟨o.map wd, false, 1, false⟩ ∧ (∀ j, j ≠ nx → h' j = h j) ∧ InR o ∧ o.length = a.length + 1 ∧ val o = val a * 2 ^ k := by
  have key : ∃ v h' n, denO E 70 [.lst m (a.map wd), .int .i64 k] h nx = some (.ret v, h', n) ∧ ∃ o : List Nat, v = .ref nx 0 (a.length + 1) ∧ n = nx + 1 ∧ h' nx = some ⟨o.map wd, false, 1, false⟩ ∧ (∀ j, j ≠ nx → h' j = h j) ∧ InR o ∧ o.length = a.length + 1 ∧ val o = val a * 2 ^ k := by
    refine denO_intro E70 rfl ?_
    simp (maxSteps := 4000000) (disch := omega) only [go_sem, ↓reduceIte, Nat.reduceAdd, Nat.reduceSub, Nat.reduceMul, Nat.reduceEqDiff, reduceCtorEq, Int.reduceAdd, Int.reduceLT, Int.reduceLE, Int.reduceToNat, Int.reduceNeg, Int.reduceSub, ← List.map_take, ← List.map_drop, wrap64, wrapu64, wrapu32, ← Int.natCast_add, ← Int.natCast_mul, cast_succ, wrapu32_nat, shr32, reps_wd, map_set_wd, List.length_set, zs_len, Try.f70]
    refine W_loopS (fun j sl H n => ∃ (i : Nat) (o : List Nat), (∃ g : Nat → AV, sl = [.lst m (a.map wd), .int .i64 k, g 2, g 3, g 4, .ref nx 0 (a.length + 1), .int .i64 i, g 7, g 8, g 9, g 10, g 11, g 12, g 13, g 14, g 15, g 16, g 17, g 18, g 19, g 20, g 21, g 22, g 23, g 24, g 25, g 26, g 27, g 28, g 29, g 30, g 31, g 32, g 33, g 34, g 35, g 36, g 37, g 38, g 39, g 40, g 41]) ∧ n = nx + 1 ∧
      H nx = some ⟨o.map wd, false, 1, false⟩ ∧ Hd (∀ j, j ≠ nx → H j = h j) ∧ o.length = a.length + 1 ∧ InR o ∧ i + j = a.length ∧ Hd (vp o (0 + i + 1) = vp a i * (2 ^ k * BB ^ 0)) ∧ Hd (o.getD (0 + i) 0 < 2 ^ k) ∧ ∀ t, i < t → o.getD t 0 = 0) a.length
      ⟨0, _, garb rfl, rfl, upd_same, ⟨fun j hj => upd_ne hj⟩, zs_len _, zs_inR _, by omega, ⟨by rw [zs_vp]; simp [vp]⟩, ⟨by rw [zs_get]; exact Nat.pow_pos (by decide)⟩, fun t _ => zs_get _ t⟩ ?_
    rintro j _ H _ ⟨i, o, ⟨g, rfl⟩, rfl, hH, hF, ho, hr, hi, hv, hh, hz⟩
    by_cases hj : j = 0
    · obtain rfl : i = a.length := by omega
      have hval : val o = val a * 2 ^ k := by
        have := hv.out
        rw [Nat.pow_zero, Nat.mul_one, Nat.zero_add] at this
        rw [val, ho, this]; rfl
      clear hv hh
      simp (maxSteps := 4000000) (disch := omega) only [go_sem, ↓reduceIte, Nat.reduceAdd, Nat.reduceSub, Nat.reduceMul, Nat.reduceEqDiff, reduceCtorEq, Int.reduceAdd, Int.reduceLT, Int.reduceLE, Int.reduceToNat, Int.reduceNeg, Int.reduceSub, ← List.map_take, ← List.map_drop, wrap64, wrapu64, wrapu32, ← Int.natCast_add, ← Int.natCast_mul, cast_succ, wrapu32_nat, shr32, reps_wd, map_set_wd, List.length_set, zs_len, hH, ho, List.take_of_length_le]
      exact ⟨o, rfl, hF.out, hr, ho, hval⟩
    · have hx := ha.get i
      have hh' := hh.out
      rw [Nat.zero_add] at hh'
      have e3 := left_or hk' hx hh'
      have e4 := left_sum hk' hx hh'
      have e5 := (left_word hk' hx).1
      have e6 := pow_lt32 hk'
      have e7 := shl_nat hk' hx
      have st := left_step (o := o) (q := 0) hk' hx (by omega) rfl hv.out
      simp only [Nat.zero_add] at st
      have e8 : a.getD i 0 * 2 ^ k / 4294967296 % 4294967296 = a.getD i 0 * 2 ^ k / 4294967296 := Nat.mod_eq_of_lt (by omega)
      have e9 := and_low (n := a.getD i 0 * 2 ^ k) (by
        have : a.getD i 0 * 2 ^ k ≤ 4294967296 * 2147483648 := Nat.mul_le_mul (Nat.le_of_lt hx) e6
        omega)
      have e10 : a.getD i 0 * 2 ^ k % 4294967296 % 4294967296 = a.getD i 0 * 2 ^ k % 4294967296 := Nat.mod_mod _ _
      clear hv hh hh'
      simp (maxSteps := 4000000) (disch := omega) only [go_sem, ↓reduceIte, Nat.reduceAdd, Nat.reduceSub, Nat.reduceMul, Nat.reduceEqDiff, reduceCtorEq, Int.reduceAdd, Int.reduceLT, Int.reduceLE, Int.reduceToNat, Int.reduceNeg, Int.reduceSub, ← List.map_take, ← List.map_drop, wrap64, wrapu64, wrapu32, ← Int.natCast_add, ← Int.natCast_mul, cast_succ, wrapu32_nat, shr32, reps_wd, map_set_wd, List.length_set, zs_len, hH, ho, e3, e7, e8, e9, e10]
      refine ⟨j - 1, by omega, i + 1, (o.set i (o.getD i 0 + a.getD i 0 * 2 ^ k % 4294967296)).set (i + 1) (a.getD i 0 * 2 ^ k / 4294967296), garb rfl, rfl, ⟨fun t ht => ?_⟩, by rw [List.length_set, List.length_set, ho], (hr.set e4).set (Nat.lt_of_lt_of_le e5 (by show _ ≤ 4294967296; omega)), by omega, ⟨by simpa using st⟩, ⟨?_⟩, fun t ht => ?_⟩
      · rw [if_neg ht]; exact hF.out t ht
      · rw [lget_set_self (by rw [List.length_set]; omega)]; exact e5
      · rw [lget_set_ne (by omega), lget_set_ne (by omega)]; exact hz t (by omega)
  obtain ⟨v, h', n, h1, o, rfl, rfl, h2, h3, h4, h5, h6⟩ := key
  exact ⟨o, h', h1, h2, h3, h4, h5, h6⟩
end Go.Proofs.Ytpfcijgcjghgeaa

/- Walks: rows of words moved to the right. (Own work of this repo.) -/
namespace Go.Proofs.Ytpfcijgcjghgeaa
open Vm
set_option maxRecDepth 10000

theorem right1_spec (x : Nat) : denP E 83 [.int .u32 x] = some (.ret (.bool (!decide (x = 0)))) := by
  refine denP_eq E83 rfl (by simp [AV.pureL, AV.pure]) ?_
  by_cases h : x = 0
  · subst h; simp (maxSteps := 4000000) (disch := omega) only [go_sem, ↓reduceIte, Nat.reduceAdd, Nat.reduceSub, Nat.reduceMul, Nat.reduceEqDiff, reduceCtorEq, Int.reduceAdd, Int.reduceLT, Int.reduceLE, Int.reduceToNat, Int.reduceNeg, Int.reduceSub, ← List.map_take, ← List.map_drop, wrap64, wrapu64, wrapu32, Try.f83]
  · simp (maxSteps := 4000000) (disch := omega) only [go_sem, ↓reduceIte, Nat.reduceAdd, Nat.reduceSub, Nat.reduceMul, Nat.reduceEqDiff, reduceCtorEq, Int.reduceAdd, Int.reduceLT, Int.reduceLE, Int.reduceToNat, Int.reduceNeg, Int.reduceSub, ← List.map_take, ← List.map_drop, wrap64, wrapu64, wrapu32, Try.f83]
theorem index_walk (m : Bool) (a : List Nat) (la : a.length < 2 ^ 60) : ∃ r : Int, denP E 87 [.lst m (a.map wd), .fn 83 [] []] = some (.ret (.int .i64 r)) ∧ (0 ≤ r ↔ vp a a.length ≠ 0) := by
  refine denP_ex E87 rfl (by simp [AV.pureL, AV.pure, pure_wd]) ?_
  simp (maxSteps := 4000000) (disch := omega) only [go_sem, ↓reduceIte, Nat.reduceAdd, Nat.reduceSub, Nat.reduceMul, Nat.reduceEqDiff, reduceCtorEq, Int.reduceAdd, Int.reduceLT, Int.reduceLE, Int.reduceToNat, Int.reduceNeg, Int.reduceSub, ← List.map_take, ← List.map_drop, wrap64, wrapu64, wrapu32, ← Int.natCast_add, ← Int.natCast_mul, cast_succ, wrapu32_nat, shr32, reps_wd, map_set_wd, List.length_set, zs_len, Try.f87]
  refine W_loopS (fun j sl H nx => ∃ i : Nat, (∃ g : Nat → AV, sl = [.lst m (a.map wd), .fn 83 [] [], g 2, g 3, g 4, g 5, g 6, .int .i64 a.length, .int .i64 i, g 9, g 10, g 11, g 12, g 13, g 14, g 15, g 16, g 17, g 18]) ∧ i + j = a.length ∧ ∀ t, t < i → a.getD t 0 = 0) a.length ⟨0, garb rfl, by omega, by omega⟩ ?_
  rintro j _ H nx ⟨i, ⟨g, rfl⟩, hi, hz⟩
  by_cases hj : j = 0
  · have h0 : vp a a.length = 0 := (vp_nz _).2 fun t ht => hz t (by omega)
    simp (maxSteps := 4000000) (disch := omega) only [go_sem, ↓reduceIte, Nat.reduceAdd, Nat.reduceSub, Nat.reduceMul, Nat.reduceEqDiff, reduceCtorEq, Int.reduceAdd, Int.reduceLT, Int.reduceLE, Int.reduceToNat, Int.reduceNeg, Int.reduceSub, ← List.map_take, ← List.map_drop, wrap64, wrapu64, wrapu32, ← Int.natCast_add, ← Int.natCast_mul, cast_succ, wrapu32_nat, shr32, reps_wd, map_set_wd, List.length_set, zs_len]
    exact ⟨-1, rfl, by omega, fun h => absurd h0 h⟩
  · by_cases h : a.getD i 0 = 0
    · have h1 := right1_spec (a.getD i 0)
      rw [decide_eq_true h, Bool.not_true] at h1
      simp (maxSteps := 4000000) (disch := omega) only [go_sem, ↓reduceIte, Nat.reduceAdd, Nat.reduceSub, Nat.reduceMul, Nat.reduceEqDiff, reduceCtorEq, Int.reduceAdd, Int.reduceLT, Int.reduceLE, Int.reduceToNat, Int.reduceNeg, Int.reduceSub, ← List.map_take, ← List.map_drop, wrap64, wrapu64, wrapu32, ← Int.natCast_add, ← Int.natCast_mul, cast_succ, wrapu32_nat, shr32, reps_wd, map_set_wd, List.length_set, zs_len, h1]
      refine ⟨j - 1, by omega, i + 1, garb rfl, by omega, fun t ht => ?_⟩
      by_cases hti : t = i
      · subst hti; exact h
      · exact hz t (by omega)
    · have h1 := right1_spec (a.getD i 0)
      rw [decide_eq_false h, Bool.not_false] at h1
      simp (maxSteps := 4000000) (disch := omega) only [go_sem, ↓reduceIte, Nat.reduceAdd, Nat.reduceSub, Nat.reduceMul, Nat.reduceEqDiff, reduceCtorEq, Int.reduceAdd, Int.reduceLT, Int.reduceLE, Int.reduceToNat, Int.reduceNeg, Int.reduceSub, ← List.map_take, ← List.map_drop, wrap64, wrapu64, wrapu32, ← Int.natCast_add, ← Int.natCast_mul, cast_succ, wrapu32_nat, shr32, reps_wd, map_set_wd, List.length_set, zs_len, h1]
      exact ⟨i, rfl, fun _ e => h ((vp_nz _).1 e i (by omega)), fun _ => by omega⟩
theorem contains_spec (m : Bool) (a : List Nat) (la : a.length < 2 ^ 60) : denP E 82 [.lst m (a.map wd), .fn 83 [] []] = some (.ret (.bool (!decide (vp a a.length = 0)))) := by
  obtain ⟨r, h1, h2⟩ := index_walk m a la
  refine denP_eq E82 rfl (by simp [AV.pureL, AV.pure, pure_wd]) ?_
  by_cases h : vp a a.length = 0
  · have : ¬ 0 ≤ r := fun h' => h2.1 h' h
    rw [decide_eq_true h]
    simp (maxSteps := 4000000) (disch := omega) only [go_sem, ↓reduceIte, Nat.reduceAdd, Nat.reduceSub, Nat.reduceMul, Nat.reduceEqDiff, reduceCtorEq, Int.reduceAdd, Int.reduceLT, Int.reduceLE, Int.reduceToNat, Int.reduceNeg, Int.reduceSub, ← List.map_take, ← List.map_drop, wrap64, wrapu64, wrapu32, ← Int.natCast_add, ← Int.natCast_mul, cast_succ, wrapu32_nat, shr32, reps_wd, map_set_wd, List.length_set, zs_len, Try.f82, h1]
  · have : 0 ≤ r := h2.2 h
    rw [decide_eq_false h]
    simp (maxSteps := 4000000) (disch := omega) only [go_sem, ↓reduceIte, Nat.reduceAdd, Nat.reduceSub, Nat.reduceMul, Nat.reduceEqDiff, reduceCtorEq, Int.reduceAdd, Int.reduceLT, Int.reduceLE, Int.reduceToNat, Int.reduceNeg, Int.reduceSub, ← List.map_take, ← List.map_drop, wrap64, wrapu64, wrapu32, ← Int.natCast_add, ← Int.natCast_mul, cast_succ, wrapu32_nat, shr32, reps_wd, map_set_wd, List.length_set, zs_len, Try.f82, h1]
theorem getD_range (f : Nat → Nat) {n i : Nat} (h : i < n) : ((List.range n).map f).getD i 0 = f i := by
  rw [List.getD_eq_getElem?_getD, List.getElem?_map, List.getElem?_range h]; rfl
/-- What the bits below a place are. -/
theorem mask_low {x k : Nat} (hk : k < 32) (hx : x < 4294967296) : IntKind.u32.wrap ((BitVec.ofInt (kb .u32) (x : Int) &&& BitVec.ofInt (kb .u32) (IntKind.u32.wrap (IntKind.u32.wrap (1 * 2 ^ min k (kb .u32)) - 1))).toNat : Int) = ((x % 2 ^ k : Nat) : Int) := by
  have h1 := pow_lt32 hk
  have h0 : 0 < 2 ^ k := Nat.pow_pos (by decide)
  rw [show min k (kb .u32) = k from Nat.min_eq_left (by show k ≤ 32; omega)]
  have e : (1 : Int) * 2 ^ k = ((2 ^ k : Nat) : Int) := by push_cast; rw [Int.one_mul]
  rw [e, wrapu32 (x := ((2 ^ k : Nat) : Int)) (by omega) (by omega)]
  have e2 : ((2 ^ k : Nat) : Int) - 1 = ((2 ^ k - 1 : Nat) : Int) := by omega
  rw [e2, wrapu32 (x := ((2 ^ k - 1 : Nat) : Int)) (by omega) (by omega), and32b hx (by omega), Nat.and_two_pow_sub_one_eq_mod]
theorem shl32 {y : Nat} (h : y < 4294967296) : IntKind.u64.wrap ((y : Int) * 2 ^ min 32 (kb .u64)) = ((y * 4294967296 : Nat) : Int) := by
  rw [show min 32 (kb .u64) = 32 from rfl, show (y : Int) * 2 ^ 32 = ((y * 4294967296 : Nat) : Int) by rw [Int.natCast_mul]; rfl]
  exact wrapu64 (by omega) (by omega)
theorem or_high {x y : Nat} (hx : x < 4294967296) (hy : y < 4294967296) : IntKind.u64.wrap ((BitVec.ofInt (kb .u64) (x : Int) ||| BitVec.ofInt (kb .u64) ((y * 4294967296 : Nat) : Int)).toNat : Int) = ((x + y * 4294967296 : Nat) : Int) := by
  rw [or64 (by omega) (by omega), show (4294967296 : Nat) = 2 ^ 32 from rfl, or_add hx]
theorem shr_k {x k : Nat} (hk : k < 32) : (x : Int).fdiv (2 ^ min k (kb .u64)) = ((x / 2 ^ k : Nat) : Int) := by
  rw [shr_nat, show min k (kb .u64) = k from Nat.min_eq_left (by show k ≤ 64; omega)]
theorem val_nz {a : List Nat} (h : Norm a) (h0 : a.length ≠ 0) : val a ≠ 0 := by
  have := norm_pos h (fun e => h0 (by rw [e]; rfl)); omega
theorem right_spec (m : Bool) (a : List Nat) (n : Nat) (hn : Norm a) (la : a.length < 2 ^ 38) (ln : n < 2 ^ 38) : denP E 67 [.lst m (a.map wd), .int .i64 n] = some (.ret (.tup [.lst (decide (a.length ≤ n / 32)) ((dig (val a / 2 ^ n)).map wd), .bool (!decide (val a % 2 ^ n = 0))])) := by
  have ha := hn.1
  refine denP_eq E67 rfl (by simp [AV.pureL, AV.pure, pure_wd]) ?_
  have e1 : (n : Int).tdiv 32 = ((n / 32 : Nat) : Int) := rfl
  have e2 : (n : Int).tmod 32 = ((n % 32 : Nat) : Int) := rfl
  have hpow := pow32 n
  generalize hq : n / 32 = q at *
  generalize hk : n % 32 = k at *
  have hk' : k < 32 := by omega
  have hq' : q < 2 ^ 38 := by omega
  by_cases hql : a.length ≤ q
  · have hlt : val a < 2 ^ n := by
      have h1 := val_lt ha
      have h2 : BB ^ a.length ≤ BB ^ q := Nat.pow_le_pow_right (by decide) hql
      have h3 : 1 * BB ^ q ≤ 2 ^ k * BB ^ q := Nat.mul_le_mul_right _ (Nat.pow_pos (by decide))
      rw [hpow]; omega
    rw [decide_eq_true hql, Nat.div_eq_of_lt hlt, Nat.mod_eq_of_lt hlt, dig_zero]
    by_cases h0 : a.length = 0
    · have : val a = 0 := by rw [List.length_eq_zero_iff.1 h0]; rfl
      rw [decide_eq_true this]
      simp (maxSteps := 4000000) (disch := omega) only [go_sem, ↓reduceIte, Nat.reduceAdd, Nat.reduceSub, Nat.reduceMul, Nat.reduceEqDiff, reduceCtorEq, Int.reduceAdd, Int.reduceLT, Int.reduceLE, Int.reduceToNat, Int.reduceNeg, Int.reduceSub, ← List.map_take, ← List.map_drop, wrap64, wrapu64, wrapu32, ← Int.natCast_add, ← Int.natCast_mul, cast_succ, wrapu32_nat, shr32, reps_wd, map_set_wd, List.length_set, zs_len, Try.f67, e1, e2]
    · rw [decide_eq_false (val_nz hn h0)]
      simp (maxSteps := 4000000) (disch := omega) only [go_sem, ↓reduceIte, Nat.reduceAdd, Nat.reduceSub, Nat.reduceMul, Nat.reduceEqDiff, reduceCtorEq, Int.reduceAdd, Int.reduceLT, Int.reduceLE, Int.reduceToNat, Int.reduceNeg, Int.reduceSub, ← List.map_take, ← List.map_drop, wrap64, wrapu64, wrapu32, ← Int.natCast_add, ← Int.natCast_mul, cast_succ, wrapu32_nat, shr32, reps_wd, map_set_wd, List.length_set, zs_len, Try.f67, e1, e2]
  · rw [decide_eq_false hql]
    obtain ⟨b, hb⟩ : ∃ b, b = a.drop q := ⟨_, rfl⟩
    have hbl : b.length = a.length - q := by rw [hb, List.length_drop]
    have hbr : InR b := by rw [hb]; exact ha.drop q
    have hsplit := val_split (a := a) (q := q) (by omega)
    rw [← hb] at hsplit
    have htl : (a.take q).length = q := by rw [List.length_take]; omega
    have hc := contains_spec m (a.take q) (by omega)
    rw [htl, vp_congr q (fun i hi => getD_take hi)] at hc
    have b0 := hbr.get 0
    have em := mask_low hk' b0
    have hb0 : b[0]? = some (b.getD 0 0) := by
      rw [List.getD_eq_getElem?_getD, List.getElem?_eq_getElem (by omega)]; rfl
    have hp0 : 0 < BB ^ q := Nat.pow_pos (by decide)
    have hp1 : 0 < 2 ^ k := Nat.pow_pos (by decide)
    have hvq := vp_lt ha q
    -- what is handed back
    have fin : ∀ o : List Nat, o.length = b.length → (∀ i, i < b.length → o.getD i 0 = (b.getD i 0 + b.getD (i + 1) 0 * 4294967296) / 2 ^ k % 4294967296) →
        val o = val a / 2 ^ n ∧ (val a % 2 ^ n = 0 ↔ vp a q = 0 ∧ b.getD 0 0 % 2 ^ k = 0) := by
      intro o ho hf
      have h1 := right_val hk' hbr ho hf
      have h2 : b.getD 0 0 % 2 ^ k < 2 ^ k := Nat.mod_lt _ hp1
      generalize b.getD 0 0 % 2 ^ k = r at *
      have h3 : val a = (vp a q + BB ^ q * r) + 2 ^ n * val o := by
        rw [hsplit, h1, hpow]; generalize BB ^ q = z; generalize 2 ^ k = w; generalize val o = v; grind
      have h4 : vp a q + BB ^ q * r < 2 ^ n := by
        have : BB ^ q * (r + 1) ≤ BB ^ q * 2 ^ k := Nat.mul_le_mul_left _ h2
        rw [hpow, Nat.mul_comm (2 ^ k)]
        rw [Nat.mul_add] at this; omega
      constructor
      · rw [h3, Nat.add_mul_div_left _ _ (Nat.pow_pos (by decide)), Nat.div_eq_of_lt h4, Nat.zero_add]
      · rw [h3, Nat.add_mul_mod_self_left, Nat.mod_eq_of_lt h4, Nat.add_eq_zero_iff, Nat.mul_eq_zero]
        constructor
        · rintro ⟨x, y⟩; exact ⟨x, y.resolve_left (by omega)⟩
        · rintro ⟨x, y⟩; exact ⟨x, .inr y⟩
    have hlost : val a % 2 ^ n = 0 ↔ vp a q = 0 ∧ b.getD 0 0 % 2 ^ k = 0 := by
      refine (fin ((List.range b.length).map fun i => (b.getD i 0 + b.getD (i + 1) 0 * 4294967296) / 2 ^ k % 4294967296) (by rw [List.length_map, List.length_range]) fun i hi => ?_).2
      exact getD_range _ hi
    have hb' : a.drop q = b := hb.symm
    have e3 : (a.length : Int) - q = (b.length : Int) := by omega
    simp (maxSteps := 4000000) (disch := omega) only [go_sem, ↓reduceIte, Nat.reduceAdd, Nat.reduceSub, Nat.reduceMul, Nat.reduceEqDiff, reduceCtorEq, Int.reduceAdd, Int.reduceLT, Int.reduceLE, Int.reduceToNat, Int.reduceNeg, Int.reduceSub, ← List.map_take, ← List.map_drop, wrap64, wrapu64, wrapu32, ← Int.natCast_add, ← Int.natCast_mul, cast_succ, wrapu32_nat, shr32, reps_wd, map_set_wd, List.length_set, zs_len, Try.f67, e1, e2, cutBounds, hc, List.take_of_length_le, hb']
    refine wantK_mono (Q := fun e σ => e = .norm ∧ (∃ g : Nat → AV, σ.sl = [.lst m (b.map wd), g 1, g 2, g 3, g 4, g 5, .bool (!decide (val a % 2 ^ n = 0)), .int .u64 k, g 8, g 9, g 10, g 11, g 12, g 13, g 14, g 15, g 16, g 17, g 18, g 19, g 20, g 21, g 22, g 23, g 24, g 25, g 26, g 27, g 28, g 29, g 30, g 31, g 32, g 33, g 34, g 35, g 36, g 37, g 38, g 39, g 40, g 41, g 42, g 43, g 44, g 45, g 46, g 47, g 48, g 49, g 50, g 51, g 52, g 53, g 54, g 55, g 56, g 57, g 58, g 59, g 60, g 61, g 62, g 63, g 64, g 65, g 66, g 67, g 68, g 69, g 70, g 71, g 72, g 73, g 74, g 75, g 76, g 77, g 78, g 79]) ∧ σ.nx = 0 ∧ σ.h = Heap.empty) ?_ ?_
    · rintro e ⟨sl, h, nx⟩ ⟨rfl, ⟨g, hs⟩, rfl, rfl⟩
      dsimp only at hs
      subst hs
      generalize (!decide (val a % 2 ^ n = 0)) = lost at *
      have hb2 := hbr
      clear hc em hlost e1 e2 e3 hpow hsplit hvq hn ha
      simp (maxSteps := 4000000) (disch := omega) only [go_sem, ↓reduceIte, Nat.reduceAdd, Nat.reduceSub, Nat.reduceMul, Nat.reduceEqDiff, reduceCtorEq, Int.reduceAdd, Int.reduceLT, Int.reduceLE, Int.reduceToNat, Int.reduceNeg, Int.reduceSub, ← List.map_take, ← List.map_drop, wrap64, wrapu64, wrapu32, ← Int.natCast_add, ← Int.natCast_mul, cast_succ, wrapu32_nat, shr32, reps_wd, map_set_wd, List.length_set, zs_len]
      refine W_loopS (fun j sl H nx => ∃ (i : Nat) (o : List Nat), (∃ g : Nat → AV, sl = [.lst m (b.map wd), g 1, g 2, g 3, g 4, g 5, .bool lost, .int .u64 k, .ref 0 0 b.length, g 9, g 10, g 11, g 12, g 13, g 14, g 15, g 16, g 17, g 18, g 19, g 20, g 21, g 22, g 23, g 24, g 25, g 26, g 27, g 28, g 29, g 30, g 31, g 32, g 33, g 34, g 35, g 36, g 37, g 38, g 39, g 40, g 41, g 42, g 43, g 44, g 45, .lst m (b.map wd), .int .i64 b.length, .int .i64 i, g 49, g 50, g 51, g 52, g 53, g 54, g 55, g 56, g 57, g 58, g 59, g 60, g 61, g 62, g 63, g 64, g 65, g 66, g 67, g 68, g 69, g 70, g 71, g 72, g 73, g 74, g 75, g 76, g 77, g 78, g 79]) ∧ nx = 1 ∧
        H 0 = some ⟨o.map wd, false, 1, false⟩ ∧ o.length = b.length ∧ InR o ∧ i + j = b.length ∧ Hd (∀ t, t < i → o.getD t 0 = (b.getD t 0 + b.getD (t + 1) 0 * 4294967296) / 2 ^ k % 4294967296)) b.length
        ⟨0, _, garb rfl, rfl, rfl, zs_len _, zs_inR _, by omega, ⟨fun t ht => by omega⟩⟩ ?_
      rintro j _ H _ ⟨i, o, ⟨g, rfl⟩, rfl, hH, ho, hr, hi, hv⟩
      by_cases hj : j = 0
      · obtain rfl : i = b.length := by omega
        have hval := (fin o ho hv.out).1
        have ht := trim_spec false o hr (by omega)
        rw [hval] at ht
        clear hv fin
        simp (maxSteps := 4000000) (disch := omega) only [go_sem, ↓reduceIte, Nat.reduceAdd, Nat.reduceSub, Nat.reduceMul, Nat.reduceEqDiff, reduceCtorEq, Int.reduceAdd, Int.reduceLT, Int.reduceLE, Int.reduceToNat, Int.reduceNeg, Int.reduceSub, ← List.map_take, ← List.map_drop, wrap64, wrapu64, wrapu32, ← Int.natCast_add, ← Int.natCast_mul, cast_succ, wrapu32_nat, shr32, reps_wd, map_set_wd, List.length_set, zs_len, hH, ho, List.take_of_length_le, ht]
      · have hx := hbr.get i
        have hy := hbr.get (i + 1)
        have e5 := or_high hx hy
        have e6 := shl32 hy
        obtain ⟨Y, hY⟩ : ∃ Y, Y = b.getD (i + 1) 0 * 4294967296 := ⟨_, rfl⟩
        obtain ⟨X, hX⟩ : ∃ X, X = b.getD i 0 + Y := ⟨_, rfl⟩
        rw [← hY, ← hX] at e5
        rw [← hY] at e6
        clear fin
        have stp : ∀ x : Nat, x = (b.getD i 0 + b.getD (i + 1) 0 * 4294967296) / 2 ^ k % 4294967296 → Hd (∀ t, t < i + 1 → (o.set i x).getD t 0 = (b.getD t 0 + b.getD (t + 1) 0 * 4294967296) / 2 ^ k % 4294967296) := by
          intro x hx
          refine ⟨fun t ht => ?_⟩
          by_cases hti : t = i
          · subst hti; rw [lget_set_self (by omega)]; exact hx
          · rw [lget_set_ne (by omega)]; exact hv.out t (by omega)
        by_cases hlast : i + 1 < b.length
        · simp (maxSteps := 4000000) (disch := omega) only [go_sem, ↓reduceIte, Nat.reduceAdd, Nat.reduceSub, Nat.reduceMul, Nat.reduceEqDiff, reduceCtorEq, Int.reduceAdd, Int.reduceLT, Int.reduceLE, Int.reduceToNat, Int.reduceNeg, Int.reduceSub, ← List.map_take, ← List.map_drop, wrap64, wrapu64, wrapu32, ← Int.natCast_add, ← Int.natCast_mul, cast_succ, wrapu32_nat, shr32, reps_wd, map_set_wd, List.length_set, zs_len, hH, ho, e5, e6, shr_k]
          exact ⟨j - 1, by omega, i + 1, o.set i (X / 2 ^ k % 4294967296), garb rfl, rfl, by rw [List.length_set, ho], hr.set (Nat.mod_lt _ (by decide)), by omega, stp _ (by rw [hX, hY])⟩
        · have h0 := getD_ge (l := b) (i := i + 1) (by omega)
          simp (maxSteps := 4000000) (disch := omega) only [go_sem, ↓reduceIte, Nat.reduceAdd, Nat.reduceSub, Nat.reduceMul, Nat.reduceEqDiff, reduceCtorEq, Int.reduceAdd, Int.reduceLT, Int.reduceLE, Int.reduceToNat, Int.reduceNeg, Int.reduceSub, ← List.map_take, ← List.map_drop, wrap64, wrapu64, wrapu32, ← Int.natCast_add, ← Int.natCast_mul, cast_succ, wrapu32_nat, shr32, reps_wd, map_set_wd, List.length_set, zs_len, hH, ho, shr_k]
          exact ⟨j - 1, by omega, i + 1, o.set i (b.getD i 0 / 2 ^ k % 4294967296), garb rfl, rfl, by rw [List.length_set, ho], hr.set (Nat.mod_lt _ (by decide)), by omega, stp _ (by rw [h0, Nat.zero_mul, Nat.add_zero])⟩
    · by_cases hl : vp a q = 0
      · rw [decide_eq_true hl]
        by_cases hr : b.getD 0 0 % 2 ^ k = 0
        · rw [decide_eq_true (hlost.2 ⟨hl, hr⟩)]
          rw [hr] at em
          clear fin hlost
          simp (maxSteps := 4000000) (disch := omega) only [go_sem, ↓reduceIte, Nat.reduceAdd, Nat.reduceSub, Nat.reduceMul, Nat.reduceEqDiff, reduceCtorEq, Int.reduceAdd, Int.reduceLT, Int.reduceLE, Int.reduceToNat, Int.reduceNeg, Int.reduceSub, ← List.map_take, ← List.map_drop, wrap64, wrapu64, wrapu32, ← Int.natCast_add, ← Int.natCast_mul, cast_succ, wrapu32_nat, shr32, reps_wd, map_set_wd, List.length_set, zs_len, em]
          exact garb rfl
        · rw [decide_eq_false (fun h => hr (hlost.1 h).2)]
          clear fin hlost
          simp (maxSteps := 4000000) (disch := omega) only [go_sem, ↓reduceIte, Nat.reduceAdd, Nat.reduceSub, Nat.reduceMul, Nat.reduceEqDiff, reduceCtorEq, Int.reduceAdd, Int.reduceLT, Int.reduceLE, Int.reduceToNat, Int.reduceNeg, Int.reduceSub, ← List.map_take, ← List.map_drop, wrap64, wrapu64, wrapu32, ← Int.natCast_add, ← Int.natCast_mul, cast_succ, wrapu32_nat, shr32, reps_wd, map_set_wd, List.length_set, zs_len, em]
          exact garb rfl
      · rw [decide_eq_false hl, decide_eq_false (fun h => hl (hlost.1 h).1)]
        clear fin hlost
        simp (maxSteps := 4000000) (disch := omega) only [go_sem, ↓reduceIte, Nat.reduceAdd, Nat.reduceSub, Nat.reduceMul, Nat.reduceEqDiff, reduceCtorEq, Int.reduceAdd, Int.reduceLT, Int.reduceLE, Int.reduceToNat, Int.reduceNeg, Int.reduceSub, ← List.map_take, ← List.map_drop, wrap64, wrapu64, wrapu32, ← Int.natCast_add, ← Int.natCast_mul, cast_succ, wrapu32_nat, shr32, reps_wd, map_set_wd, List.length_set, zs_len]
        exact garb rfl
end Go.Proofs.Ytpfcijgcjghgeaa

/- Walks: an int as a number. (Own work of this repo.) -/
namespace Go.Proofs.Ytpfcijgcjghgeaa
open Vm
set_option maxRecDepth 10000

theorem val_two (m : Nat) : val [m % 4294967296, m / 4294967296] = m := by
  rw [val_cons, val_cons, val_nil, show BB = 4294967296 from rfl]; omega
theorem inR_two {m : Nat} (h : m < 18446744073709551616) : InR [m % 4294967296, m / 4294967296] := by
  intro x hx; simp at hx; rcases hx with rfl | rfl <;> (show _ < 4294967296; omega)
theorem dg_small {z : Int} (h : z.natAbs < 18446744073709551616) : (dg z).length ≤ 2 := by rw [dg_len]; exact h
theorem sg_abs_dec (n : Int) : sg (decide (n < 0)) n.natAbs = n := sg_ng n
theorem of_spec (n : Int) (h1 : -9223372036854775808 ≤ n) (h2 : n < 9223372036854775808) : denP E 12 [.int .i64 n] = some (.ret (I false n)) := by
  obtain ⟨m, hm⟩ : ∃ m : Nat, m = n.natAbs := ⟨_, rfl⟩
  have hd : (dg n).length ≤ 4096 := by have := dg_small (z := n) (by omega); omega
  have hmade := made_spec (decide (n < 0)) false [m % 4294967296, m / 4294967296] (inR_two (by omega)) (by simp) (by simp)
  rw [val_two, hm, sg_abs_dec, ← hm] at hmade
  simp only [RI, fm_of hd, fit_of hd, er_of hd, List.map_cons, List.map_nil, wd] at hmade
  refine denP_eq E12 rfl (by simp [AV.pureL, AV.pure]) ?_
  have e2 : IntKind.u32.wrap (((m : Nat) : Int).fdiv (2 ^ min 32 (kb .u64))) = ((m / 4294967296 : Nat) : Int) := by
    rw [shr32, wrapu32_nat]; omega
  by_cases hn : n < 0
  · have e0 : IntKind.u64.wrap (0 - IntKind.u64.wrap n) = (m : Int) := by rw [IntKind.wrap_u64, IntKind.wrap_u64]; omega
    rw [decide_eq_true hn] at hmade
    simp (maxSteps := 4000000) (disch := omega) only [go_sem, ↓reduceIte, Nat.reduceAdd, Nat.reduceSub, Nat.reduceMul, Nat.reduceEqDiff, reduceCtorEq, Int.reduceAdd, Int.reduceLT, Int.reduceLE, Int.reduceToNat, Int.reduceNeg, Int.reduceSub, ← List.map_take, ← List.map_drop, wrap64, wrapu64, wrapu32, Try.f12, reps, fillAll, refP, elems, List.headD, e0, e2, wrapu32_nat, hmade]
  · have e0 : IntKind.u64.wrap n = (m : Int) := by rw [IntKind.wrap_u64]; omega
    rw [decide_eq_false hn] at hmade
    simp (maxSteps := 4000000) (disch := omega) only [go_sem, ↓reduceIte, Nat.reduceAdd, Nat.reduceSub, Nat.reduceMul, Nat.reduceEqDiff, reduceCtorEq, Int.reduceAdd, Int.reduceLT, Int.reduceLE, Int.reduceToNat, Int.reduceNeg, Int.reduceSub, ← List.map_take, ← List.map_drop, wrap64, wrapu64, wrapu32, Try.f12, reps, fillAll, refP, elems, List.headD, e0, e2, wrapu32_nat, hmade]
theorem rOf_spec (n : Int) (h1 : -9223372036854775808 ≤ n) (h2 : n < 9223372036854775808) : denP E 45 [.int .i64 n] = some (.ret (RM n)) := by
  obtain ⟨m, hm⟩ : ∃ m : Nat, m = n.natAbs := ⟨_, rfl⟩
  have hmake := rMake_z (neg := decide (n < 0)) (nl := false) (w := [m % 4294967296, m / 4294967296]) (z := n) (inR_two (by omega)) (by simp) (by rw [val_two, hm, sg_abs_dec])
  simp only [List.map_cons, List.map_nil, wd] at hmake
  refine denP_eq E45 rfl (by simp [AV.pureL, AV.pure]) ?_
  have e2 : IntKind.u32.wrap (((m : Nat) : Int).fdiv (2 ^ min 32 (kb .u64))) = ((m / 4294967296 : Nat) : Int) := by
    rw [shr32, wrapu32_nat]; omega
  have e3 := and_low (n := m) (by omega)
  have e4 : IntKind.u32.wrap ((m % 4294967296 : Nat) : Int) = ((m % 4294967296 : Nat) : Int) := by rw [wrapu32_nat]; omega
  by_cases hn : n < 0
  · have e0 : (0 : Int) - (n + 1) + 1 = (m : Int) := by omega
    rw [decide_eq_true hn] at hmake
    simp (maxSteps := 4000000) (disch := omega) only [go_sem, ↓reduceIte, Nat.reduceAdd, Nat.reduceSub, Nat.reduceMul, Nat.reduceEqDiff, reduceCtorEq, Int.reduceAdd, Int.reduceLT, Int.reduceLE, Int.reduceToNat, Int.reduceNeg, Int.reduceSub, ← List.map_take, ← List.map_drop, wrap64, wrapu64, wrapu32, Try.f45, reps, fillAll, refP, elems, List.headD, e0, e2, e3, e4, hmake]
  · have e0 : IntKind.u64.wrap n = (m : Int) := by rw [IntKind.wrap_u64]; omega
    rw [decide_eq_false hn] at hmake
    simp (maxSteps := 4000000) (disch := omega) only [go_sem, ↓reduceIte, Nat.reduceAdd, Nat.reduceSub, Nat.reduceMul, Nat.reduceEqDiff, reduceCtorEq, Int.reduceAdd, Int.reduceLT, Int.reduceLE, Int.reduceToNat, Int.reduceNeg, Int.reduceSub, ← List.map_take, ← List.map_drop, wrap64, wrapu64, wrapu32, Try.f45, reps, fillAll, refP, elems, List.headD, e0, e2, e3, e4, hmake]
end Go.Proofs.Ytpfcijgcjghgeaa

/- Walks: Shift. (Own work of this repo.) -/
namespace Go.Proofs.Ytpfcijgcjghgeaa
open Vm
set_option maxRecDepth 10000

theorem floor_neg (y c : Nat) (hc : 0 < c) : (-(y : Int)) / (c : Int) = -((y / c + (if y % c = 0 then 0 else 1) : Nat) : Int) := by
  have h := Nat.div_add_mod y c
  have hm := Nat.mod_lt y hc
  generalize y / c = q at *
  generalize y % c = r at *
  have hy : (y : Int) = c * q + r := by rw [← h]; push_cast; rfl
  have hc' : (0 : Int) < c := by omega
  by_cases h0 : r = 0
  · rw [if_pos h0, hy, h0]
    rw [show -((c : Int) * q + ((0 : Nat) : Int)) = (c : Int) * (-(q : Int)) by rw [Int.mul_neg]; simp, Int.mul_ediv_cancel_left _ (by omega)]
    simp
  · rw [if_neg h0, hy]
    rw [show -((c : Int) * q + r) = (c - r) + (c : Int) * (-(q : Int) - 1) by rw [Int.mul_sub, Int.mul_neg]; omega, Int.add_mul_ediv_left _ _ (by omega), Int.ediv_eq_zero_of_lt (by omega) (by omega)]
    push_cast
    omega
theorem floor_pos (y c : Nat) : (y : Int) / (c : Int) = ((y / c : Nat) : Int) := by push_cast; rfl
theorem shl_abs (x : Int) (n : Nat) : sg (ng x) (x.natAbs * 2 ^ n) = x * 2 ^ n := by
  have e : ((2 ^ n : Nat) : Int) = 2 ^ n := by push_cast; rfl
  unfold sg
  by_cases h : x < 0
  · rw [if_pos (ng_true.2 h)]
    rw [show x * 2 ^ n = -(-x * 2 ^ n) by rw [Int.neg_mul, Int.neg_neg], show -x = ((x.natAbs : Nat) : Int) by omega]
    push_cast; rfl
  · rw [if_neg (by rw [Bool.not_eq_true]; exact ng_false.2 (by omega))]
    rw [show x * 2 ^ n = ((x.natAbs : Nat) : Int) * 2 ^ n by rw [show ((x.natAbs : Nat) : Int) = x by omega]]
    push_cast; rfl
theorem valid_len {x : Int} {k : Nat} (h : (dg x).length ≤ k) : x.natAbs < 2 ^ (32 * k) := by
  have := dg_len.1 h
  rwa [show BB = 2 ^ 32 from rfl, ← Nat.pow_mul] at this
theorem shl_no {x : Int} {n k : Nat} (hx : x ≠ 0) (h : 32 * k ≤ n) : ¬ (dg (x * 2 ^ n)).length ≤ k := by
  intro hl
  have h1 := valid_len hl
  rw [Int.natAbs_mul, Int.natAbs_pow] at h1
  have h4 : 2 ^ (32 * k) ≤ 2 ^ n := Nat.pow_le_pow_right (by decide) h
  have h5 : 1 * 2 ^ n ≤ x.natAbs * 2 ^ n := Nat.mul_le_mul_right _ (by omega)
  rw [Nat.one_mul] at h5
  exact absurd (Nat.lt_of_le_of_lt (Nat.le_trans h4 h5) h1) (Nat.lt_irrefl _)
theorem floor_far {x : Int} {n m k : Nat} (hx : (dg x).length ≤ k) (hn : 32 * k ≤ n) (hm : 32 * k ≤ m) : x / 2 ^ n = x / 2 ^ m := by
  have hv := valid_len hx
  have hv2 : x.natAbs < 2 ^ n := Nat.lt_of_lt_of_le hv (Nat.pow_le_pow_right (by decide) hn)
  have hv1 : x.natAbs < 2 ^ m := Nat.lt_of_lt_of_le hv (Nat.pow_le_pow_right (by decide) hm)
  have p1 : ((2 ^ n : Nat) : Int) = 2 ^ n := by push_cast; rfl
  have p2 : ((2 ^ m : Nat) : Int) = 2 ^ m := by push_cast; rfl
  rw [← p1, ← p2]
  rcases Int.natAbs_eq x with h | h
  · rw [h, floor_pos, floor_pos, Nat.div_eq_of_lt hv1, Nat.div_eq_of_lt hv2]
  · rw [h, floor_neg _ _ (Nat.pow_pos (by decide)), floor_neg _ _ (Nat.pow_pos (by decide)), Nat.div_eq_of_lt hv1, Nat.div_eq_of_lt hv2, Nat.mod_eq_of_lt hv1, Nat.mod_eq_of_lt hv2]
theorem len_ge {x : Int} {k : Nat} (h : BB ^ k ≤ x.natAbs) : k < (dg x).length := by
  rcases Nat.lt_or_ge k (dg x).length with h1 | h1
  · exact h1
  · have := dg_len.1 h1; omega
theorem dig_shl (a n : Nat) : (dig (a * 2 ^ n)).length ≤ (dig a).length + (n / 32 + 1) := by
  have h := dig_mul a (2 ^ n)
  have h2 : (dig (2 ^ n)).length ≤ n / 32 + 1 := by
    rw [dig_len, show BB = 2 ^ 32 from rfl, ← Nat.pow_mul]
    exact Nat.pow_lt_pow_right (by decide) (by omega)
  omega
theorem shift_pos (m : Bool) (x : Int) (n : Nat) (hx : (dg x).length ≤ 4096) (hn : n < 2 ^ 63) : denP E 34 [I m x, .int .i64 n] = some (.ret (RI (decide (x = 0)) (x * 2 ^ n))) := by
  refine denP_eq E34 rfl (by simp [AV.pureL, AV.pure, pure_wd]) ?_
  have h1 := valid_I m x hx
  by_cases h0 : x = 0
  · subst h0
    have e2 : (dg 0).length = 0 := dg_len0.2 rfl
    have e3 : (0 : Int) * 2 ^ n = 0 := Int.zero_mul _
    rw [e3, RI, fit_of (by omega), er_of (by omega), fm_of (by omega), decide_eq_true rfl]
    simp only [I, ng_zero, dg_zero, List.map_nil] at h1
    simp (maxSteps := 4000000) (disch := omega) only [go_sem, ↓reduceIte, Nat.reduceAdd, Nat.reduceSub, Nat.reduceMul, Nat.reduceEqDiff, reduceCtorEq, Int.reduceAdd, Int.reduceLT, Int.reduceLE, Int.reduceToNat, Int.reduceNeg, Int.reduceSub, ← List.map_take, ← List.map_drop, wrap64, wrapu64, wrapu32, Try.f34, h1, places, fillAll, ng_zero, dg_zero]
  · have hl := dg_pos.2 h0
    rw [decide_eq_false h0]
    by_cases h2 : 131072 < n
    · have h3 : ¬ (dg (x * 2 ^ n)).length ≤ 4096 := shl_no h0 (by omega)
      rw [RI, fit_no h3, er_no h3, fm_no h3]
      clear h3
      simp (maxSteps := 4000000) (disch := omega) only [go_sem, ↓reduceIte, Nat.reduceAdd, Nat.reduceSub, Nat.reduceMul, Nat.reduceEqDiff, reduceCtorEq, Int.reduceAdd, Int.reduceLT, Int.reduceLE, Int.reduceToNat, Int.reduceNeg, Int.reduceSub, ← List.map_take, ← List.map_drop, wrap64, wrapu64, wrapu32, Try.f34, h1, places, fillAll, ng_zero, dg_zero]
    · have h3 := left_spec m (dg x) n (dg_inR x) (by omega) (by omega)
      rw [val_dg, decide_eq_false (by omega)] at h3
      have h4 := dig_shl x.natAbs n
      have h5 := made_dig (ng x) false (x.natAbs * 2 ^ n) (by simp) (by unfold dg at hx; omega)
      rw [shl_abs] at h5
      clear h4
      simp (maxSteps := 4000000) (disch := omega) only [go_sem, ↓reduceIte, Nat.reduceAdd, Nat.reduceSub, Nat.reduceMul, Nat.reduceEqDiff, reduceCtorEq, Int.reduceAdd, Int.reduceLT, Int.reduceLE, Int.reduceToNat, Int.reduceNeg, Int.reduceSub, ← List.map_take, ← List.map_drop, wrap64, wrapu64, wrapu32, Try.f34, h1]
      refine W_drawn ?_
      simp (maxSteps := 4000000) (disch := omega) only [go_sem, ↓reduceIte, Nat.reduceAdd, Nat.reduceSub, Nat.reduceMul, Nat.reduceEqDiff, reduceCtorEq, Int.reduceAdd, Int.reduceLT, Int.reduceLE, Int.reduceToNat, Int.reduceNeg, Int.reduceSub, ← List.map_take, ← List.map_drop, wrap64, wrapu64, wrapu32, h3, h5]
      rfl
theorem shift_neg (m : Bool) (x : Int) (n : Nat) (hx : (dg x).length ≤ 4096) (hn : 0 < n) (hn2 : n ≤ 2 ^ 63) : ∃ f : Bool, denP E 34 [I m x, .int .i64 (-(n : Int))] = some (.ret (.tup [I f (x / 2 ^ n), .int .i64 0])) ∧ True := by
  refine denP_ex E34 rfl (by simp [AV.pureL, AV.pure, pure_wd]) ?_
  have h1 := valid_I m x hx
  by_cases h0 : x = 0
  · subst h0
    have e2 : (dg 0).length = 0 := dg_len0.2 rfl
    rw [Int.zero_ediv]
    simp only [I, ng_zero, dg_zero, List.map_nil] at h1
    simp (maxSteps := 4000000) (disch := omega) only [go_sem, ↓reduceIte, Nat.reduceAdd, Nat.reduceSub, Nat.reduceMul, Nat.reduceEqDiff, reduceCtorEq, Int.reduceAdd, Int.reduceLT, Int.reduceLE, Int.reduceToNat, Int.reduceNeg, Int.reduceSub, ← List.map_take, ← List.map_drop, wrap64, wrapu64, wrapu32, Try.f34, h1, places, fillAll, ng_zero, dg_zero]
    exact ⟨true, rfl⟩
  · have hl := dg_pos.2 h0
    -- how far
    obtain ⟨k, hk⟩ : ∃ k : Nat, k = min n 131072 := ⟨_, rfl⟩
    have e1 : 0 - (if -(n : Int) < -131072 then (-131072 : Int) else -(n : Int)) = (k : Int) := by split <;> omega
    have hfl : x / 2 ^ n = x / 2 ^ k := by
      by_cases hnk : n ≤ 131072
      · rw [show k = n by omega]
      · exact floor_far hx (by omega) (by omega)
    have hk3 : k ≤ 131072 := by omega
    have p2 : ((2 ^ k : Nat) : Int) = 2 ^ k := by push_cast; rfl
    have hc : 0 < 2 ^ k := Nat.pow_pos (by decide)
    rw [hfl, ← p2]
    have h3 := right_spec m (dg x) k (dg_norm x) (by omega) (by omega)
    rw [val_dg] at h3
    have hle : x.natAbs / 2 ^ k ≤ x.natAbs := Nat.div_le_self _ _
    have hl1 := dig_mono hle
    have hfn : decide ((dg x).length ≤ k / 32) = true → x.natAbs / 2 ^ k = 0 := by
      intro h
      rw [decide_eq_true_eq] at h
      have h4 : x.natAbs < BB ^ (k / 32) := dg_len.1 h
      refine Nat.div_eq_of_lt (Nat.lt_of_lt_of_le h4 ?_)
      rw [show BB = 2 ^ 32 from rfl, ← Nat.pow_mul]
      exact Nat.pow_le_pow_right (by decide) (by omega)
    cases hng : ng x with
    | false =>
      have hx0 := ng_false.1 hng
      have h4 := made_dig false (decide ((dg x).length ≤ k / 32)) (x.natAbs / 2 ^ k) hfn (by unfold dg at hx; omega)
      have e2 : sg false (x.natAbs / 2 ^ k) = x / ((2 ^ k : Nat) : Int) := by
        conv => rhs; rw [show x = ((x.natAbs : Nat) : Int) by omega, floor_pos]
        rfl
      rw [e2] at h4
      have h5 : (dg (x / ((2 ^ k : Nat) : Int))).length ≤ 4096 := by rw [← e2, dg_sg]; unfold dg at hx; omega
      simp only [RI, fit_of h5, er_of h5, fm_of h5] at h4
      simp only [I, hng] at h1
      generalize decide ((dg x).length ≤ k / 32) = fl at *
      generalize x / ((2 ^ k : Nat) : Int) = v at *
      generalize (!decide (x.natAbs % 2 ^ k = 0)) = lo at *
      clear hfl p2 hle hl1 e2 hfn hc
      simp (maxSteps := 4000000) (disch := omega) only [go_sem, ↓reduceIte, Nat.reduceAdd, Nat.reduceSub, Nat.reduceMul, Nat.reduceEqDiff, reduceCtorEq, Int.reduceAdd, Int.reduceLT, Int.reduceLE, Int.reduceToNat, Int.reduceNeg, Int.reduceSub, ← List.map_take, ← List.map_drop, wrap64, wrapu64, wrapu32, Try.f34, hng, h1, e1, h3, h4]
      exact ⟨fl, rfl⟩
    | true =>
      have hx0 := ng_true.1 hng
      have ex : x / ((2 ^ k : Nat) : Int) = -((x.natAbs / 2 ^ k + (if x.natAbs % 2 ^ k = 0 then 0 else 1) : Nat) : Int) := by
        conv => lhs; rw [show x = -((x.natAbs : Nat) : Int) by omega, floor_neg _ _ hc]
      by_cases hr : x.natAbs % 2 ^ k = 0
      · have h4 := made_dig true (decide ((dg x).length ≤ k / 32)) (x.natAbs / 2 ^ k) hfn (by unfold dg at hx; omega)
        have e2 : sg true (x.natAbs / 2 ^ k) = x / ((2 ^ k : Nat) : Int) := by
          rw [ex, if_pos hr]; rfl
        rw [e2] at h4
        have h5 : (dg (x / ((2 ^ k : Nat) : Int))).length ≤ 4096 := by rw [← e2, dg_sg]; unfold dg at hx; omega
        simp only [RI, fit_of h5, er_of h5, fm_of h5] at h4
        simp only [I, hng] at h1
        rw [decide_eq_true hr, Bool.not_true] at h3
        generalize decide ((dg x).length ≤ k / 32) = fl at *
        generalize x / ((2 ^ k : Nat) : Int) = v at *
        clear hfl p2 hle hl1 e2 hfn hc hr
        simp (maxSteps := 4000000) (disch := omega) only [go_sem, ↓reduceIte, Nat.reduceAdd, Nat.reduceSub, Nat.reduceMul, Nat.reduceEqDiff, reduceCtorEq, Int.reduceAdd, Int.reduceLT, Int.reduceLE, Int.reduceToNat, Int.reduceNeg, Int.reduceSub, ← List.map_take, ← List.map_drop, wrap64, wrapu64, wrapu32, Try.f34, hng, h1, e1, h3, h4]
        exact ⟨fl, rfl⟩
      · have hq1 : x.natAbs / 2 ^ k + 1 ≤ x.natAbs := by
          have h6 := Nat.div_add_mod x.natAbs (2 ^ k)
          have h7 : 1 * (x.natAbs / 2 ^ k) ≤ 2 ^ k * (x.natAbs / 2 ^ k) := Nat.mul_le_mul_right _ hc
          omega
        have hl2 := dig_mono hq1
        have h6 := plus_spec (decide ((dg x).length ≤ k / 32)) (dig (x.natAbs / 2 ^ k)) false [1] (dig_inR _) (fun y hy => by simp at hy; subst hy; decide) (by unfold dg at hx; omega) (by simp)
        rw [val_dig, show val [1] = 1 from rfl] at h6
        have h4 := made_dig true false (x.natAbs / 2 ^ k + 1) (by simp) (by unfold dg at hx; omega)
        have e2 : sg true (x.natAbs / 2 ^ k + 1) = x / ((2 ^ k : Nat) : Int) := by
          rw [ex, if_neg hr]; rfl
        rw [e2] at h4
        have h5 : (dg (x / ((2 ^ k : Nat) : Int))).length ≤ 4096 := by rw [← e2, dg_sg]; unfold dg at hx; omega
        simp only [RI, fit_of h5, er_of h5, fm_of h5] at h4
        simp only [I, hng] at h1
        rw [decide_eq_false hr, Bool.not_false] at h3
        simp only [List.map_cons, List.map_nil, wd, show ((1 : Nat) : Int) = 1 from rfl] at h6
        generalize decide ((dg x).length ≤ k / 32) = fl at *
        generalize x / ((2 ^ k : Nat) : Int) = v at *
        clear hfl p2 hle hl1 e2 hfn hc hr hq1 hl2 ex
        simp (maxSteps := 4000000) (disch := omega) only [go_sem, ↓reduceIte, Nat.reduceAdd, Nat.reduceSub, Nat.reduceMul, Nat.reduceEqDiff, reduceCtorEq, Int.reduceAdd, Int.reduceLT, Int.reduceLE, Int.reduceToNat, Int.reduceNeg, Int.reduceSub, ← List.map_take, ← List.map_drop, wrap64, wrapu64, wrapu32, Try.f34, hng, h1, e1, h3, h4, h6, reps, fillAll, refP, elems, List.headD]
        exact ⟨false, rfl⟩
end Go.Proofs.Ytpfcijgcjghgeaa
