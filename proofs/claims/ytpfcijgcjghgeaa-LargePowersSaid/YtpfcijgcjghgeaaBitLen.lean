/- Plain facts: numbers of binary digits, shifts of rows of words. (Own work of this repo.) -/
import Derived.Test.YtpfcijgcjghgeaaWords
set_option linter.unusedVariables false
set_option linter.unusedSimpArgs false
namespace Vm

/-- How many binary digits. -/
def bl (n : Nat) : Nat := if h : n = 0 then 0 else bl (n / 2) + 1
termination_by n
decreasing_by omega
theorem bl_zero : bl 0 = 0 := by rw [bl]; simp
theorem bl_pos {n : Nat} (h : n ≠ 0) : bl n = bl (n / 2) + 1 := by rw [bl, dif_neg h]
theorem bl_lt (n : Nat) : n < 2 ^ bl n := by
  induction n using Nat.strongRecOn with
  | _ n ih =>
    by_cases h : n = 0
    · subst h; rw [bl_zero]; decide
    · have := ih (n / 2) (by omega)
      rw [bl_pos h, Nat.pow_succ]; omega
theorem bl_ge {n : Nat} (h : n ≠ 0) : 2 ^ (bl n - 1) ≤ n := by
  induction n using Nat.strongRecOn with
  | _ n ih =>
    rw [bl_pos h, Nat.add_sub_cancel]
    by_cases h2 : n / 2 = 0
    · rw [h2, bl_zero]; simp; omega
    · have := ih (n / 2) (by omega) h2
      have h3 : bl (n / 2) = bl (n / 2) - 1 + 1 := by rw [bl_pos h2]; omega
      rw [h3, Nat.pow_succ]; omega
theorem bl_le {n k : Nat} : bl n ≤ k ↔ n < 2 ^ k := by
  constructor
  · intro h
    exact Nat.lt_of_lt_of_le (bl_lt n) (Nat.pow_le_pow_right (by decide) h)
  · intro h
    by_cases h0 : n = 0
    · subst h0; rw [bl_zero]; omega
    · have h1 := bl_ge h0
      have h2 : 2 ^ (bl n - 1) < 2 ^ k := by omega
      have := (Nat.pow_lt_pow_iff_right (by decide : 1 < 2)).1 h2
      omega
theorem bl_eq {n k : Nat} (h1 : n < 2 ^ k) (h2 : k = 0 ∨ 2 ^ (k - 1) ≤ n) : bl n = k := by
  have h3 := bl_le.2 h1
  rcases h2 with rfl | h2
  · omega
  · rcases Nat.lt_or_ge (bl n) k with h | h
    · have h4 : n < 2 ^ (k - 1) := bl_le.1 (by omega)
      omega
    · omega
theorem bl_mono {a b : Nat} (h : a ≤ b) : bl a ≤ bl b := bl_le.2 (Nat.lt_of_le_of_lt h (bl_lt b))
theorem bl_nz {n : Nat} (h : n ≠ 0) : 0 < bl n := by rw [bl_pos h]; omega
/-- A number's binary digits, from its words. -/
theorem bl_val {l : List Nat} (hr : InR l) (h : l.getD (l.length - 1) 0 ≠ 0) : bl (val l) = 32 * (l.length - 1) + bl (l.getD (l.length - 1) 0) := by
  have hl : l.length ≠ 0 := fun e => by rw [List.length_eq_zero_iff] at e; subst e; simp at h
  obtain ⟨k, hk⟩ : ∃ k, l.length = k + 1 := ⟨l.length - 1, by omega⟩
  rw [hk, Nat.add_sub_cancel] at h ⊢
  have e : val l = vp l k + l.getD k 0 * BB ^ k := by rw [val, hk, vp]
  have h1 := vp_lt hr k
  have hp : BB ^ k = 2 ^ (32 * k) := by rw [Nat.pow_mul]
  generalize l.getD k 0 = t at *
  have h2 := bl_lt t
  have h3 := bl_ge h
  have h4 := bl_nz h
  refine bl_eq ?_ (.inr ?_)
  · rw [e, Nat.pow_add, ← hp]
    have : (t + 1) * BB ^ k ≤ 2 ^ bl t * BB ^ k := Nat.mul_le_mul_right _ h2
    rw [Nat.add_mul] at this
    rw [Nat.mul_comm (BB ^ k)]
    omega
  · rw [e, show 32 * k + bl t - 1 = 32 * k + (bl t - 1) by omega, Nat.pow_add, ← hp, Nat.mul_comm]
    have : 2 ^ (bl t - 1) * BB ^ k ≤ t * BB ^ k := Nat.mul_le_mul_right _ h3
    omega
/-- The table of the library. -/
def lenTab (x : Nat) : Nat := bl x
theorem bl_shift16 {x : Nat} (h : 65536 ≤ x) : bl x = 16 + bl (x / 65536) := by
  refine bl_eq ?_ (.inr ?_)
  · have := bl_lt (x / 65536)
    rw [Nat.pow_add]
    have h2 : (x / 65536 + 1) * 65536 ≤ 2 ^ bl (x / 65536) * 65536 := Nat.mul_le_mul_right _ this
    omega
  · have h0 : x / 65536 ≠ 0 := by omega
    have := bl_ge h0
    have h4 := bl_nz h0
    rw [show 16 + bl (x / 65536) - 1 = 16 + (bl (x / 65536) - 1) by omega, Nat.pow_add]
    have h2 : 2 ^ (bl (x / 65536) - 1) * 65536 ≤ x / 65536 * 65536 := Nat.mul_le_mul_right _ this
    omega
theorem bl_shift8 {x : Nat} (h : 256 ≤ x) : bl x = 8 + bl (x / 256) := by
  refine bl_eq ?_ (.inr ?_)
  · have := bl_lt (x / 256)
    rw [Nat.pow_add]
    have h2 : (x / 256 + 1) * 256 ≤ 2 ^ bl (x / 256) * 256 := Nat.mul_le_mul_right _ this
    omega
  · have h0 : x / 256 ≠ 0 := by omega
    have := bl_ge h0
    have h4 := bl_nz h0
    rw [show 8 + bl (x / 256) - 1 = 8 + (bl (x / 256) - 1) by omega, Nat.pow_add]
    have h2 : 2 ^ (bl (x / 256) - 1) * 256 ≤ x / 256 * 256 := Nat.mul_le_mul_right _ this
    omega

/-! #### shifts -/
theorem pow_split {k : Nat} (h : k < 32) : 2 ^ k * 2 ^ (32 - k) = 4294967296 := by
  rw [← Nat.pow_add, show k + (32 - k) = 32 by omega]
theorem pow_lt32 {k : Nat} (h : k < 32) : 2 ^ k ≤ 2147483648 := by
  have : 2 ^ k ≤ 2 ^ 31 := Nat.pow_le_pow_right (by decide) (by omega)
  exact this
/-- A word moved to the left: what is carried, and what stays has zeros. -/
theorem left_word {x k : Nat} (hk : k < 32) (hx : x < 4294967296) : x * 2 ^ k / 4294967296 < 2 ^ k ∧ x * 2 ^ k % 4294967296 = (x % 2 ^ (32 - k)) * 2 ^ k := by
  have hp := pow_split hk
  have h0 : 0 < 2 ^ k := Nat.pow_pos (by decide)
  constructor
  · rw [Nat.div_lt_iff_lt_mul (by decide), Nat.mul_comm]
    exact Nat.mul_lt_mul_of_pos_left hx h0
  · rw [← hp, Nat.mul_comm (2 ^ k), Nat.mul_mod_mul_right]
theorem left_step {o a : List Nat} {q i k h : Nat} (hk : k < 32) (ha : a.getD i 0 < 4294967296) (ho : q + i + 1 < o.length) (hh : o.getD (q + i) 0 = h) (hv : vp o (q + i + 1) = vp a i * (2 ^ k * BB ^ q)) :
    vp ((o.set (q + i) (h + a.getD i 0 * 2 ^ k % 4294967296)).set (q + i + 1) (a.getD i 0 * 2 ^ k / 4294967296)) (q + (i + 1) + 1) = vp a (i + 1) * (2 ^ k * BB ^ q) := by
  rw [show q + (i + 1) + 1 = q + i + 1 + 1 by omega, vp, lget_set_self (by rw [List.length_set]; omega), vp_set _ _ _ _ (Nat.le_refl _), vp, lget_set_self (by omega), vp_set _ _ _ _ (Nat.le_refl _)]
  rw [vp, hh] at hv
  rw [vp, Nat.add_mul, Nat.add_mul, ← hv, show BB ^ (q + i + 1) = BB ^ (q + i) * BB from Nat.pow_succ _ _]
  have h1 : a.getD i 0 * 2 ^ k % 4294967296 * BB ^ (q + i) + a.getD i 0 * 2 ^ k / 4294967296 * (BB ^ (q + i) * BB) = a.getD i 0 * 2 ^ k * BB ^ (q + i) := split_mul (a.getD i 0 * 2 ^ k) (BB ^ (q + i))
  have h2 : a.getD i 0 * BB ^ i * (2 ^ k * BB ^ q) = a.getD i 0 * 2 ^ k * BB ^ (q + i) := by
    rw [Nat.pow_add]; generalize a.getD i 0 = x; generalize BB ^ i = y; generalize BB ^ q = z; generalize 2 ^ k = w; grind
  rw [h2]
  omega
/-- A row's words moved to the right, each with the low part of the next one. -/
theorem right_word {x y k : Nat} (hk : k < 32) (hx : x < 4294967296) : (x + y * 4294967296) / 2 ^ k % 4294967296 = x / 2 ^ k + (y % 2 ^ k) * 2 ^ (32 - k) := by
  have hp := pow_split hk
  have h0 : 0 < 2 ^ k := Nat.pow_pos (by decide)
  have h0' : 0 < 2 ^ (32 - k) := Nat.pow_pos (by decide)
  have h1 : (x + y * 4294967296) / 2 ^ k = x / 2 ^ k + y * 2 ^ (32 - k) := by
    rw [← hp, show y * (2 ^ k * 2 ^ (32 - k)) = 2 ^ k * (y * 2 ^ (32 - k)) by grind, Nat.add_mul_div_left _ _ h0]
  have hlt : x / 2 ^ k < 2 ^ (32 - k) := by rw [Nat.div_lt_iff_lt_mul h0, Nat.mul_comm, hp]; exact hx
  rw [h1]
  have h2 : y * 2 ^ (32 - k) = (y % 2 ^ k) * 2 ^ (32 - k) + 4294967296 * (y / 2 ^ k) := by
    have := Nat.mod_add_div y (2 ^ k)
    generalize y / 2 ^ k = d at *
    rw [← hp]
    generalize hm : y % 2 ^ k = m at *
    rw [← this]; grind
  rw [h2, ← Nat.add_assoc, Nat.add_mul_mod_self_left, Nat.mod_eq_of_lt]
  have h3 : y % 2 ^ k < 2 ^ k := Nat.mod_lt _ h0
  have h4 : (y % 2 ^ k + 1) * 2 ^ (32 - k) ≤ 2 ^ k * 2 ^ (32 - k) := Nat.mul_le_mul_right _ h3
  rw [Nat.add_mul, hp] at h4
  omega
theorem right_inv {o b : List Nat} {k : Nat} (hk : k < 32) (hb : InR b) (h : ∀ i, i < b.length → o.getD i 0 = (b.getD i 0 + b.getD (i + 1) 0 * 4294967296) / 2 ^ k % 4294967296) : ∀ i, i ≤ b.length →
    vp b (i + 1) = 2 ^ k * (vp o i + b.getD i 0 / 2 ^ k * BB ^ i) + b.getD 0 0 % 2 ^ k := by
  have hp := pow_split hk
  intro i
  induction i with
  | zero =>
    intro _
    have := Nat.div_add_mod (b.getD 0 0) (2 ^ k)
    simp only [vp, Nat.pow_zero, Nat.mul_one, Nat.zero_add]
    omega
  | succ i ih =>
    intro hi
    have h1 := ih (by omega)
    have h2 := h i (by omega)
    rw [right_word hk (hb.get i)] at h2
    rw [vp, h1, vp, h2]
    have h3 := Nat.div_add_mod (b.getD (i + 1) 0) (2 ^ k)
    generalize b.getD (i + 1) 0 = y at *
    generalize y / 2 ^ k = d at *
    generalize y % 2 ^ k = m at *
    generalize b.getD i 0 / 2 ^ k = e at *
    generalize b.getD 0 0 % 2 ^ k = r at *
    rw [← h3, Nat.pow_succ, show BB = 2 ^ k * 2 ^ (32 - k) from hp.symm]
    generalize (2 ^ k * 2 ^ (32 - k)) ^ i = z
    grind
theorem right_val {o b : List Nat} {k : Nat} (hk : k < 32) (hb : InR b) (hl : o.length = b.length) (h : ∀ i, i < b.length → o.getD i 0 = (b.getD i 0 + b.getD (i + 1) 0 * 4294967296) / 2 ^ k % 4294967296) :
    val b = 2 ^ k * val o + b.getD 0 0 % 2 ^ k := by
  have := right_inv hk hb h b.length (Nat.le_refl _)
  rw [vp_ge b _ (by omega), getD_ge (Nat.le_refl _), Nat.zero_div, Nat.zero_mul, Nat.add_zero] at this
  rw [this, val, hl]
/-- A row, cut in two. -/
theorem vp_split (a : List Nat) (q : Nat) : ∀ n, vp a (q + n) = vp a q + BB ^ q * vp (a.drop q) n := by
  intro n
  induction n with
  | zero => simp [vp]
  | succ n ih =>
    rw [← Nat.add_assoc, vp, ih, vp, getD_drop, Nat.pow_add]
    generalize BB ^ q = x; generalize BB ^ n = y; generalize a.getD (q + n) 0 = z; grind
theorem val_split {a : List Nat} {q : Nat} (h : q ≤ a.length) : val a = vp a q + BB ^ q * val (a.drop q) := by
  have := vp_split a q (a.length - q)
  rw [show q + (a.length - q) = a.length by omega] at this
  rw [val, val, List.length_drop, this]
theorem vp_take {a : List Nat} {q : Nat} (h : q ≤ a.length) : val (a.take q) = vp a q := by
  rw [val, List.length_take, Nat.min_eq_left h]
  exact vp_congr _ fun i hi => getD_take hi
theorem vp_nz {a : List Nat} : ∀ n, vp a n = 0 ↔ ∀ i, i < n → a.getD i 0 = 0
  | 0 => by simp [vp]
  | n + 1 => by
    have h0 : 0 < BB ^ n := Nat.pow_pos (by decide)
    rw [vp, Nat.add_eq_zero_iff, vp_nz n, Nat.mul_eq_zero]
    constructor
    · rintro ⟨h1, h2⟩ i hi
      by_cases e : i = n
      · subst e; rcases h2 with h2 | h2
        · exact h2
        · omega
      · exact h1 i (by omega)
    · intro h
      exact ⟨fun i hi => h i (by omega), .inl (h n (by omega))⟩
end Vm
