/- Part 6 of a proof about this seat: Knuth, Digit, Div1, Div2, Div3, Sh3, Sh4, Long, Ref4, Gcd, Pow2, Root, Non. (Own work of this repo.) -/
import Derived.Test.YtiglncbaomoceaaZPellNth5
set_option linter.unusedVariables false
set_option linter.unusedSimpArgs false
/- Plain facts: dividing rows of words, word by word. (Own work of this repo.) -/
namespace Vm

/-- What n words from place j on are worth. -/
def wv (o : List Nat) (j : Nat) : Nat → Nat
  | 0 => 0
  | k + 1 => wv o j k + o.getD (j + k) 0 * BB ^ k
theorem vp_wv (o : List Nat) (j : Nat) : ∀ n, vp o (j + n) = vp o j + BB ^ j * wv o j n
  | 0 => by simp [wv]
  | n + 1 => by
    rw [← Nat.add_assoc, vp, vp_wv o j n, wv, Nat.mul_add, Nat.pow_add, Nat.add_assoc]
    congr 2
    rw [Nat.mul_comm (BB ^ j) (BB ^ n), ← Nat.mul_assoc, Nat.mul_comm (BB ^ j)]
theorem wv_lt {o : List Nat} (h : InR o) (j : Nat) : ∀ n, wv o j n < BB ^ n
  | 0 => by simp [wv]
  | n + 1 => by
    have h1 := wv_lt h j n
    have h2 := h.get (j + n)
    rw [wv, Nat.pow_succ, Nat.mul_comm (BB ^ n)]
    have h3 : (o.getD (j + n) 0 + 1) * BB ^ n ≤ BB * BB ^ n := Nat.mul_le_mul_right _ h2
    rw [Nat.add_mul] at h3
    omega
theorem wv_set (o : List Nat) (j i x : Nat) : ∀ n, n ≤ i → wv (o.set (j + i) x) j n = wv o j n
  | 0, _ => rfl
  | n + 1, h => by rw [wv, wv, wv_set o j i x n (by omega), lget_set_ne (by omega)]
theorem wv_congr {o p : List Nat} {j : Nat} : ∀ n, (∀ t, j ≤ t → t < j + n → o.getD t 0 = p.getD t 0) → wv o j n = wv p j n
  | 0, _ => rfl
  | n + 1, h => by rw [wv, wv, wv_congr n (fun t h1 h2 => h t h1 (by omega)), h (j + n) (by omega) (by omega)]
theorem split_mul' (s p : Nat) : s % 4294967296 * p + s / 4294967296 * (p * BB) = s * p := split_mul s p
/-- One word of a multiple is subtracted. -/
theorem ms_step {o p v : List Nat} {j i q c0 b0 b1 w x : Nat} (hp : j + i < p.length) (hv : wv p j i + q * vp v i = wv o j i + (c0 + b0) * BB ^ i) (hx : x = q * v.getD i 0 + c0)
    (hw : w + x % 4294967296 + b0 = o.getD (j + i) 0 + b1 * 4294967296) :
    wv (p.set (j + i) w) j (i + 1) + q * vp v (i + 1) = wv o j (i + 1) + (x / 4294967296 + b1) * BB ^ (i + 1) := by
  rw [wv, wv, vp, wv_set p j i w i (Nat.le_refl _), lget_set_self hp, Nat.pow_succ]
  have h1 := split_mul' x (BB ^ i)
  have e : BB = 4294967296 := rfl
  have h2 : w * BB ^ i + x % 4294967296 * BB ^ i + b0 * BB ^ i = o.getD (j + i) 0 * BB ^ i + b1 * (BB ^ i * BB) := by
    rw [← Nat.add_mul, ← Nat.add_mul, hw, Nat.add_mul, Nat.mul_assoc b1, Nat.mul_comm (BB ^ i)]
  have h3 : x * BB ^ i = q * (v.getD i 0 * BB ^ i) + c0 * BB ^ i := by rw [hx, Nat.add_mul, Nat.mul_assoc]
  rw [Nat.mul_add, Nat.add_mul]
  rw [Nat.add_mul] at hv
  omega
theorem ms_last {o p : List Nat} {j n c w b C : Nat} (hp : j + n < p.length) (hv : wv p j n + C = wv o j n + c * BB ^ n) (hw : w + c = o.getD (j + n) 0 + b * 4294967296) :
    wv (p.set (j + n) w) j (n + 1) + C = wv o j (n + 1) + b * BB ^ (n + 1) := by
  rw [wv, wv, wv_set p j n w n (Nat.le_refl _), lget_set_self hp, Nat.pow_succ]
  have e : BB = 4294967296 := rfl
  have h2 : w * BB ^ n + c * BB ^ n = o.getD (j + n) 0 * BB ^ n + b * (BB ^ n * BB) := by
    rw [← Nat.add_mul, hw, Nat.add_mul, Nat.mul_assoc b, Nat.mul_comm (BB ^ n)]
  omega
/-- One word is added. -/
theorem as_step {o p v : List Nat} {j i c s : Nat} (hp : j + i < p.length) (hv : wv p j i + c * BB ^ i = wv o j i + vp v i) (hs : s = c + o.getD (j + i) 0 + v.getD i 0) :
    wv (p.set (j + i) (s % 4294967296)) j (i + 1) + s / 4294967296 * BB ^ (i + 1) = wv o j (i + 1) + vp v (i + 1) := by
  have h := split_mul' s (BB ^ i)
  rw [wv, wv, vp, wv_set p j i _ i (Nat.le_refl _), lget_set_self hp, Nat.pow_succ]
  have h3 : s * BB ^ i = c * BB ^ i + o.getD (j + i) 0 * BB ^ i + v.getD i 0 * BB ^ i := by rw [hs, Nat.add_mul, Nat.add_mul]
  omega
theorem as_last {P p : List Nat} {j n c w V : Nat} (hp : j + n < p.length) (hv : wv p j n + c * BB ^ n = wv P j n + V) (hw : w = P.getD (j + n) 0 + c) :
    wv (p.set (j + n) (w % 4294967296)) j (n + 1) + w / 4294967296 * BB ^ (n + 1) = wv P j (n + 1) + V := by
  have h := split_mul' w (BB ^ n)
  rw [wv, wv, wv_set p j n _ n (Nat.le_refl _), lget_set_self hp, Nat.pow_succ]
  have h3 : w * BB ^ n = P.getD (j + n) 0 * BB ^ n + c * BB ^ n := by rw [hw, Nat.add_mul]
  omega
/-- The guess is too great: it may fall. -/
theorem kn_dec {q r v1 v2 u2 top U V p : Nat} (ht : q * v1 + r = top) (hV : (v1 * 4294967296 + v2) * p ≤ V) (hU : U < (top * 4294967296 + u2 + 1) * p) (hUV : U < V * 4294967296)
    (h : 4294967296 ≤ q ∨ r * 4294967296 + u2 < q * v2) : U < q * V := by
  rcases h with h | h
  · have : 4294967296 * V ≤ q * V := Nat.mul_le_mul_right _ h
    rw [Nat.mul_comm V] at hUV
    omega
  · have h1 : top * 4294967296 + u2 + 1 ≤ q * (v1 * 4294967296 + v2) := by
      rw [Nat.mul_add, ← Nat.mul_assoc, ← ht, Nat.add_mul]; omega
    have h2 := Nat.mul_le_mul_right p h1
    have h3 : q * (v1 * 4294967296 + v2) * p ≤ q * V := by rw [Nat.mul_assoc]; exact Nat.mul_le_mul_left _ hV
    omega
/-- The guess is one too great at most. -/
theorem kn_end {q r v1 v2 u2 top U V p : Nat} (ht : q * v1 + r = top) (hv1 : 1 ≤ v1) (hV : (v1 * 4294967296 + v2) * p ≤ V) (hV2 : V < (v1 * 4294967296 + v2 + 1) * p) (hU : (top * 4294967296 + u2) * p ≤ U)
    (hq : q < 4294967296) (hv2 : v2 < 4294967296) (h : q * v2 ≤ r * 4294967296 + u2 ∨ 4294967296 ≤ r) : q * V ≤ U + V := by
  have h0 : q * v2 ≤ r * 4294967296 + u2 := by
    rcases h with h | h
    · exact h
    · have := Nat.mul_le_mul (Nat.le_of_lt hq) (Nat.le_of_lt hv2)
      omega
  have h1 : q * (v1 * 4294967296 + v2 + 1) ≤ top * 4294967296 + u2 + q := by
    rw [Nat.mul_add, Nat.mul_add, ← Nat.mul_assoc, ← ht, Nat.add_mul]; omega
  have h2 := Nat.mul_le_mul_right p h1
  have h3 : q * V ≤ q * (v1 * 4294967296 + v2 + 1) * p := by rw [Nat.mul_assoc]; exact Nat.mul_le_mul_left _ (Nat.le_of_lt hV2)
  have h4 : q * p ≤ V := by
    refine Nat.le_trans ?_ hV
    refine Nat.mul_le_mul_right _ ?_
    have : 1 * 4294967296 ≤ v1 * 4294967296 := Nat.mul_le_mul_right _ hv1
    omega
  rw [Nat.add_mul] at h2
  omega
theorem kn_fin0 {q U V u' : Nat} (h1 : u' + q * V = U) (h2 : U < (q + 1) * V) : q = U / V ∧ u' = U % V := by
  have hV : 0 < V := by
    rcases Nat.eq_zero_or_pos V with h | h
    · subst h; simp at h2
    · exact h
  rw [Nat.add_mul, Nat.one_mul] at h2
  have h3 : u' < V := by omega
  constructor
  · symm; rw [← h1, Nat.add_mul_div_right _ _ hV, Nat.div_eq_of_lt h3, Nat.zero_add]
  · rw [← h1, Nat.add_mul_mod_self_right, Nat.mod_eq_of_lt h3]
theorem kn_fin0' {q U V u' b w : Nat} (h1 : u' + q * V = U + b * w) (hb : b = 0) (h2 : U < (q + 1) * V) : q = U / V ∧ u' = U % V := by
  rw [hb, Nat.zero_mul] at h1
  exact kn_fin0 h1 h2
theorem kn_one {A U b w : Nat} (h1 : A = U + b * w) (hb : b = 1) : A = U + w := by rw [h1, hb, Nat.one_mul]
theorem kn_fin1 {q U V u' : Nat} (h1 : U < q * V) (h2 : q * V ≤ U + V) (h3 : u' + q * V = U + V) : q - 1 = U / V ∧ u' = U % V ∧ 1 ≤ q := by
  have hq : 1 ≤ q := by
    rcases Nat.eq_zero_or_pos q with h | h
    · subst h; simp at h1
    · exact h
  obtain ⟨k, rfl⟩ : ∃ k, q = k + 1 := ⟨q - 1, by omega⟩
  rw [Nat.add_mul, Nat.one_mul] at h3 h1
  have := kn_fin0 (q := k) (U := U) (V := V) (u' := u') (by omega) (by rw [Nat.add_mul]; omega)
  exact ⟨by simpa using this.1, this.2, hq⟩
theorem kn_back {U V q P A t n : Nat} (hA : A + q * V = U + BB ^ n) (hP : P + t * BB ^ n = A + V) (hPl : P < BB ^ n) (h2 : q * V ≤ U + V) (hVl : V ≤ BB ^ n) (h1 : U < q * V) : P + q * V = U + V := by
  -- t is 1
  have h3 : P + t * BB ^ n + q * V = U + BB ^ n + V := by omega
  have ht : t = 1 := by
    rcases Nat.lt_or_ge t 1 with h | h
    · have : t = 0 := by omega
      subst this; omega
    · rcases Nat.lt_or_ge 1 t with h4 | h4
      · have : 2 * BB ^ n ≤ t * BB ^ n := Nat.mul_le_mul_right _ h4
        omega
      · omega
  subst ht
  omega
/-- The words of a number above its length are zeros. -/
theorem vp_val {o : List Nat} {m : Nat} (h : val o < BB ^ m) : vp o m = val o := by
  rcases Nat.lt_or_ge m o.length with hm | hm
  · have h1 := vp_wv o m (o.length - m)
    rw [show m + (o.length - m) = o.length by omega] at h1
    have h2 : wv o m (o.length - m) = 0 := by
      rcases Nat.eq_zero_or_pos (wv o m (o.length - m)) with h0 | h0
      · exact h0
      · have : BB ^ m * 1 ≤ BB ^ m * wv o m (o.length - m) := Nat.mul_le_mul_left _ h0
        rw [val] at h; omega
    rw [h2, Nat.mul_zero, Nat.add_zero] at h1
    exact h1.symm
  · exact vp_ge o m hm
theorem getD_of_lt {o : List Nat} {m i : Nat} (h : val o < BB ^ m) (hi : m ≤ i) : o.getD i 0 = 0 := by
  have h1 := vp_val h
  have h2 : vp o (i + 1) = val o := vp_val (Nat.lt_of_lt_of_le h (Nat.pow_le_pow_right (by decide) (by omega)))
  have h3 : vp o i = val o := vp_val (Nat.lt_of_lt_of_le h (Nat.pow_le_pow_right (by decide) hi))
  rw [vp, h3] at h2
  have h4 : o.getD i 0 * BB ^ i = 0 := by omega
  rcases Nat.mul_eq_zero.1 h4 with h5 | h5
  · exact h5
  · exact absurd h5 (Nat.ne_of_gt (Nat.pow_pos (by decide)))
theorem val_of_zero {o : List Nat} {m : Nat} (h : ∀ i, m ≤ i → o.getD i 0 = 0) : val o = vp o m := by
  rcases Nat.lt_or_ge m o.length with hm | hm
  · have h1 := vp_hi (a := o) (b := List.replicate m 0) (k := m) o.length (by omega) (fun t h2 h3 => by rw [h t h2, getD_replicate])
    rw [vp_replicate, vp_replicate] at h1
    rw [val]; omega
  · exact (vp_ge o m hm).symm
theorem val_set0 {o : List Nat} {j x : Nat} (hj : j < o.length) (h : o.getD j 0 = 0) : val (o.set j x) = val o + x * BB ^ j := by
  have h1 := vp_hi (a := o.set j x) (b := o) (k := j + 1) o.length (by omega) (fun t h2 h3 => by rw [lget_set_ne (by omega)])
  rw [vp, vp, vp_set o j x j (Nat.le_refl _), lget_set_self hj, h] at h1
  rw [val, val, List.length_set]; omega
/-- One word of the quotient. -/
theorem kn_outer {o p out : List Nat} {V X j n : Nat} (ho : InR o) (hVn : V < BB ^ n) (hj : j < out.length) (h1 : val o + val out * V = X) (h2 : val o < V * BB ^ (j + 1)) (h3 : out.getD j 0 = 0)
    (hp : wv p j (n + 1) = wv o j (n + 1) % V) (hs : ∀ t, t < j ∨ j + n + 1 ≤ t → p.getD t 0 = o.getD t 0) :
    val p + val (out.set j (wv o j (n + 1) / V)) * V = X ∧ val p < V * BB ^ j := by
  have hlt : val o < BB ^ (j + (n + 1)) := by
    refine Nat.lt_of_lt_of_le h2 ?_
    rw [show j + (n + 1) = n + (j + 1) by omega, Nat.pow_add BB n (j + 1)]
    exact Nat.mul_le_mul_right _ (Nat.le_of_lt hVn)
  have e1 : val o = vp o j + BB ^ j * wv o j (n + 1) := by rw [← vp_wv, vp_val hlt]
  have e2 : val p = vp o j + BB ^ j * (wv o j (n + 1) % V) := by
    rw [val_of_zero (m := j + (n + 1)) (fun i hi => by rw [hs i (.inr (by omega)), getD_of_lt hlt hi]), vp_wv, hp]
    congr 1
    exact vp_congr j fun i hi => hs i (.inl hi)
  have hV : 0 < V := by
    rcases Nat.eq_zero_or_pos V with h | h
    · subst h; simp at h2
    · exact h
  generalize wv o j (n + 1) = U at *
  have h4 := Nat.div_add_mod U V
  constructor
  · rw [val_set0 hj h3, Nat.add_mul, ← h1, e1, e2]
    have : BB ^ j * U = BB ^ j * (U % V) + U / V * BB ^ j * V := by
      conv => lhs; rw [← h4]
      rw [Nat.mul_add, Nat.add_comm, Nat.mul_comm (U / V), Nat.mul_assoc, Nat.mul_comm V]
    omega
  · rw [e2]
    have h5 := vp_lt ho j
    have h6 : BB ^ j * (U % V + 1) ≤ BB ^ j * V := Nat.mul_le_mul_left _ (Nat.mod_lt _ hV)
    rw [Nat.mul_add, Nat.mul_one] at h6
    rw [Nat.mul_comm V]
    omega
theorem kn_window {o : List Nat} {V j n : Nat} (hVn : V < BB ^ n) (h2 : val o < V * BB ^ (j + 1)) : wv o j (n + 1) < V * 4294967296 := by
  have hlt : val o < BB ^ (j + (n + 1)) := by
    refine Nat.lt_of_lt_of_le h2 ?_
    rw [show j + (n + 1) = n + (j + 1) by omega, Nat.pow_add BB n (j + 1)]
    exact Nat.mul_le_mul_right _ (Nat.le_of_lt hVn)
  have e1 : val o = vp o j + BB ^ j * wv o j (n + 1) := by rw [← vp_wv, vp_val hlt]
  rw [Nat.pow_succ, ← Nat.mul_assoc, Nat.mul_comm V, Nat.mul_assoc] at h2
  have h3 : BB ^ j * wv o j (n + 1) < BB ^ j * (V * BB) := by omega
  exact Nat.lt_of_mul_lt_mul_left h3
/-- What a row's three highest words and the row are worth. -/
theorem wv_top {o : List Nat} (h : InR o) {j n : Nat} : (o.getD (j + n + 2) 0 * 4294967296 * 4294967296 + o.getD (j + n + 1) 0 * 4294967296 + o.getD (j + n) 0) * BB ^ n ≤ wv o j (n + 3) ∧ wv o j (n + 3) < (o.getD (j + n + 2) 0 * 4294967296 * 4294967296 + o.getD (j + n + 1) 0 * 4294967296 + o.getD (j + n) 0 + 1) * BB ^ n := by
  have h1 := wv_lt h j n
  have e : wv o j (n + 3) = wv o j n + (o.getD (j + n + 2) 0 * 4294967296 * 4294967296 + o.getD (j + n + 1) 0 * 4294967296 + o.getD (j + n) 0) * BB ^ n := by
    rw [wv, wv, wv, Nat.pow_succ, Nat.pow_succ, Nat.pow_succ]
    have e : BB = 4294967296 := rfl
    simp only [← Nat.add_assoc, e]
    generalize (4294967296 : Nat) ^ n = P
    generalize o.getD (j + n + 2) 0 = a
    generalize o.getD (j + n + 1) 0 = b
    generalize o.getD (j + n) 0 = c
    grind
  rw [e, Nat.add_mul _ 1]
  omega
theorem vp_top {o : List Nat} (h : InR o) {n : Nat} : (o.getD (n + 1) 0 * 4294967296 + o.getD n 0) * BB ^ n ≤ vp o (n + 2) ∧ vp o (n + 2) < (o.getD (n + 1) 0 * 4294967296 + o.getD n 0 + 1) * BB ^ n := by
  have h1 := vp_lt h n
  have e : vp o (n + 2) = vp o n + (o.getD (n + 1) 0 * 4294967296 + o.getD n 0) * BB ^ n := by
    rw [vp, vp, Nat.pow_succ]
    have e : BB = 4294967296 := rfl
    simp only [e]
    generalize (4294967296 : Nat) ^ n = P
    generalize o.getD (n + 1) 0 = a
    generalize o.getD n 0 = c
    grind
  rw [e, Nat.add_mul _ 1]
  omega
theorem wv_cons (o : List Nat) (j : Nat) : ∀ n, wv o j (n + 1) = o.getD j 0 + BB * wv o (j + 1) n
  | 0 => by simp [wv]
  | n + 1 => by
    rw [wv, wv_cons o j n, wv, Nat.mul_add, show j + (n + 1) = j + 1 + n by omega, Nat.pow_succ, Nat.add_assoc]
    congr 2
    rw [Nat.mul_comm (BB ^ n), ← Nat.mul_assoc, ← Nat.mul_assoc, Nat.mul_comm BB]
theorem wv_zero (o : List Nat) : ∀ n, wv o 0 n = vp o n
  | 0 => rfl
  | n + 1 => by rw [wv, vp, wv_zero o n, Nat.zero_add]
theorem vp_succ0 {o : List Nat} {n : Nat} (h : o.getD n 0 = 0) : vp o (n + 1) = vp o n := by rw [vp, h]; omega
/-- One word of a quotient by a word. -/
theorem short_step {o a : List Nat} {i n b r T : Nat} (hi : i < o.length) (hr : r < b) (hT : T = a.getD i 0 + r * 4294967296) (hv : wv o (i + 1) n * b + r = wv a (i + 1) n) :
    wv (o.set i (T / b)) i (n + 1) * b + T % b = wv a i (n + 1) := by
  have e : wv (o.set i (T / b)) (i + 1) n = wv o (i + 1) n := wv_congr n fun t h1 h2 => by rw [lget_set_ne (by omega)]
  rw [wv_cons, wv_cons, lget_set_self hi, e, ← hv, Nat.add_mul, Nat.mul_add]
  have h1 := Nat.div_add_mod T b
  rw [Nat.mul_comm b] at h1
  have e2 : BB * r = r * 4294967296 := Nat.mul_comm _ _
  rw [e2, ← Nat.mul_assoc]
  omega
end Vm

/- Walks: one word of a quotient. (Own work of this repo.) -/
namespace Go.Proofs.Ytiglncbaomoceaa
open Vm
set_option maxRecDepth 100000

theorem high_or {x y : Nat} (hx : x < 4294967296) (hy : y < 4294967296) : IntKind.u64.wrap ((BitVec.ofInt (kb .u64) ((y * 4294967296 : Nat) : Int) ||| BitVec.ofInt (kb .u64) (x : Int)).toNat : Int) = ((x + y * 4294967296 : Nat) : Int) := by
  rw [BitVec.or_comm]; exact or_high hx hy
theorem kn_init {v1 v2 u2 top U V p : Nat} (hv1 : 1 ≤ v1) (hu2 : u2 < 4294967296) (hV : (v1 * 4294967296 + v2) * p ≤ V) (hU : U < (top * 4294967296 + u2 + 1) * p) : U < (top / v1 + 1) * V := by
  have h1 : top + 1 ≤ (top / v1 + 1) * v1 := by
    have := Nat.lt_div_mul_add (a := top) (b := v1) (by omega)
    rw [Nat.add_mul]; omega
  have h2 : (top * 4294967296 + u2 + 1) * p ≤ (top / v1 + 1) * V := by
    refine Nat.le_trans (Nat.mul_le_mul_right p (show _ ≤ (top / v1 + 1) * (v1 * 4294967296) by rw [← Nat.mul_assoc]; omega)) ?_
    rw [Nat.mul_assoc]
    refine Nat.mul_le_mul_left _ (Nat.le_trans (Nat.mul_le_mul_right p ?_) hV)
    omega
  omega
theorem kn_htop {v1 v2 u2 top U V p : Nat} (hv2 : v2 < 4294967296) (hV2 : V < (v1 * 4294967296 + v2 + 1) * p) (hU : (top * 4294967296 + u2) * p ≤ U) (hUV : U < V * 4294967296) : top < (v1 + 1) * 4294967296 := by
  rcases Nat.lt_or_ge top ((v1 + 1) * 4294967296) with h | h
  · exact h
  · have h1 : (v1 * 4294967296 + v2 + 1) * 4294967296 ≤ top * 4294967296 + u2 := by
      have h3 : (v1 * 4294967296 + v2 + 1) * 4294967296 ≤ top * 4294967296 := Nat.mul_le_mul_right 4294967296 (by omega)
      exact Nat.le_trans h3 (Nat.le_add_right _ _)
    have h2 := Nat.mul_le_mul_right p h1
    have h3 : (v1 * 4294967296 + v2 + 1) * 4294967296 * p = (v1 * 4294967296 + v2 + 1) * p * 4294967296 := by rw [Nat.mul_assoc, Nat.mul_comm 4294967296, ← Nat.mul_assoc]
    omega
set_option maxHeartbeats 4000000 in
theorem digit_open (id off : Nat) (o v : List Nat) (mv : Bool) (h : Heap) (nx m : Nat) (hH : h id = some ⟨o.map wd, false, 1, false⟩) (ro : InR o) (rv : InR v) (hm : v.length = m + 2) (hv1 : 1 ≤ v.getD (m + 1) 0)
    (hl : off + m + 3 ≤ o.length) (lo : o.length < 2 ^ 40) (hU : wv o off (m + 3) < val v * 4294967296) :
    ∃ (p : List Nat) (h' : Heap), denO E 89 [.ref id off (m + 3), .lst mv (v.map wd)] h nx = some (.ret (.int .u32 (wv o off (m + 3) / val v : Nat)), h', nx) ∧
      h' id = some ⟨p.map wd, false, 1, false⟩ ∧ (∀ j, j ≠ id → h' j = h j) ∧ InR p ∧ p.length = o.length ∧ wv p off (m + 3) = wv o off (m + 3) % val v ∧ ∀ t, t < off ∨ off + m + 3 ≤ t → p.getD t 0 = o.getD t 0 := by
  have key : ∃ x h' n, denO E 89 [.ref id off (m + 3), .lst mv (v.map wd)] h nx = some (.ret x, h', n) ∧ ∃ p : List Nat, x = .int .u32 (wv o off (m + 3) / val v : Nat) ∧ n = nx ∧
      h' id = some ⟨p.map wd, false, 1, false⟩ ∧ (∀ j, j ≠ id → h' j = h j) ∧ InR p ∧ p.length = o.length ∧ wv p off (m + 3) = wv o off (m + 3) % val v ∧ ∀ t, t < off ∨ off + m + 3 ≤ t → p.getD t 0 = o.getD t 0 := by
    refine denO_intro E89 rfl ?_
    have hV0 : val v = vp v (m + 2) := by rw [val, hm]
    have hVt := vp_top rv (n := m)
    have hUt := wv_top ro (j := off) (n := m)
    have hVn : val v < BB ^ (m + 2) := by rw [hV0]; exact vp_lt rv _
    have bu2 := ro.get (off + m + 2)
    have bu1 := ro.get (off + m + 1)
    have bu0 := ro.get (off + m)
    have bv1 := rv.get (m + 1)
    have bv0 := rv.get m
    obtain ⟨T, hT⟩ : ∃ T, T = o.getD (off + m + 1) 0 + o.getD (off + m + 2) 0 * 4294967296 := ⟨_, rfl⟩
    have hT2 : o.getD (off + m + 2) 0 * 4294967296 * 4294967296 + o.getD (off + m + 1) 0 * 4294967296 + o.getD (off + m) 0 = T * 4294967296 + o.getD (off + m) 0 := by rw [hT, Nat.add_mul]; omega
    rw [hT2] at hUt
    rw [← hV0] at hVt
    have e1 := shl32 bu2
    have e2 := high_or bu1 bu2
    rw [← hT] at e2
    have hTb : T < 18446744073709551616 := by omega
    clear hT2
    obtain ⟨Y, hY⟩ : ∃ Y, Y = o.getD (off + m + 2) 0 * 4294967296 := ⟨_, rfl⟩
    rw [← hY] at e1 e2
    clear hY hT
    generalize hVV : val v = V at *
    generalize hUU : wv o off (m + 3) = U at *
    have hin := kn_init (top := T) hv1 bu0 hVt.1 hUt.2
    have htop := kn_htop bv0 hVt.2 hUt.1 hU
    obtain ⟨Pm, hPm⟩ : ∃ Pm, Pm = BB ^ m := ⟨_, rfl⟩
    rw [← hPm] at hVt hUt
    obtain ⟨v1, hv1e⟩ : ∃ v1, v1 = v.getD (m + 1) 0 := ⟨_, rfl⟩
    rw [← hv1e] at hVt hv1 bv1 hin htop
    obtain ⟨v2, hv2e⟩ : ∃ v2, v2 = v.getD m 0 := ⟨_, rfl⟩
    rw [← hv2e] at hVt bv0
    obtain ⟨u2, hu2e⟩ : ∃ u2, u2 = o.getD (off + m) 0 := ⟨_, rfl⟩
    rw [← hu2e] at hUt bu0
    have f1 : v.getD (m + 1) 0 = v1 := hv1e.symm
    have f2 : v.getD m 0 = v2 := hv2e.symm
    have f3 : o.getD (off + m) 0 = u2 := hu2e.symm
    have a1 : ((m + 2 : Nat) : Int) - 1 = ((m + 1 : Nat) : Int) := by omega
    have a2 : ((m + 2 : Nat) : Int) - 2 = ((m : Nat) : Int) := by omega
    have a3 : off + (m + 2) = off + m + 2 := by omega
    have a4 : off + (m + 1) = off + m + 1 := by omega
    have d1 : (T : Int).tdiv (v1 : Int) = ((T / v1 : Nat) : Int) := rfl
    have d2 : (T : Int).tmod (v1 : Int) = ((T % v1 : Nat) : Int) := rfl
    have d3 : T % v1 < v1 := Nat.mod_lt _ hv1
    have d4 : T / v1 < 18446744073709551616 := Nat.lt_of_le_of_lt (Nat.div_le_self _ _) hTb
    have d5 : T / v1 * v1 + T % v1 = T := by rw [Nat.mul_comm]; exact Nat.div_add_mod T v1
    replace hin := Hd.mk hin
    replace d5 := Hd.mk d5
    replace hVt := Hd.mk hVt
    replace hUt := Hd.mk hUt
    replace hU := Hd.mk hU
    replace hVn := Hd.mk hVn
    generalize T / v1 = q0 at *
    generalize T % v1 = r0 at *
    clear hv1e hv2e hu2e hPm
    simp (maxSteps := 4000000) (disch := omega) only [go_sem, ↓reduceIte, Nat.reduceAdd, Nat.reduceSub, Nat.reduceMul, Nat.reduceEqDiff, reduceCtorEq, Int.reduceAdd, Int.reduceLT, Int.reduceLE, Int.reduceToNat, Int.reduceNeg, Int.reduceSub, ← List.map_take, ← List.map_drop, wrap64, wrapu64, wrapu32, ← Int.natCast_add, ← Int.natCast_mul, cast_succ, wrapu32_nat, shr32, reps_wd, map_set_wd, List.length_set, zs_len, Try.f89, hm, a1, a2]
    refine W_drawn ?_
    simp (maxSteps := 4000000) (disch := omega) only [go_sem, ↓reduceIte, Nat.reduceAdd, Nat.reduceSub, Nat.reduceMul, Nat.reduceEqDiff, reduceCtorEq, Int.reduceAdd, Int.reduceLT, Int.reduceLE, Int.reduceToNat, Int.reduceNeg, Int.reduceSub, ← List.map_take, ← List.map_drop, wrap64, wrapu64, wrapu32, ← Int.natCast_add, ← Int.natCast_mul, cast_succ, wrapu32_nat, shr32, reps_wd, map_set_wd, List.length_set, zs_len, hH, hm, a1, a2, a3, a4, e1, e2]
    refine ⟨by rfl, ?_⟩
    refine W_drawn ?_
    simp (maxSteps := 4000000) (disch := omega) only [go_sem, ↓reduceIte, Nat.reduceAdd, Nat.reduceSub, Nat.reduceMul, Nat.reduceEqDiff, reduceCtorEq, Int.reduceAdd, Int.reduceLT, Int.reduceLE, Int.reduceToNat, Int.reduceNeg, Int.reduceSub, ← List.map_take, ← List.map_drop, wrap64, wrapu64, wrapu32, ← Int.natCast_add, ← Int.natCast_mul, cast_succ, wrapu32_nat, shr32, reps_wd, map_set_wd, List.length_set, zs_len, hm, a1, a2, f1, d1, d2]
    refine ⟨by rfl, ?_⟩
    refine W_mono (Q := fun e σ => e = .exit 0 ∧ ∃ (q : Nat), (∃ g : Nat → AV, σ.sl = [.ref id off (m + 3), .lst mv (v.map wd), g 2, g 3, g 4, .int .i64 (m + 2 : Nat), g 6, .int .u64 q, g 8, g 9, g 10, g 11, g 12, g 13, g 14, g 15, g 16, g 17, g 18, g 19, g 20, g 21, g 22, g 23, g 24, g 25, g 26, g 27, g 28, g 29, g 30, g 31, g 32, g 33, g 34, g 35, g 36, g 37, g 38, g 39, g 40, g 41, g 42, g 43, g 44, g 45, g 46, g 47, g 48, g 49, g 50, g 51, g 52, g 53, g 54, g 55, g 56, g 57, g 58, g 59, g 60, g 61, g 62, g 63, g 64, g 65, g 66, g 67, g 68, g 69, g 70, g 71, g 72, g 73, g 74, g 75, g 76, g 77, g 78, g 79, g 80, g 81, g 82, g 83, g 84, g 85, g 86, g 87, g 88, g 89, g 90, g 91, g 92, g 93, g 94, g 95, g 96, g 97, g 98, g 99, g 100, g 101, g 102, g 103, g 104, g 105, g 106, g 107, g 108, g 109, g 110, g 111, g 112, g 113, g 114, g 115, g 116, g 117, g 118, g 119, g 120, g 121, g 122, g 123, g 124, g 125, g 126, g 127, g 128, g 129, g 130, g 131, g 132, g 133, g 134, g 135, g 136, g 137, g 138, g 139, g 140, g 141, g 142, g 143, g 144, g 145, g 146, g 147, g 148, g 149, g 150, g 151, g 152, g 153, g 154, g 155, g 156, g 157, g 158, g 159, g 160, g 161, g 162, g 163, g 164, g 165, g 166, g 167, g 168, g 169]) ∧ σ.h = h ∧ σ.nx = nx ∧ q < 4294967296 ∧ Hd (q * V ≤ U + V) ∧ Hd (U < (q + 1) * V)) ?_ ?_
    · refine W_loopS (fun k sl H n => ∃ (r : Nat), (∃ g : Nat → AV, sl = [.ref id off (m + 3), .lst mv (v.map wd), g 2, g 3, g 4, .int .i64 (m + 2 : Nat), g 6, .int .u64 k, .int .u64 r, g 9, g 10, g 11, g 12, g 13, g 14, g 15, g 16, g 17, g 18, g 19, g 20, g 21, g 22, g 23, g 24, g 25, g 26, g 27, g 28, g 29, g 30, g 31, g 32, g 33, g 34, g 35, g 36, g 37, g 38, g 39, g 40, g 41, g 42, g 43, g 44, g 45, g 46, g 47, g 48, g 49, g 50, g 51, g 52, g 53, g 54, g 55, g 56, g 57, g 58, g 59, g 60, g 61, g 62, g 63, g 64, g 65, g 66, g 67, g 68, g 69, g 70, g 71, g 72, g 73, g 74, g 75, g 76, g 77, g 78, g 79, g 80, g 81, g 82, g 83, g 84, g 85, g 86, g 87, g 88, g 89, g 90, g 91, g 92, g 93, g 94, g 95, g 96, g 97, g 98, g 99, g 100, g 101, g 102, g 103, g 104, g 105, g 106, g 107, g 108, g 109, g 110, g 111, g 112, g 113, g 114, g 115, g 116, g 117, g 118, g 119, g 120, g 121, g 122, g 123, g 124, g 125, g 126, g 127, g 128, g 129, g 130, g 131, g 132, g 133, g 134, g 135, g 136, g 137, g 138, g 139, g 140, g 141, g 142, g 143, g 144, g 145, g 146, g 147, g 148, g 149, g 150, g 151, g 152, g 153, g 154, g 155, g 156, g 157, g 158, g 159, g 160, g 161, g 162, g 163, g 164, g 165, g 166, g 167, g 168, g 169]) ∧ H = h ∧ n = nx ∧
        k < 18446744073709551616 ∧ r < 4294967296 ∧ Hd (k * v1 + r = T) ∧ Hd (U < (k + 1) * V)) q0 ⟨r0, garb rfl, rfl, rfl, d4, by omega, d5, hin⟩ ?_
      clear d1 d2 d3 d4 d5 hin e1 e2
      rintro q _ _ _ ⟨r, ⟨g, rfl⟩, rfl, rfl, hq, hr, ht, hb⟩
      have g1 := shl32 hr
      have g2 := high_or bu0 hr
      obtain ⟨R, hR⟩ : ∃ R, R = r * 4294967296 := ⟨_, rfl⟩
      rw [← hR] at g1 g2
      have hR1 : R ≤ 18446744069414584320 := by omega
      by_cases hq2 : 4294967296 ≤ q
      · have hlt := kn_dec ht.out hVt.out.1 hUt.out.2 hU.out (.inl hq2)
        have g4 : (q : Int) - 1 = ((q - 1 : Nat) : Int) := by omega
        have ht2 : (q - 1) * v1 + (r + v1) = T := by
          have e := ht.out
          obtain ⟨k, rfl⟩ : ∃ k, q = k + 1 := ⟨q - 1, by omega⟩
          rw [Nat.add_mul] at e; simp only [Nat.add_sub_cancel]; omega
        have hb2 : U < (q - 1 + 1) * V := by rw [show q - 1 + 1 = q by omega]; exact hlt
        have hq3 : q / 4294967296 ≠ 0 := by omega
        clear hR g1 g2
        by_cases hr2 : 4294967296 ≤ r + v1
        · have hq1 : q - 1 < 4294967296 := by
            have h1 : (q - 1) * v1 < 4294967296 * v1 := by rw [Nat.add_mul] at htop; rw [Nat.mul_comm 4294967296]; omega
            exact Nat.lt_of_mul_lt_mul_right h1
          have hend := kn_end ht2 hv1 hVt.out.1 hVt.out.2 hUt.out.1 hq1 bv0 (.inr hr2)
          have hr3 : (r + v1) / 4294967296 ≠ 0 := by omega
          replace hb2 := Hd.mk hb2
          replace hend := Hd.mk hend
          clear ht ht2 hlt hq2 htop
          simp (maxSteps := 4000000) (disch := omega) only [go_sem, ↓reduceIte, Nat.reduceAdd, Nat.reduceSub, Nat.reduceMul, Nat.reduceEqDiff, reduceCtorEq, Int.reduceAdd, Int.reduceLT, Int.reduceLE, Int.reduceToNat, Int.reduceNeg, Int.reduceSub, ← List.map_take, ← List.map_drop, wrap64, wrapu64, wrapu32, ← Int.natCast_add, ← Int.natCast_mul, cast_succ, wrapu32_nat, shr32, reps_wd, map_set_wd, List.length_set, zs_len]
          refine W_drawn ?_
          simp (maxSteps := 4000000) (disch := omega) only [go_sem, ↓reduceIte, Nat.reduceAdd, Nat.reduceSub, Nat.reduceMul, Nat.reduceEqDiff, reduceCtorEq, Int.reduceAdd, Int.reduceLT, Int.reduceLE, Int.reduceToNat, Int.reduceNeg, Int.reduceSub, ← List.map_take, ← List.map_drop, wrap64, wrapu64, wrapu32, ← Int.natCast_add, ← Int.natCast_mul, cast_succ, wrapu32_nat, shr32, reps_wd, map_set_wd, List.length_set, zs_len, hm, a1, a2, shr32]
          refine ⟨by rfl, ?_⟩
          simp (maxSteps := 4000000) (disch := omega) only [go_sem, ↓reduceIte, Nat.reduceAdd, Nat.reduceSub, Nat.reduceMul, Nat.reduceEqDiff, reduceCtorEq, Int.reduceAdd, Int.reduceLT, Int.reduceLE, Int.reduceToNat, Int.reduceNeg, Int.reduceSub, ← List.map_take, ← List.map_drop, wrap64, wrapu64, wrapu32, ← Int.natCast_add, ← Int.natCast_mul, cast_succ, wrapu32_nat, shr32, reps_wd, map_set_wd, List.length_set, zs_len, hm, a1, a2, f1, g4, shr32]
          exact ⟨q - 1, garb rfl, hq1, hend, hb2⟩
        · have hr3 : (r + v1) / 4294967296 = 0 := by omega
          replace hb2 := Hd.mk hb2
          replace ht2 := Hd.mk ht2
          clear ht hlt hq2 htop
          simp (maxSteps := 4000000) (disch := omega) only [go_sem, ↓reduceIte, Nat.reduceAdd, Nat.reduceSub, Nat.reduceMul, Nat.reduceEqDiff, reduceCtorEq, Int.reduceAdd, Int.reduceLT, Int.reduceLE, Int.reduceToNat, Int.reduceNeg, Int.reduceSub, ← List.map_take, ← List.map_drop, wrap64, wrapu64, wrapu32, ← Int.natCast_add, ← Int.natCast_mul, cast_succ, wrapu32_nat, shr32, reps_wd, map_set_wd, List.length_set, zs_len]
          refine W_drawn ?_
          simp (maxSteps := 4000000) (disch := omega) only [go_sem, ↓reduceIte, Nat.reduceAdd, Nat.reduceSub, Nat.reduceMul, Nat.reduceEqDiff, reduceCtorEq, Int.reduceAdd, Int.reduceLT, Int.reduceLE, Int.reduceToNat, Int.reduceNeg, Int.reduceSub, ← List.map_take, ← List.map_drop, wrap64, wrapu64, wrapu32, ← Int.natCast_add, ← Int.natCast_mul, cast_succ, wrapu32_nat, shr32, reps_wd, map_set_wd, List.length_set, zs_len, hm, a1, a2, shr32]
          refine ⟨by rfl, ?_⟩
          simp (maxSteps := 4000000) (disch := omega) only [go_sem, ↓reduceIte, Nat.reduceAdd, Nat.reduceSub, Nat.reduceMul, Nat.reduceEqDiff, reduceCtorEq, Int.reduceAdd, Int.reduceLT, Int.reduceLE, Int.reduceToNat, Int.reduceNeg, Int.reduceSub, ← List.map_take, ← List.map_drop, wrap64, wrapu64, wrapu32, ← Int.natCast_add, ← Int.natCast_mul, cast_succ, wrapu32_nat, shr32, reps_wd, map_set_wd, List.length_set, zs_len, hm, a1, a2, f1, g4, shr32]
          exact ⟨q - 1, by omega, r + v1, garb rfl, by omega, by omega, ht2, hb2⟩
      · have hq3 : q / 4294967296 = 0 := by omega
        obtain ⟨X, hX⟩ : ∃ X, X = q * v2 := ⟨_, rfl⟩
        have hX2 : q * v2 = X := hX.symm
        have hXb := mul_word (show q < 4294967296 by omega) bv0
        rw [hX2] at hXb
        by_cases hc : R + u2 < X
        · have hlt := kn_dec ht.out hVt.out.1 hUt.out.2 hU.out (.inr (by rw [← hR, ← hX]; exact hc))
          have hq0 : q ≠ 0 := fun e => by rw [e, Nat.zero_mul] at hlt; omega
          have g4 : (q : Int) - 1 = ((q - 1 : Nat) : Int) := by omega
          have ht2 : (q - 1) * v1 + (r + v1) = T := by
            have e := ht.out
            obtain ⟨k, rfl⟩ : ∃ k, q = k + 1 := ⟨q - 1, by omega⟩
            rw [Nat.add_mul] at e; simp only [Nat.add_sub_cancel]; omega
          have hb2 : U < (q - 1 + 1) * V := by rw [show q - 1 + 1 = q by omega]; exact hlt
          clear hR hX
          by_cases hr2 : 4294967296 ≤ r + v1
          · have hend := kn_end ht2 hv1 hVt.out.1 hVt.out.2 hUt.out.1 (by omega) bv0 (.inr hr2)
            have hr3 : (r + v1) / 4294967296 ≠ 0 := by omega
            replace hb2 := Hd.mk hb2
            replace hend := Hd.mk hend
            have hc' : u2 + R < X := by omega
            clear ht ht2 hlt htop
            simp (maxSteps := 4000000) (disch := omega) only [go_sem, ↓reduceIte, Nat.reduceAdd, Nat.reduceSub, Nat.reduceMul, Nat.reduceEqDiff, reduceCtorEq, Int.reduceAdd, Int.reduceLT, Int.reduceLE, Int.reduceToNat, Int.reduceNeg, Int.reduceSub, ← List.map_take, ← List.map_drop, wrap64, wrapu64, wrapu32, ← Int.natCast_add, ← Int.natCast_mul, cast_succ, wrapu32_nat, shr32, reps_wd, map_set_wd, List.length_set, zs_len]
            refine W_drawn ?_
            simp (maxSteps := 4000000) (disch := omega) only [go_sem, ↓reduceIte, Nat.reduceAdd, Nat.reduceSub, Nat.reduceMul, Nat.reduceEqDiff, reduceCtorEq, Int.reduceAdd, Int.reduceLT, Int.reduceLE, Int.reduceToNat, Int.reduceNeg, Int.reduceSub, ← List.map_take, ← List.map_drop, wrap64, wrapu64, wrapu32, ← Int.natCast_add, ← Int.natCast_mul, cast_succ, wrapu32_nat, shr32, reps_wd, map_set_wd, List.length_set, zs_len, hH, hm, a1, a2, f2, f3, g1, g2, hX2, shr32]
            refine ⟨by rfl, ?_⟩
            simp (maxSteps := 4000000) (disch := omega) only [go_sem, ↓reduceIte, Nat.reduceAdd, Nat.reduceSub, Nat.reduceMul, Nat.reduceEqDiff, reduceCtorEq, Int.reduceAdd, Int.reduceLT, Int.reduceLE, Int.reduceToNat, Int.reduceNeg, Int.reduceSub, ← List.map_take, ← List.map_drop, wrap64, wrapu64, wrapu32, ← Int.natCast_add, ← Int.natCast_mul, cast_succ, wrapu32_nat, shr32, reps_wd, map_set_wd, List.length_set, zs_len, hm, a1, a2, f1, g4, shr32]
            exact ⟨q - 1, garb rfl, by omega, hend, hb2⟩
          · have hr3 : (r + v1) / 4294967296 = 0 := by omega
            replace hb2 := Hd.mk hb2
            replace ht2 := Hd.mk ht2
            have hc' : u2 + R < X := by omega
            clear ht hlt htop
            simp (maxSteps := 4000000) (disch := omega) only [go_sem, ↓reduceIte, Nat.reduceAdd, Nat.reduceSub, Nat.reduceMul, Nat.reduceEqDiff, reduceCtorEq, Int.reduceAdd, Int.reduceLT, Int.reduceLE, Int.reduceToNat, Int.reduceNeg, Int.reduceSub, ← List.map_take, ← List.map_drop, wrap64, wrapu64, wrapu32, ← Int.natCast_add, ← Int.natCast_mul, cast_succ, wrapu32_nat, shr32, reps_wd, map_set_wd, List.length_set, zs_len]
            refine W_drawn ?_
            simp (maxSteps := 4000000) (disch := omega) only [go_sem, ↓reduceIte, Nat.reduceAdd, Nat.reduceSub, Nat.reduceMul, Nat.reduceEqDiff, reduceCtorEq, Int.reduceAdd, Int.reduceLT, Int.reduceLE, Int.reduceToNat, Int.reduceNeg, Int.reduceSub, ← List.map_take, ← List.map_drop, wrap64, wrapu64, wrapu32, ← Int.natCast_add, ← Int.natCast_mul, cast_succ, wrapu32_nat, shr32, reps_wd, map_set_wd, List.length_set, zs_len, hH, hm, a1, a2, f2, f3, g1, g2, hX2, shr32]
            refine ⟨by rfl, ?_⟩
            simp (maxSteps := 4000000) (disch := omega) only [go_sem, ↓reduceIte, Nat.reduceAdd, Nat.reduceSub, Nat.reduceMul, Nat.reduceEqDiff, reduceCtorEq, Int.reduceAdd, Int.reduceLT, Int.reduceLE, Int.reduceToNat, Int.reduceNeg, Int.reduceSub, ← List.map_take, ← List.map_drop, wrap64, wrapu64, wrapu32, ← Int.natCast_add, ← Int.natCast_mul, cast_succ, wrapu32_nat, shr32, reps_wd, map_set_wd, List.length_set, zs_len, hm, a1, a2, f1, g4, shr32]
            exact ⟨q - 1, by omega, r + v1, garb rfl, by omega, by omega, ht2, hb2⟩
        · have hend := kn_end ht.out hv1 hVt.out.1 hVt.out.2 hUt.out.1 (by omega) bv0 (.inl (by rw [← hR, ← hX]; omega))
          replace hend := Hd.mk hend
          have hc' : ¬ u2 + R < X := by omega
          clear ht htop hR hX
          simp (maxSteps := 4000000) (disch := omega) only [go_sem, ↓reduceIte, Nat.reduceAdd, Nat.reduceSub, Nat.reduceMul, Nat.reduceEqDiff, reduceCtorEq, Int.reduceAdd, Int.reduceLT, Int.reduceLE, Int.reduceToNat, Int.reduceNeg, Int.reduceSub, ← List.map_take, ← List.map_drop, wrap64, wrapu64, wrapu32, ← Int.natCast_add, ← Int.natCast_mul, cast_succ, wrapu32_nat, shr32, reps_wd, map_set_wd, List.length_set, zs_len]
          refine W_drawn ?_
          simp (maxSteps := 4000000) (disch := omega) only [go_sem, ↓reduceIte, Nat.reduceAdd, Nat.reduceSub, Nat.reduceMul, Nat.reduceEqDiff, reduceCtorEq, Int.reduceAdd, Int.reduceLT, Int.reduceLE, Int.reduceToNat, Int.reduceNeg, Int.reduceSub, ← List.map_take, ← List.map_drop, wrap64, wrapu64, wrapu32, ← Int.natCast_add, ← Int.natCast_mul, cast_succ, wrapu32_nat, shr32, reps_wd, map_set_wd, List.length_set, zs_len, hH, hm, a1, a2, f2, f3, g1, g2, hX2, shr32]
          refine ⟨by rfl, ?_⟩
          exact ⟨q, garb rfl, by omega, hend, hb⟩
    · clear d1 d2 d3 d4 d5 hin e1 e2 f1 f2 f3 a1 a2 htop hUt hVt bu2 bu1 bu0 bv1 bv0 hTb hv1
      rintro e ⟨sl, H, nx'⟩ ⟨rfl, q, ⟨g, hs⟩, hh, hnn, hq, hle, hgt⟩
      dsimp only at hs hh hnn
      subst hs; subst H; subst nx'
      simp (maxSteps := 4000000) (disch := omega) only [go_sem, ↓reduceIte, Nat.reduceAdd, Nat.reduceSub, Nat.reduceMul, Nat.reduceEqDiff, reduceCtorEq, Int.reduceAdd, Int.reduceLT, Int.reduceLE, Int.reduceToNat, Int.reduceNeg, Int.reduceSub, ← List.map_take, ← List.map_drop, wrap64, wrapu64, wrapu32, ← Int.natCast_add, ← Int.natCast_mul, cast_succ, wrapu32_nat, shr32, reps_wd, map_set_wd, List.length_set, zs_len, hm]
      refine W_loopS (fun k sl H n => ∃ (i c : Nat) (p : List Nat), (∃ g : Nat → AV, sl = [.ref id off (m + 3), .lst mv (v.map wd), g 2, g 3, g 4, .int .i64 (m + 2 : Nat), g 6, .int .u64 q, g 8, .int .u64 c, g 10, g 11, g 12, g 13, g 14, g 15, g 16, g 17, g 18, g 19, g 20, g 21, g 22, g 23, g 24, g 25, g 26, g 27, g 28, g 29, g 30, g 31, g 32, g 33, g 34, g 35, g 36, g 37, g 38, g 39, g 40, g 41, g 42, g 43, g 44, g 45, g 46, g 47, g 48, g 49, g 50, g 51, g 52, g 53, g 54, g 55, g 56, g 57, g 58, g 59, g 60, g 61, g 62, g 63, g 64, g 65, g 66, g 67, g 68, g 69, g 70, g 71, g 72, g 73, g 74, g 75, g 76, g 77, g 78, g 79, g 80, g 81, g 82, g 83, g 84, .lst mv (v.map wd), .int .i64 (m + 2 : Nat), .int .i64 i, g 88, g 89, g 90, g 91, g 92, g 93, g 94, g 95, g 96, g 97, g 98, g 99, g 100, g 101, g 102, g 103, g 104, g 105, g 106, g 107, g 108, g 109, g 110, g 111, g 112, g 113, g 114, g 115, g 116, g 117, g 118, g 119, g 120, g 121, g 122, g 123, g 124, g 125, g 126, g 127, g 128, g 129, g 130, g 131, g 132, g 133, g 134, g 135, g 136, g 137, g 138, g 139, g 140, g 141, g 142, g 143, g 144, g 145, g 146, g 147, g 148, g 149, g 150, g 151, g 152, g 153, g 154, g 155, g 156, g 157, g 158, g 159, g 160, g 161, g 162, g 163, g 164, g 165, g 166, g 167, g 168, g 169]) ∧ n = nx ∧
        H id = some ⟨p.map wd, false, 1, false⟩ ∧ Hd (∀ j, j ≠ id → H j = h j) ∧ p.length = o.length ∧ InR p ∧ i + k = m + 2 ∧ c ≤ 4294967296 ∧ Hd (wv p off i + q * vp v i = wv o off i + (c + 0) * BB ^ i) ∧ Hd (∀ t, t < off ∨ off + i ≤ t → p.getD t 0 = o.getD t 0)) (m + 2)
        ⟨0, 0, o, garb rfl, rfl, hH, ⟨fun _ _ => rfl⟩, rfl, ro, by omega, by omega, ⟨by simp [wv, vp]⟩, ⟨fun _ _ => rfl⟩⟩ ?_
      rintro k _ H nx ⟨i, c, p, ⟨g, rfl⟩, rfl, hHp, hF, hp, rp, hi, hc, hv, hz⟩
      by_cases hk : k = 0
      · obtain rfl : i = m + 2 := by omega
        have hz0 := hz.out (off + m + 2) (.inr (by omega))
        have bx := rp.get (off + m + 2)
        obtain ⟨X, hX⟩ : ∃ X : Nat, (c ≤ p.getD (off + m + 2) 0 ∧ X = p.getD (off + m + 2) 0 - c) ∨ (p.getD (off + m + 2) 0 < c ∧ X = 18446744073709551616 + p.getD (off + m + 2) 0 - c) := by
          by_cases h : c ≤ p.getD (off + m + 2) 0
          · exact ⟨_, .inl ⟨h, rfl⟩⟩
          · exact ⟨_, .inr ⟨by omega, rfl⟩⟩
        have hw : X % 4294967296 + c = p.getD (off + m + 2) 0 + X / 9223372036854775808 * 4294967296 := by omega
        have hb1 : X / 9223372036854775808 ≤ 1 := by omega
        have eX : IntKind.u64.wrap (((p.getD (off + m + 2) 0 : Nat) : Int) - (c : Int)) = (X : Int) := by rw [IntKind.wrap_u64]; omega
        have hlast := ms_last (o := o) (p := p) (j := off) (n := m + 2) (c := c) (w := X % 4294967296) (b := X / 9223372036854775808) (C := q * V) (by omega) (by rw [← hVV, val, hm]; exact hv.out) (by rw [a3, hw, hz0])
        rw [show off + (m + 2) = off + m + 2 by omega, show m + 2 + 1 = m + 3 by omega, hUU] at hlast
        obtain ⟨bt, hbt⟩ : ∃ bt, bt = X / 9223372036854775808 := ⟨_, rfl⟩
        have eb : (X : Int).fdiv (2 ^ min 63 (kb .u64)) = (bt : Int) := by rw [shr63, hbt]
        rw [← hbt] at hlast hb1
        clear hbt
        have rp2 : InR (p.set (off + m + 2) (X % 4294967296)) := rp.set (Nat.mod_lt _ (by decide))
        have hz2 : ∀ t, t < off ∨ off + m + 3 ≤ t → (p.set (off + m + 2) (X % 4294967296)).getD t 0 = o.getD t 0 := fun t ht => by
          rw [lget_set_ne (by omega)]; exact hz.out t (by omega)
        have hF2 : ∀ b, ∀ j, j ≠ id → (H.upd id b) j = h j := fun b j hj => by rw [upd_ne hj]; exact hF.out j hj
        have hpl : (p.set (off + m + 2) (X % 4294967296)).length = o.length := by rw [List.length_set, hp]
        clear hX
        generalize hP1 : p.set (off + m + 2) (X % 4294967296) = P1 at *
        by_cases hbit : bt = 0
        · have hfin := kn_fin0' hlast hbit hgt.out
          clear hlast
          have hqq : q % 4294967296 = q := Nat.mod_eq_of_lt hq
          clear hgt hle hU hVn hv hz
          subst hbit
          simp (maxSteps := 4000000) (disch := omega) only [go_sem, ↓reduceIte, Nat.reduceAdd, Nat.reduceSub, Nat.reduceMul, Nat.reduceEqDiff, reduceCtorEq, Int.reduceAdd, Int.reduceLT, Int.reduceLE, Int.reduceToNat, Int.reduceNeg, Int.reduceSub, ← List.map_take, ← List.map_drop, wrap64, wrapu64, wrapu32, ← Int.natCast_add, ← Int.natCast_mul, cast_succ, wrapu32_nat, shr32, reps_wd, map_set_wd, List.length_set, zs_len, hHp, hp, a3, eX, eb, hP1, hqq]
          exact ⟨P1, by rw [hfin.1], by simp, hF2 _, rp2, hpl, hfin.2, hz2⟩
        · have hbit1 : bt = 1 := by omega
          replace hlast := kn_one hlast hbit1
          have hlt : U < q * V := by
            have h1 := wv_lt rp2 off (m + 3)
            omega
          clear hv hz
          replace hgt := Hd.mk hlt
          replace hlast := Hd.mk hlast
          clear hlt
          subst hbit1
          simp (maxSteps := 4000000) (disch := omega) only [go_sem, ↓reduceIte, Nat.reduceAdd, Nat.reduceSub, Nat.reduceMul, Nat.reduceEqDiff, reduceCtorEq, Int.reduceAdd, Int.reduceLT, Int.reduceLE, Int.reduceToNat, Int.reduceNeg, Int.reduceSub, ← List.map_take, ← List.map_drop, wrap64, wrapu64, wrapu32, ← Int.natCast_add, ← Int.natCast_mul, cast_succ, wrapu32_nat, shr32, reps_wd, map_set_wd, List.length_set, zs_len, hHp, hp, a3, eX, eb, hP1, hm]
          refine W_loopS (fun k sl H2 n => ∃ (i c : Nat) (p2 : List Nat), (∃ g : Nat → AV, sl = [.ref id off (m + 3), .lst mv (v.map wd), g 2, g 3, g 4, .int .i64 (m + 2 : Nat), g 6, .int .u64 q, g 8, g 9, g 10, g 11, g 12, g 13, g 14, .int .u64 c, g 16, g 17, g 18, g 19, g 20, g 21, g 22, g 23, g 24, g 25, g 26, g 27, g 28, g 29, g 30, g 31, g 32, g 33, g 34, g 35, g 36, g 37, g 38, g 39, g 40, g 41, g 42, g 43, g 44, g 45, g 46, g 47, g 48, g 49, g 50, g 51, g 52, g 53, g 54, g 55, g 56, g 57, g 58, g 59, g 60, g 61, g 62, g 63, g 64, g 65, g 66, g 67, g 68, g 69, g 70, g 71, g 72, g 73, g 74, g 75, g 76, g 77, g 78, g 79, g 80, g 81, g 82, g 83, g 84, g 85, g 86, g 87, g 88, g 89, g 90, g 91, g 92, g 93, g 94, g 95, g 96, g 97, g 98, g 99, g 100, g 101, g 102, g 103, g 104, g 105, g 106, g 107, g 108, g 109, g 110, g 111, g 112, g 113, g 114, g 115, g 116, g 117, g 118, g 119, g 120, g 121, g 122, g 123, g 124, g 125, g 126, g 127, g 128, g 129, g 130, g 131, g 132, g 133, .lst mv (v.map wd), .int .i64 (m + 2 : Nat), .int .i64 i, g 137, g 138, g 139, g 140, g 141, g 142, g 143, g 144, g 145, g 146, g 147, g 148, g 149, g 150, g 151, g 152, g 153, g 154, g 155, g 156, g 157, g 158, g 159, g 160, g 161, g 162, g 163, g 164, g 165, g 166, g 167, g 168, g 169]) ∧ n = nx ∧
            H2 id = some ⟨p2.map wd, false, 1, false⟩ ∧ Hd (∀ j, j ≠ id → H2 j = h j) ∧ p2.length = o.length ∧ InR p2 ∧ i + k = m + 2 ∧ c ≤ 1 ∧ Hd (wv p2 off i + c * BB ^ i = wv P1 off i + vp v i) ∧ Hd (∀ t, t < off ∨ off + i ≤ t → p2.getD t 0 = P1.getD t 0)) (m + 2)
            ⟨0, 0, P1, garb rfl, rfl, upd_same, ⟨hF2 _⟩, hpl, rp2, by omega, by omega, ⟨by simp [wv, vp]⟩, ⟨fun _ _ => rfl⟩⟩ ?_
          clear hHp hF eX hbit eb hb1 hc hF2 hz0 bx
          rintro k _ H2 _ ⟨i, c, p2, ⟨g, rfl⟩, rfl, hHp, hF, hp2, rp3, hi, hc, hv, hz⟩
          by_cases hk2 : k = 0
          · obtain rfl : i = m + 2 := by omega
            have hz0 := hz.out (off + m + 2) (.inr (by omega))
            have bx := rp3.get (off + m + 2)
            obtain ⟨w, hw⟩ : ∃ w, w = p2.getD (off + m + 2) 0 + c := ⟨_, rfl⟩
            have hw2 : p2.getD (off + m + 2) 0 + c = w := hw.symm
            have hfin : wv (p2.set (off + m + 2) (w % 4294967296)) off (m + 3) + w / 4294967296 * BB ^ (m + 3) = wv P1 off (m + 3) + V := by
              have h2 := hv.out
              rw [← hV0] at h2
              have h3 := as_last (p := p2) (P := P1) (j := off) (n := m + 2) (c := c) (w := w) (V := V) (by omega) h2 (by rw [a3, hw, hz0])
              rw [a3] at h3
              exact h3
            have rp4 : InR (p2.set (off + m + 2) (w % 4294967296)) := rp3.set (Nat.mod_lt _ (by decide))
            have hback := kn_back (U := U) (V := V) (q := q) (n := m + 3) (by rw [← hlast.out]) hfin (wv_lt rp4 _ _) hle.out (Nat.le_trans (Nat.le_of_lt hVn.out) (Nat.pow_le_pow_right (by decide) (by omega))) hgt.out
            have hres := kn_fin1 hgt.out hle.out hback
            have hz3 : ∀ t, t < off ∨ off + m + 3 ≤ t → (p2.set (off + m + 2) (w % 4294967296)).getD t 0 = o.getD t 0 := fun t ht => by
              rw [lget_set_ne (by omega), hz.out t (by omega), hz2 t (by omega)]
            have hF2 : ∀ b, ∀ j, j ≠ id → (H2.upd id b) j = h j := fun b j hj => by rw [upd_ne hj]; exact hF.out j hj
            have hpl2 : (p2.set (off + m + 2) (w % 4294967296)).length = o.length := by rw [List.length_set, hp2]
            have hq1 := hres.2.2
            have hqq : (q - 1) % 4294967296 = q - 1 := Nat.mod_eq_of_lt (by omega)
            have g4 : (q : Int) - 1 = ((q - 1 : Nat) : Int) := by omega
            have hcm : c % 4294967296 = c := Nat.mod_eq_of_lt (by omega)
            clear hgt hle hU hVn hv hz hw hfin hback hlast hz0
            simp (maxSteps := 4000000) (disch := omega) only [go_sem, ↓reduceIte, Nat.reduceAdd, Nat.reduceSub, Nat.reduceMul, Nat.reduceEqDiff, reduceCtorEq, Int.reduceAdd, Int.reduceLT, Int.reduceLE, Int.reduceToNat, Int.reduceNeg, Int.reduceSub, ← List.map_take, ← List.map_drop, wrap64, wrapu64, wrapu32, ← Int.natCast_add, ← Int.natCast_mul, cast_succ, wrapu32_nat, shr32, reps_wd, map_set_wd, List.length_set, zs_len, hHp, hp2, a3, hw2, hcm, g4, hqq]
            exact ⟨_, by rw [hres.1], by simp, hF2 _, rp4, hpl2, hres.2.1, hz3⟩
          · have hx := rp3.get (off + i)
            have hy := rv.get i
            have hz0 := hz.out (off + i) (.inr (by omega))
            obtain ⟨s, hs⟩ : ∃ s, s = c + (p2.getD (off + i) 0 + v.getD i 0) := ⟨_, rfl⟩
            have hs2 : c + (p2.getD (off + i) 0 + v.getD i 0) = s := hs.symm
            have stp := as_step (o := P1) (p := p2) (v := v) (j := off) (i := i) (c := c) (s := s) (by omega) hv.out (by rw [hs, hz0]; omega)
            have stz : ∀ t, t < off ∨ off + (i + 1) ≤ t → (p2.set (off + i) (s % 4294967296)).getD t 0 = P1.getD t 0 := fun t ht => by
              rw [lget_set_ne (by omega)]; exact hz.out t (by omega)
            have hF2 : ∀ b, ∀ j, j ≠ id → (H2.upd id b) j = h j := fun b j hj => by rw [upd_ne hj]; exact hF.out j hj
            have hsb : s / 4294967296 ≤ 1 := by omega
            have hsb2 : s < 18446744073709551616 := by omega
            have hs3 : p2.getD (off + i) 0 + v.getD i 0 < 18446744073709551616 := by omega
            clear hgt hle hU hVn hv hz hs hlast hz0
            simp (maxSteps := 4000000) (disch := omega) only [go_sem, ↓reduceIte, Nat.reduceAdd, Nat.reduceSub, Nat.reduceMul, Nat.reduceEqDiff, reduceCtorEq, Int.reduceAdd, Int.reduceLT, Int.reduceLE, Int.reduceToNat, Int.reduceNeg, Int.reduceSub, ← List.map_take, ← List.map_drop, wrap64, wrapu64, wrapu32, ← Int.natCast_add, ← Int.natCast_mul, cast_succ, wrapu32_nat, shr32, reps_wd, map_set_wd, List.length_set, zs_len, hHp, hp2, hm, hs2]
            exact ⟨k - 1, by omega, i + 1, s / 4294967296, p2.set (off + i) (s % 4294967296), garb rfl, by simp, ⟨hF2 _⟩, by rw [List.length_set, hp2], rp3.set (Nat.mod_lt _ (by decide)), by omega, hsb, ⟨stp⟩, ⟨stz⟩⟩
      · have hx := rp.get (off + i)
        have hy := rv.get i
        have hz0 := hz.out (off + i) (.inr (by omega))
        have hPb := mul_word hq hy
        obtain ⟨M, hM⟩ : ∃ M, M = q * v.getD i 0 := ⟨_, rfl⟩
        have hM2 : q * v.getD i 0 = M := hM.symm
        rw [hM2] at hPb
        have hMc : M + c < 18446744073709551616 := by omega
        have gl := and_low hMc
        obtain ⟨X, hX⟩ : ∃ X : Nat, ((M + c) % 4294967296 ≤ p.getD (off + i) 0 ∧ X = p.getD (off + i) 0 - (M + c) % 4294967296) ∨ (p.getD (off + i) 0 < (M + c) % 4294967296 ∧ X = 18446744073709551616 + p.getD (off + i) 0 - (M + c) % 4294967296) := by
          by_cases h : (M + c) % 4294967296 ≤ p.getD (off + i) 0
          · exact ⟨_, .inl ⟨h, rfl⟩⟩
          · exact ⟨_, .inr ⟨by omega, rfl⟩⟩
        have hw : X % 4294967296 + (M + c) % 4294967296 + 0 = p.getD (off + i) 0 + X / 9223372036854775808 * 4294967296 := by omega
        have hb1 : X / 9223372036854775808 ≤ 1 := by omega
        have eX : IntKind.u64.wrap (((p.getD (off + i) 0 : Nat) : Int) - (((M + c) % 4294967296 : Nat) : Int)) = (X : Int) := by rw [IntKind.wrap_u64]; omega
        have stp := ms_step (o := o) (p := p) (v := v) (j := off) (i := i) (q := q) (c0 := c) (b0 := 0) (b1 := X / 9223372036854775808) (w := X % 4294967296) (x := M + c) (by omega) hv.out (by rw [hM]) (by rw [hw, hz0])
        have stz : ∀ t, t < off ∨ off + (i + 1) ≤ t → (p.set (off + i) (X % 4294967296)).getD t 0 = o.getD t 0 := fun t ht => by
          rw [lget_set_ne (by omega)]; exact hz.out t (by omega)
        have hF2 : ∀ b, ∀ j, j ≠ id → (H.upd id b) j = h j := fun b j hj => by rw [upd_ne hj]; exact hF.out j hj
        have hcb : (M + c) / 4294967296 + X / 9223372036854775808 ≤ 4294967296 := by omega
        have hcb2 : (M + c) / 4294967296 < 4294967296 := by omega
        clear hgt hle hU hVn hv hz hX hw hM hz0
        simp (maxSteps := 4000000) (disch := omega) only [go_sem, ↓reduceIte, Nat.reduceAdd, Nat.reduceSub, Nat.reduceMul, Nat.reduceEqDiff, reduceCtorEq, Int.reduceAdd, Int.reduceLT, Int.reduceLE, Int.reduceToNat, Int.reduceNeg, Int.reduceSub, ← List.map_take, ← List.map_drop, wrap64, wrapu64, wrapu32, ← Int.natCast_add, ← Int.natCast_mul, cast_succ, wrapu32_nat, shr32, reps_wd, map_set_wd, List.length_set, zs_len, hHp, hp, hm, hM2, gl, eX, shr63]
        exact ⟨k - 1, by omega, i + 1, (M + c) / 4294967296 + X / 9223372036854775808, p.set (off + i) (X % 4294967296), garb rfl, by simp, ⟨hF2 _⟩, by rw [List.length_set, hp], rp.set (Nat.mod_lt _ (by decide)), by omega, hcb, ⟨stp⟩, ⟨stz⟩⟩
  obtain ⟨x, h', n, h1, p, rfl, rfl, h2, h3, h4, h5, h6, h7⟩ := key
  exact ⟨p, h', h1, h2, h3, h4, h5, h6, h7⟩
end Go.Proofs.Ytiglncbaomoceaa

/- Walks: dividing rows of words. (Own work of this repo.) -/
namespace Go.Proofs.Ytiglncbaomoceaa
open Vm
set_option maxRecDepth 100000

theorem div_word {T b r x : Nat} (hr : r < b) (hb : b < 4294967296) (hx : x < 4294967296) (hT : T = x + r * 4294967296) : T / b < 4294967296 := by
  rw [Nat.div_lt_iff_lt_mul (by omega), hT, Nat.mul_comm]
  have : (r + 1) * 4294967296 ≤ b * 4294967296 := Nat.mul_le_mul_right _ hr
  omega
set_option maxHeartbeats 1000000 in
theorem over_spec (m : Bool) (a : List Nat) (b : Nat) (ha : InR a) (la : a.length < 2 ^ 40) (hb : 0 < b) (hb2 : b < 4294967296) :
    denP E 77 [.lst m (a.map wd), .int .u32 b] = some (.ret (.tup [.lst false ((dig (val a / b)).map wd), .int .u32 (val a % b : Nat)])) := by
  refine denP_eq E77 rfl (by simp [AV.pureL, AV.pure, pure_wd]) ?_
  simp (maxSteps := 4000000) (disch := omega) only [go_sem, ↓reduceIte, Nat.reduceAdd, Nat.reduceSub, Nat.reduceMul, Nat.reduceEqDiff, reduceCtorEq, Int.reduceAdd, Int.reduceLT, Int.reduceLE, Int.reduceToNat, Int.reduceNeg, Int.reduceSub, ← List.map_take, ← List.map_drop, wrap64, wrapu64, wrapu32, ← Int.natCast_add, ← Int.natCast_mul, cast_succ, wrapu32_nat, shr32, reps_wd, map_set_wd, List.length_set, zs_len, Try.f77]
  refine W_loopS (fun k sl H nx => ∃ (r : Nat) (o : List Nat), (∃ g : Nat → AV, sl = [.lst m (a.map wd), .int .u32 b, g 2, g 3, g 4, g 5, .ref 0 0 a.length, .int .u64 r, .int .i64 ((k : Int) - 1), g 9, g 10, g 11, g 12, g 13, g 14, g 15, g 16, g 17, g 18, g 19, g 20, g 21, g 22, g 23, g 24, g 25, g 26, g 27, g 28, g 29, g 30, g 31, g 32, g 33, g 34, g 35, g 36, g 37, g 38, g 39, g 40, g 41, g 42]) ∧ nx = 1 ∧
    H 0 = some ⟨o.map wd, false, 1, false⟩ ∧ o.length = a.length ∧ InR o ∧ k ≤ a.length ∧ r < b ∧ Hd (wv o k (a.length - k) * b + r = wv a k (a.length - k))) a.length
    ⟨0, _, garb rfl, rfl, rfl, zs_len _, zs_inR _, by omega, hb, ⟨by rw [Nat.sub_self]; simp [wv]⟩⟩ ?_
  rintro k _ H _ ⟨r, o, ⟨g, rfl⟩, rfl, hH, ho, hr, hk, hrb, hv⟩
  by_cases hk0 : k = 0
  · subst hk0
    have h1 := hv.out
    rw [Nat.sub_zero, wv_zero, wv_zero, ← ho, show vp o o.length = val o from rfl, ho, show vp a a.length = val a from rfl] at h1
    have hq : val a / b = val o := by
      rw [← h1, Nat.mul_comm, Nat.mul_add_div hb, Nat.div_eq_of_lt hrb, Nat.add_zero]
    have hm : val a % b = r := by rw [← h1, Nat.mul_comm, Nat.mul_add_mod, Nat.mod_eq_of_lt hrb]
    have ht := trim_spec false o hr (by omega)
    have hrr : r % 4294967296 = r := Nat.mod_eq_of_lt (by omega)
    clear hv h1
    simp (maxSteps := 4000000) (disch := omega) only [go_sem, ↓reduceIte, Nat.reduceAdd, Nat.reduceSub, Nat.reduceMul, Nat.reduceEqDiff, reduceCtorEq, Int.reduceAdd, Int.reduceLT, Int.reduceLE, Int.reduceToNat, Int.reduceNeg, Int.reduceSub, ← List.map_take, ← List.map_drop, wrap64, wrapu64, wrapu32, ← Int.natCast_add, ← Int.natCast_mul, cast_succ, wrapu32_nat, shr32, reps_wd, map_set_wd, List.length_set, zs_len, hH, ho, List.take_of_length_le, ht, hq, hm, hrr]
  · have e1 : (k : Int) - 1 = ((k - 1 : Nat) : Int) := by omega
    obtain ⟨j, rfl⟩ : ∃ j, k = j + 1 := ⟨k - 1, by omega⟩
    rw [Nat.add_sub_cancel] at e1
    have hx := ha.get j
    have e2 := shl32 (show r < 4294967296 by omega)
    have e3 := high_or hx (show r < 4294967296 by omega)
    obtain ⟨T, hT⟩ : ∃ T, T = a.getD j 0 + r * 4294967296 := ⟨_, rfl⟩
    rw [← hT] at e3
    have hTb : T < 18446744073709551616 := by omega
    have hTq := div_word hrb hb2 hx hT
    have st := short_step (o := o) (a := a) (n := a.length - (j + 1)) (by omega) hrb hT hv.out
    rw [show a.length - (j + 1) + 1 = a.length - j by omega] at st
    obtain ⟨R, hR⟩ : ∃ R, R = r * 4294967296 := ⟨_, rfl⟩
    rw [← hR] at e2 e3
    have hTm : T % b < b := Nat.mod_lt _ hb
    have d1 : (T : Int).tdiv (b : Int) = ((T / b : Nat) : Int) := rfl
    have d2 : (T : Int).tmod (b : Int) = ((T % b : Nat) : Int) := rfl
    clear hv hT hR
    generalize hqe : T / b = q at *
    generalize T % b = r' at *
    have hqq : q % 4294967296 = q := Nat.mod_eq_of_lt hTq
    clear hqe
    simp (maxSteps := 4000000) (disch := omega) only [go_sem, ↓reduceIte, Nat.reduceAdd, Nat.reduceSub, Nat.reduceMul, Nat.reduceEqDiff, reduceCtorEq, Int.reduceAdd, Int.reduceLT, Int.reduceLE, Int.reduceToNat, Int.reduceNeg, Int.reduceSub, ← List.map_take, ← List.map_drop, wrap64, wrapu64, wrapu32, ← Int.natCast_add, ← Int.natCast_mul, cast_succ, wrapu32_nat, shr32, reps_wd, map_set_wd, List.length_set, zs_len, hH, ho, e1, e2, e3, d1, d2, hqq]
    exact ⟨j, by omega, r', o.set j q, garb rfl, rfl, by rw [List.length_set, ho], hr.set hTq, by omega, hTm, ⟨st⟩⟩
end Go.Proofs.Ytiglncbaomoceaa

/- Walks: dividing rows of words by two words or more. (Own work of this repo.) -/
namespace Go.Proofs.Ytiglncbaomoceaa
open Vm
set_option maxRecDepth 100000

theorem top_pow {b : List Nat} (hb : Norm b) {n : Nat} (hn : b.length = n + 1) : ∃ K, K = 32 - bl (b.getD n 0) ∧ K < 32 ∧ bl (b.getD n 0) ≤ 32 ∧ BB ^ n * 2147483648 ≤ val b * 2 ^ K ∧ val b * 2 ^ K < BB ^ (n + 1) := by
  have hne : b ≠ [] := fun e => by rw [e] at hn; simp at hn
  have h0 : b.getD n 0 ≠ 0 := by
    have := hb.2.resolve_left hne
    rwa [hn, Nat.add_sub_cancel] at this
  have hx := hb.1.get n
  have h32 : bl (b.getD n 0) ≤ 32 := bl_le.2 hx
  have h1 := bl_nz h0
  have h2 := bl_ge h0
  have h3 := bl_lt (b.getD n 0)
  have h4 := vp_lt hb.1 n
  have e : val b = vp b n + b.getD n 0 * BB ^ n := by rw [val, hn, vp]
  refine ⟨_, rfl, by omega, h32, ?_, ?_⟩
  · have h5 : 2 ^ (bl (b.getD n 0) - 1) * 2 ^ (32 - bl (b.getD n 0)) = 2147483648 := by
      rw [← Nat.pow_add, show bl (b.getD n 0) - 1 + (32 - bl (b.getD n 0)) = 31 by omega]
    have h6 := Nat.mul_le_mul_right (2 ^ (32 - bl (b.getD n 0))) h2
    rw [h5] at h6
    have h7 := Nat.mul_le_mul_left (BB ^ n) h6
    refine Nat.le_trans h7 ?_
    rw [e, Nat.add_mul, ← Nat.mul_assoc, Nat.mul_comm (BB ^ n)]
    exact Nat.le_add_left _ _
  · have h5 : 2 ^ (bl (b.getD n 0)) * 2 ^ (32 - bl (b.getD n 0)) = 4294967296 := by
      rw [← Nat.pow_add, show bl (b.getD n 0) + (32 - bl (b.getD n 0)) = 32 by omega]
    have h6 : val b < 2 ^ bl (b.getD n 0) * BB ^ n := by
      have : (b.getD n 0 + 1) * BB ^ n ≤ 2 ^ bl (b.getD n 0) * BB ^ n := Nat.mul_le_mul_right _ h3
      rw [Nat.add_mul] at this
      omega
    have h7 := Nat.mul_lt_mul_of_pos_right h6 (show 0 < 2 ^ (32 - bl (b.getD n 0)) from Nat.pow_pos (by decide))
    rw [Nat.mul_assoc, Nat.mul_comm (BB ^ n), ← Nat.mul_assoc, h5] at h7
    rw [Nat.pow_succ, Nat.mul_comm]
    rwa [Nat.mul_comm, Nat.mul_comm 4294967296] at h7
theorem dig_eq_len {N k : Nat} (h1 : BB ^ k ≤ N) (h2 : N < BB ^ (k + 1)) : (dig N).length = k + 1 := by
  have h3 := dig_len.2 h2
  rcases Nat.lt_or_ge (dig N).length (k + 1) with h | h
  · have := dig_len.1 (show (dig N).length ≤ k by omega)
    omega
  · omega
/-- The start of a long division. -/
theorem kn_start {a b K n la : Nat} (ha : a < BB ^ la) (hb : BB ^ n * 2147483648 ≤ b * 2 ^ K) (hK : K < 32) (hn : n ≤ la) : a * 2 ^ K < b * 2 ^ K * BB ^ (la - n) := by
  have h1 : BB ^ n * 2147483648 * BB ^ (la - n) ≤ b * 2 ^ K * BB ^ (la - n) := Nat.mul_le_mul_right _ hb
  have h2 : BB ^ n * 2147483648 * BB ^ (la - n) = BB ^ la * 2147483648 := by
    rw [Nat.mul_assoc, Nat.mul_comm 2147483648, ← Nat.mul_assoc, ← Nat.pow_add, show n + (la - n) = la by omega]
  have h3 : a * 2 ^ K < BB ^ la * 2 ^ K := Nat.mul_lt_mul_of_pos_right ha (Nat.pow_pos (by decide))
  have h4 : BB ^ la * 2 ^ K ≤ BB ^ la * 2147483648 := Nat.mul_le_mul_left _ (pow_lt32 hK)
  omega
theorem div_shift {a b K q r : Nat} (hb : 0 < b) (h : r + q * (b * 2 ^ K) = a * 2 ^ K) (hr : r < b * 2 ^ K) : q = a / b ∧ r / 2 ^ K = a % b := by
  have hp : 0 < 2 ^ K := Nat.pow_pos (by decide)
  have h1 : q = a * 2 ^ K / (b * 2 ^ K) := by
    rw [← h, Nat.add_mul_div_right _ _ (Nat.mul_pos hb hp), Nat.div_eq_of_lt hr, Nat.zero_add]
  have h2 : r = a * 2 ^ K % (b * 2 ^ K) := by
    rw [← h, Nat.add_mul_mod_self_right, Nat.mod_eq_of_lt hr]
  constructor
  · rw [h1, Nat.mul_div_mul_right _ _ hp]
  · rw [h2, Nat.mul_mod_mul_right, Nat.mul_div_cancel _ hp]
theorem inR_pad {l : List Nat} (h : InR l) (n : Nat) : InR (l ++ zs n) := fun x hx => by
  rcases List.mem_append.1 hx with h1 | h1
  · exact h x h1
  · exact zs_inR n x h1
theorem val_pad (l : List Nat) (n : Nat) : val (l ++ zs n) = val l := by
  have h1 := val_of_zero (o := l ++ zs n) (m := l.length) (fun i hi => by
    rw [List.getD_eq_getElem?_getD, List.getElem?_append_right hi, ← List.getD_eq_getElem?_getD, zs_get])
  rw [h1, val]
  exact vp_congr _ fun i hi => by rw [List.getD_eq_getElem?_getD, List.getD_eq_getElem?_getD, List.getElem?_append_left hi]
theorem wd_zero : AV.int .u32 0 = wd 0 := rfl
set_option maxHeartbeats 4000000 in
theorem divide_spec (ma : Bool) (a : List Nat) (mb : Bool) (b : List Nat) (ha : Norm a) (hb : Norm b) (hb0 : b ≠ []) (la : a.length < 2 ^ 36) (lb : b.length < 2 ^ 36) (hna : ma = true → a = []) :
    ∃ m : Bool × Bool, denP E 81 [.lst ma (a.map wd), .lst mb (b.map wd)] = some (.ret (.tup [.lst m.1 ((dig (val a / val b)).map wd), .lst m.2 ((dig (val a % val b)).map wd)])) ∧ (m.1 = true → val a / val b = 0) ∧ (m.2 = true → val a % val b = 0) := by
  refine denP_ex E81 rfl (by simp [AV.pureL, AV.pure, pure_wd]) ?_
  have hpos := norm_pos hb hb0
  have hc := compare_spec ma a mb b ha hb (by omega) (by omega)
  by_cases hlt : val a < val b
  · rw [cmpN, if_pos hlt] at hc
    rw [Nat.div_eq_of_lt hlt, Nat.mod_eq_of_lt hlt, dig_zero, dig_val ha]
    cases ma with
    | true =>
      obtain rfl := hna rfl
      simp only [List.map_nil] at hc
      simp (maxSteps := 4000000) (disch := omega) only [go_sem, ↓reduceIte, Nat.reduceAdd, Nat.reduceSub, Nat.reduceMul, Nat.reduceEqDiff, reduceCtorEq, Int.reduceAdd, Int.reduceLT, Int.reduceLE, Int.reduceToNat, Int.reduceNeg, Int.reduceSub, ← List.map_take, ← List.map_drop, wrap64, wrapu64, wrapu32, ← Int.natCast_add, ← Int.natCast_mul, cast_succ, wrapu32_nat, shr32, reps_wd, map_set_wd, List.length_set, zs_len, Try.f81, hc, clone_nil, List.map_nil]
      exact ⟨(true, true), rfl, by simp, by simp [val_nil]⟩
    | false =>
      by_cases h0 : a.length = 0
      · obtain rfl := List.length_eq_zero_iff.1 h0
        simp only [List.map_nil] at hc
        simp (maxSteps := 4000000) (disch := omega) only [go_sem, ↓reduceIte, Nat.reduceAdd, Nat.reduceSub, Nat.reduceMul, Nat.reduceEqDiff, reduceCtorEq, Int.reduceAdd, Int.reduceLT, Int.reduceLE, Int.reduceToNat, Int.reduceNeg, Int.reduceSub, ← List.map_take, ← List.map_drop, wrap64, wrapu64, wrapu32, ← Int.natCast_add, ← Int.natCast_mul, cast_succ, wrapu32_nat, shr32, reps_wd, map_set_wd, List.length_set, zs_len, Try.f81, hc, clone_empty, List.map_nil, refP_zero]
        exact ⟨(true, false), rfl, by simp, by simp⟩
      · have hcl := clone_ne a (by omega) (by omega)
        simp (maxSteps := 4000000) (disch := omega) only [go_sem, ↓reduceIte, Nat.reduceAdd, Nat.reduceSub, Nat.reduceMul, Nat.reduceEqDiff, reduceCtorEq, Int.reduceAdd, Int.reduceLT, Int.reduceLE, Int.reduceToNat, Int.reduceNeg, Int.reduceSub, ← List.map_take, ← List.map_drop, wrap64, wrapu64, wrapu32, ← Int.natCast_add, ← Int.natCast_mul, cast_succ, wrapu32_nat, shr32, reps_wd, map_set_wd, List.length_set, zs_len, Try.f81, hc, hcl, List.map_nil, List.take_of_length_le]
        exact ⟨(true, false), rfl, by simp, by simp⟩
  · have hcn : ¬ cmpN (val a) (val b) < 0 := by unfold cmpN; rw [if_neg hlt]; split <;> omega
    generalize cmpN (val a) (val b) = cv at *
    by_cases hb1 : b.length = 1
    · have hov := over_spec ma a (b.getD 0 0) ha.1 (by omega) (by
        have := hb.2.resolve_left hb0
        rw [hb1] at this; simp only [Nat.sub_self] at this; omega) (hb.1.get 0)
      have hvb : val b = b.getD 0 0 := by rw [val, hb1, vp, vp]; simp
      rw [← hvb] at hov
      have hmb : val a % val b < 4294967296 := by
        have := Nat.mod_lt (val a) hpos
        have := hb.1.get 0
        omega
      have hcell : b.getD 0 0 = val b := hvb.symm
      have ht := trim_spec false [val a % val b] (fun x hx => by simp at hx; subst hx; exact hmb) (by simp)
      rw [show val [val a % val b] = val a % val b by rw [val_cons, val_nil, Nat.mul_zero, Nat.add_zero]] at ht
      simp only [List.map_cons, List.map_nil, wd] at ht
      clear hvb
      simp (maxSteps := 4000000) (disch := omega) only [go_sem, ↓reduceIte, Nat.reduceAdd, Nat.reduceSub, Nat.reduceMul, Nat.reduceEqDiff, reduceCtorEq, Int.reduceAdd, Int.reduceLT, Int.reduceLE, Int.reduceToNat, Int.reduceNeg, Int.reduceSub, ← List.map_take, ← List.map_drop, wrap64, wrapu64, wrapu32, ← Int.natCast_add, ← Int.natCast_mul, cast_succ, wrapu32_nat, shr32, reps_wd, map_set_wd, List.length_set, zs_len, Try.f81, hc, hb1, hcell, hov, reps, fillAll, refP, elems, List.headD, ht]
      exact ⟨(false, false), by simp, by simp, by simp⟩
    · obtain ⟨m, hm⟩ : ∃ m, b.length = m + 1 + 1 := ⟨b.length - 2, by have := List.length_pos_iff.2 hb0; omega⟩
      obtain ⟨K, hK, hK32, hbl, hlo, hhi⟩ := top_pow hb hm
      have hlz := lz32_spec (b.getD (m + 1) 0) (hb.1.get _)
      have eK : (32 : Int) - (bl (b.getD (m + 1) 0) : Int) = (K : Int) := by omega
      rw [eK] at hlz
      have hle : val b ≤ val a := by omega
      have hab : b.length ≤ a.length := by
        rcases Nat.lt_or_ge a.length b.length with h | h
        · have := val_less_len ha.1 hb h; omega
        · exact h
      have hl1 := left_spec mb b K hb.1 (by omega) (by omega)
      have hl2 := left_spec ma a K ha.1 (by omega) (by omega)
      have hst := kn_start (n := m + 1) (la := a.length) (val_lt ha.1) hlo hK32 (by omega)
      have e2 : (2 : Nat) ^ K ≤ 2147483648 := pow_lt32 hK32
      have hV : ∃ V, V = val b * 2 ^ K := ⟨_, rfl⟩
      obtain ⟨V, hV⟩ := hV
      obtain ⟨X, hX⟩ : ∃ X, X = val a * 2 ^ K := ⟨_, rfl⟩
      have hfin : ∀ q r, r + q * V = X → r < V → q = val a / val b ∧ r / 2 ^ K = val a % val b := fun q r h1 h2 => by
        rw [hV, hX] at h1; rw [hV] at h2; exact div_shift hpos h1 h2
      rw [← hV] at hl1 hst hlo hhi
      rw [← hX] at hl2 hst
      have hVl : (dig V).length = m + 1 + 1 := dig_eq_len (Nat.le_trans (Nat.le_mul_of_pos_right _ (by decide)) hlo) hhi
      have hXl1 : (dig X).length ≤ a.length + 1 := by
        rw [dig_len]
        have h1 : val a * 2 ^ K < BB ^ a.length * 4294967296 := by
          have h3 := Nat.mul_le_mul_left (BB ^ a.length) (show (2 : Nat) ^ K ≤ 4294967296 by omega)
          have h4 : val a * 2 ^ K < BB ^ a.length * 2 ^ K := Nat.mul_lt_mul_of_pos_right (val_lt ha.1) (Nat.pow_pos (by decide))
          omega
        rw [hX, Nat.pow_succ]; exact h1
      have hXl2 : a.length ≤ (dig X).length := by
        have h1 : (dig (val a)).length ≤ (dig X).length := dig_mono (by rw [hX]; exact Nat.le_mul_of_pos_right _ (Nat.pow_pos (by decide)))
        rwa [dig_val ha] at h1
      have hv1 : 1 ≤ (dig V).getD (m + 1) 0 := by
        have h1 := (dig_norm V).2.resolve_left (fun e => by rw [e] at hVl; simp at hVl)
        rw [hVl, Nat.add_sub_cancel] at h1; omega
      have hb1' : ((m + 1 + 1 : Nat) : Int) - 1 = ((m + 1 : Nat) : Int) := by omega
      obtain ⟨L, hL⟩ : ∃ L, a.length = m + 1 + L := ⟨a.length - (m + 1), by omega⟩
      have hL0 : 0 < L := by omega
      rw [show a.length - (m + 1) = L by omega] at hst
      have eL : ((m + 1 + L + 1 : Nat) : Int) - ((m + 1 + 1 : Nat) : Int) = ((L : Nat) : Int) := by omega
      obtain ⟨xl, hxl⟩ : ∃ xl, xl = (dig X).length := ⟨_, rfl⟩
      have hcl := clone_ne (dig X) (by omega) (by omega)
      rw [← hxl] at hcl hXl1 hXl2
      have hxl' : (dig X).length = xl := hxl.symm
      have hpad : List.map wd (dig X) ++ [AV.int .u32 0, AV.int .u32 0] = List.map wd (dig X ++ zs 2) := by
        rw [List.map_append]; rfl
      have hgK := bl_le.2 (show b.getD (m + 1) 0 < 2 ^ 32 from hb.1.get _)
      replace hfin := Hd.mk hfin
      replace hst := Hd.mk hst
      replace hlo := Hd.mk hlo
      replace hhi := Hd.mk hhi
      clear hV hX hxl hK eK hbl hpos hle
      simp (maxSteps := 4000000) (disch := omega) only [go_sem, ↓reduceIte, Nat.reduceAdd, Nat.reduceSub, Nat.reduceMul, Nat.reduceEqDiff, reduceCtorEq, Int.reduceAdd, Int.reduceLT, Int.reduceLE, Int.reduceToNat, Int.reduceNeg, Int.reduceSub, ← List.map_take, ← List.map_drop, wrap64, wrapu64, wrapu32, ← Int.natCast_add, ← Int.natCast_mul, cast_succ, wrapu32_nat, shr32, reps_wd, map_set_wd, List.length_set, zs_len, Try.f81, hc, hm, hb1', hlz, hl1, hl2, hcl, reps, fillAll, appendEff, srcCells, List.headD, cutBounds, hxl', hL, hVl, eL, hpad, Nat.sub_zero]
      refine W_loopS (fun k sl H nx => ∃ (o out : List Nat), (∃ g : Nat → AV, sl = [g 0, g 1, g 2, g 3, g 4, g 5, g 6, g 7, .int .i64 K, .lst false ((dig V).map wd), .ref 3 0 (m + 1 + L + 1), .int .i64 (m + 1 + 1 : Nat), .ref 4 0 L, .int .i64 ((k : Int) - 1), g 14, g 15, g 16, g 17, g 18, g 19, g 20, g 21, g 22, g 23, g 24, g 25, g 26, g 27, g 28, g 29, g 30, g 31, g 32, g 33, g 34, g 35, g 36, g 37, g 38, g 39, g 40, g 41, g 42, g 43, g 44, g 45, g 46, g 47, g 48, g 49, g 50, g 51, g 52, g 53, g 54, g 55, g 56, g 57, g 58, g 59, g 60, g 61, g 62, g 63, g 64, g 65, g 66, g 67, g 68, g 69, g 70, g 71, g 72, g 73, g 74, g 75, g 76, g 77, g 78, g 79, g 80, g 81, g 82, g 83, g 84, g 85, g 86, g 87, g 88, g 89, g 90, g 91, g 92]) ∧ nx = 5 ∧
        H 3 = some ⟨o.map wd, false, 1, false⟩ ∧ H 4 = some ⟨out.map wd, false, 1, false⟩ ∧ o.length = xl + 2 ∧ out.length = L ∧ InR o ∧ InR out ∧ k ≤ L ∧ Hd (val o + val out * V = X) ∧ Hd (val o < V * BB ^ k) ∧ Hd (∀ i, i < k → out.getD i 0 = 0)) L
        ⟨dig X ++ zs 2, zs L, garb rfl, rfl, rfl, rfl, by rw [List.length_append, hxl', zs_len], zs_len _, inR_pad (dig_inR X) 2, zs_inR L, by omega, ⟨by rw [val_pad, val_dig, show val (zs L) = 0 from zs_vp _ _, Nat.zero_mul, Nat.add_zero]⟩, ⟨by rw [val_pad, val_dig]; exact hst.out⟩, ⟨fun i _ => zs_get L i⟩⟩ ?_
      clear hl1 hl2 hcl hlz hpad hst eL hb1' hc hcn hgK
      rintro k _ H _ ⟨o, out, ⟨g, rfl⟩, rfl, h3, h4, ol, outl, ro, rout, hk, hv, hb', hz⟩
      by_cases hk0 : k = 0
      · subst hk0
        have hres := hfin.out _ _ hv.out (by have := hb'.out; rwa [Nat.pow_zero, Nat.mul_one] at this)
        have hltop : val o < BB ^ (m + 1 + L + 1) := by
          have h1 := hb'.out
          rw [Nat.pow_zero, Nat.mul_one] at h1
          refine Nat.lt_trans h1 (Nat.lt_of_lt_of_le hhi.out (Nat.pow_le_pow_right (by decide) (by omega)))
        have hvt : val (o.take (m + 1 + L + 1)) = val o := by rw [vp_take (by omega), vp_val hltop]
        have ht1 := trim_spec false (o.take (m + 1 + L + 1)) (ro.take _) (by rw [List.length_take]; omega)
        rw [hvt] at ht1
        have ht2 := trim_spec false out rout (by omega)
        have hol : (dig (val o)).length ≤ m + 1 + L + 1 := dig_len.2 hltop
        have hr := right_spec false (dig (val o)) K (dig_norm _) (by omega) (by omega)
        rw [val_dig, hres.2] at hr
        rw [hres.1] at ht2
        have hmz : (dig (val o)).length ≤ K / 32 → val a % val b = 0 := fun h => by
          have : (dig (val o)).length = 0 := by omega
          have h0 := dig_nil.1 (List.length_eq_zero_iff.1 this)
          rw [← hres.2, h0, Nat.zero_div]
        clear hv hb' hz hres hvt hfin hltop hhi hlo
        simp (maxSteps := 4000000) (disch := omega) only [go_sem, ↓reduceIte, Nat.reduceAdd, Nat.reduceSub, Nat.reduceMul, Nat.reduceEqDiff, reduceCtorEq, Int.reduceAdd, Int.reduceLT, Int.reduceLE, Int.reduceToNat, Int.reduceNeg, Int.reduceSub, ← List.map_take, ← List.map_drop, wrap64, wrapu64, wrapu32, ← Int.natCast_add, ← Int.natCast_mul, cast_succ, wrapu32_nat, shr32, reps_wd, map_set_wd, List.length_set, zs_len, h3, h4, ol, outl, List.take_of_length_le, ht1, ht2, hr]
        exact ⟨(false, decide ((dig (val o)).length ≤ K / 32)), rfl, by simp, fun h => hmz (of_decide_eq_true h)⟩
      · obtain ⟨j, rfl⟩ : ∃ j, k = j + 1 := ⟨k - 1, by omega⟩
        have e1 : ((j + 1 : Nat) : Int) - 1 = (j : Int) := by omega
        have hVn : V < BB ^ (m + 2) := hhi.out
        have hwin := kn_window (n := m + 2) (j := j) hVn hb'.out
        have hdg := digit_open (h := H) 3 j o (dig V) false 5 m h3 ro (dig_inR V) hVl hv1 (by omega) (by omega) (by rw [val_dig]; exact hwin)
        rw [val_dig] at hdg
        have e3 : j + (m + 1 + 1) + 1 - j = m + 3 := by omega
        have hqlt : wv o j (m + 3) / V < 4294967296 := Nat.div_lt_of_lt_mul hwin
        replace hwin := Hd.mk hwin
        replace hVn := Hd.mk hVn
        simp (maxSteps := 4000000) (disch := omega) only [go_sem, ↓reduceIte, Nat.reduceAdd, Nat.reduceSub, Nat.reduceMul, Nat.reduceEqDiff, reduceCtorEq, Int.reduceAdd, Int.reduceLT, Int.reduceLE, Int.reduceToNat, Int.reduceNeg, Int.reduceSub, ← List.map_take, ← List.map_drop, wrap64, wrapu64, wrapu32, ← Int.natCast_add, ← Int.natCast_mul, cast_succ, wrapu32_nat, shr32, reps_wd, map_set_wd, List.length_set, zs_len, h3, h4, ol, outl, e1, e3, cutBounds]
        refine openK_ex hdg ?_
        clear hdg
        rintro p H' ⟨h3', hF, rp, pl, hp, hs⟩
        have h4' := hF 4 (by decide)
        rw [h4] at h4'
        have hout := kn_outer (p := p) ro hVn.out (show j < out.length by omega) hv.out hb'.out (hz.out j (by omega)) hp hs
        have hz2 : ∀ i, i < j → (out.set j (wv o j (m + 3) / V)).getD i 0 = 0 := fun i hi => by
          rw [lget_set_ne (by omega)]; exact hz.out i (by omega)
        replace hout := Hd.mk hout
        clear hv hb' hz hp hs hF h3 h4 hwin hVn hfin hhi hlo
        rw [show m + 2 + 1 = m + 3 by omega] at hout
        generalize wv o j (m + 3) / V = q at *
        simp (maxSteps := 4000000) (disch := omega) only [go_sem, ↓reduceIte, Nat.reduceAdd, Nat.reduceSub, Nat.reduceMul, Nat.reduceEqDiff, reduceCtorEq, Int.reduceAdd, Int.reduceLT, Int.reduceLE, Int.reduceToNat, Int.reduceNeg, Int.reduceSub, ← List.map_take, ← List.map_drop, wrap64, wrapu64, wrapu32, ← Int.natCast_add, ← Int.natCast_mul, cast_succ, wrapu32_nat, shr32, reps_wd, map_set_wd, List.length_set, zs_len, h3', h4', outl, e1]
        exact ⟨j, by omega, p, out.set j q, garb rfl, rfl, rfl, by rw [pl, ol], by rw [List.length_set, outl], rp, rout.set hqlt, by omega, ⟨hout.out.1⟩, ⟨hout.out.2⟩, ⟨hz2⟩⟩
end Go.Proofs.Ytiglncbaomoceaa

/- Walks: Div. (Own work of this repo.) -/
namespace Go.Proofs.Ytiglncbaomoceaa
open Vm
set_option maxRecDepth 100000

theorem divide_I (ma : Bool) (x : Int) (mb : Bool) (y : Int) (hy : y ≠ 0) (lx : (dg x).length < 2 ^ 36) (ly : (dg y).length < 2 ^ 36) (hma : ma = true → x = 0) :
    ∃ m : Bool × Bool, denP E 81 [.lst ma ((dg x).map wd), .lst mb ((dg y).map wd)] = some (.ret (.tup [.lst m.1 ((dig (x.natAbs / y.natAbs)).map wd), .lst m.2 ((dig (x.natAbs % y.natAbs)).map wd)])) ∧ (m.1 = true → x.natAbs / y.natAbs = 0) ∧ (m.2 = true → x.natAbs % y.natAbs = 0) := by
  have := divide_spec ma (dg x) mb (dg y) (dg_norm x) (dg_norm y) (by rw [ne_eq, dg_nil]; exact hy) lx ly (fun h => by rw [hma h, dg_zero])
  rwa [val_dg, val_dg] at this
/-- Quotients with a rest that is not negative, out of those of absolute values. -/
theorem ediv_nat (x y : Int) (hy : y ≠ 0) (h : ¬ (x < 0 ∧ x.natAbs % y.natAbs ≠ 0)) : sg (ng x != ng y) (x.natAbs / y.natAbs) = x / y ∧ ((x.natAbs % y.natAbs : Nat) : Int) = x % y := by
  have hb : 0 < y.natAbs := by omega
  have key : ∀ b : Nat, 0 < b → ¬ (x < 0 ∧ x.natAbs % b ≠ 0) → sg (ng x) (x.natAbs / b) = x / (b : Int) ∧ ((x.natAbs % b : Nat) : Int) = x % (b : Int) := by
    intro b hb h
    by_cases hx : x < 0
    · have h0 : x.natAbs % b = 0 := by
        rcases Nat.eq_zero_or_pos (x.natAbs % b) with h1 | h1
        · exact h1
        · exact absurd ⟨hx, by omega⟩ h
      have hd := Nat.div_add_mod x.natAbs b
      rw [h0, Nat.add_zero] at hd
      have hu := (Int.ediv_emod_unique (a := x) (b := (b : Int)) (r := 0) (q := -((x.natAbs / b : Nat) : Int)) (by omega)).2 ⟨by
        rw [Int.mul_neg, ← Int.natCast_mul, hd]; omega, by omega, by omega⟩
      rw [h0, ng_true.2 hx]
      exact ⟨by rw [hu.1]; rfl, by rw [hu.2]; rfl⟩
    · obtain ⟨n, rfl⟩ : ∃ n : Nat, x = (n : Int) := ⟨x.natAbs, by omega⟩
      rw [ng_nat]
      exact ⟨by simp [sg], by simp⟩
  rcases Int.natAbs_eq y with h1 | h1
  · have hn : ng y = false := ng_false.2 (by omega)
    have := key y.natAbs hb h
    rw [← h1] at this
    rw [hn, Bool.bne_false]; exact this
  · have hn : ng y = true := ng_true.2 (by omega)
    have := key y.natAbs hb h
    rw [hn, show (y : Int) = -(y.natAbs : Int) from h1, Int.natAbs_neg, Int.natAbs_natCast, Int.ediv_neg, Int.emod_neg, ← this.1, ← this.2]
    refine ⟨?_, rfl⟩
    cases ng x <;> simp [sg]
theorem ediv_nat' (x y : Int) (hy : y ≠ 0) (hx : x < 0) (h : x.natAbs % y.natAbs ≠ 0) : sg (ng x != ng y) (x.natAbs / y.natAbs + 1) = x / y ∧ ((y.natAbs - x.natAbs % y.natAbs : Nat) : Int) = x % y := by
  have hb : 0 < y.natAbs := by omega
  have key : ∀ b : Nat, 0 < b → x.natAbs % b ≠ 0 → sg (ng x) (x.natAbs / b + 1) = x / (b : Int) ∧ ((b - x.natAbs % b : Nat) : Int) = x % (b : Int) := by
    intro b hb h
    have hm := Nat.mod_lt x.natAbs hb
    have hd := Nat.div_add_mod x.natAbs b
    have hu := (Int.ediv_emod_unique (a := x) (b := (b : Int)) (r := ((b - x.natAbs % b : Nat) : Int)) (q := -((x.natAbs / b + 1 : Nat) : Int)) (by omega)).2 ⟨by
        rw [Int.mul_neg, ← Int.natCast_mul, Nat.mul_add, Nat.mul_one]
        generalize b * (x.natAbs / b) = z at *
        omega, by omega, by omega⟩
    rw [ng_true.2 hx]
    exact ⟨by rw [hu.1]; rfl, by rw [hu.2]⟩
  rcases Int.natAbs_eq y with h1 | h1
  · have hn : ng y = false := ng_false.2 (by omega)
    have := key y.natAbs hb h
    rw [← h1] at this
    rw [hn, Bool.bne_false]; exact this
  · have hn : ng y = true := ng_true.2 (by omega)
    have := key y.natAbs hb h
    rw [hn, show (y : Int) = -(y.natAbs : Int) from h1, Int.natAbs_neg, Int.natAbs_natCast, Int.ediv_neg, Int.emod_neg, ← this.1, ← this.2]
    refine ⟨?_, rfl⟩
    cases ng x <;> simp [sg]
theorem dg_ediv (x y : Int) : (dg (x / y)).length ≤ (dg x).length := dg_mono (Int.natAbs_ediv_le_natAbs x y)
theorem dg_emod (x y : Int) (hy : y ≠ 0) : (dg (x % y)).length ≤ (dg y).length := by
  refine dg_mono ?_
  have h1 := Int.emod_nonneg x hy
  have h2 := Int.emod_lt x hy
  omega
end Go.Proofs.Ytiglncbaomoceaa

/- Walks: Shift. (Own work of this repo.) -/
namespace Go.Proofs.Ytiglncbaomoceaa
open Vm
set_option maxRecDepth 10000

theorem floor_neg (y c : Nat) (hc : 0 < c) : (-(y : Int)) / (c : Int) = -((y / c + (if y % c = 0 then 0 else 1) : Nat) : Int) := by
  have h := Nat.div_add_mod y c
  have hm := Nat.mod_lt y hc
  generalize y / c = q at *
  generalize y % c = r at *
  have hy : (y : Int) = c * q + r := by rw [← h]; push_cast; rfl
  have hc' : (0 : Int) < c := by omega
  by_cases h0 : r = 0
  · rw [if_pos h0, hy, h0]
    rw [show -((c : Int) * q + ((0 : Nat) : Int)) = (c : Int) * (-(q : Int)) by rw [Int.mul_neg]; simp, Int.mul_ediv_cancel_left _ (by omega)]
    simp
  · rw [if_neg h0, hy]
    rw [show -((c : Int) * q + r) = (c - r) + (c : Int) * (-(q : Int) - 1) by rw [Int.mul_sub, Int.mul_neg]; omega, Int.add_mul_ediv_left _ _ (by omega), Int.ediv_eq_zero_of_lt (by omega) (by omega)]
    push_cast
    omega
theorem floor_pos (y c : Nat) : (y : Int) / (c : Int) = ((y / c : Nat) : Int) := by push_cast; rfl
theorem shl_abs (x : Int) (n : Nat) : sg (ng x) (x.natAbs * 2 ^ n) = x * 2 ^ n := by
  have e : ((2 ^ n : Nat) : Int) = 2 ^ n := by push_cast; rfl
  unfold sg
  by_cases h : x < 0
  · rw [if_pos (ng_true.2 h)]
    rw [show x * 2 ^ n = -(-x * 2 ^ n) by rw [Int.neg_mul, Int.neg_neg], show -x = ((x.natAbs : Nat) : Int) by omega]
    push_cast; rfl
  · rw [if_neg (by rw [Bool.not_eq_true]; exact ng_false.2 (by omega))]
    rw [show x * 2 ^ n = ((x.natAbs : Nat) : Int) * 2 ^ n by rw [show ((x.natAbs : Nat) : Int) = x by omega]]
    push_cast; rfl
theorem valid_len {x : Int} {k : Nat} (h : (dg x).length ≤ k) : x.natAbs < 2 ^ (32 * k) := by
  have := dg_len.1 h
  rwa [show BB = 2 ^ 32 from rfl, ← Nat.pow_mul] at this
theorem shl_no {x : Int} {n k : Nat} (hx : x ≠ 0) (h : 32 * k ≤ n) : ¬ (dg (x * 2 ^ n)).length ≤ k := by
  intro hl
  have h1 := valid_len hl
  rw [Int.natAbs_mul, Int.natAbs_pow] at h1
  have h4 : 2 ^ (32 * k) ≤ 2 ^ n := Nat.pow_le_pow_right (by decide) h
  have h5 : 1 * 2 ^ n ≤ x.natAbs * 2 ^ n := Nat.mul_le_mul_right _ (by omega)
  rw [Nat.one_mul] at h5
  exact absurd (Nat.lt_of_le_of_lt (Nat.le_trans h4 h5) h1) (Nat.lt_irrefl _)
theorem floor_far {x : Int} {n m k : Nat} (hx : (dg x).length ≤ k) (hn : 32 * k ≤ n) (hm : 32 * k ≤ m) : x / 2 ^ n = x / 2 ^ m := by
  have hv := valid_len hx
  have hv2 : x.natAbs < 2 ^ n := Nat.lt_of_lt_of_le hv (Nat.pow_le_pow_right (by decide) hn)
  have hv1 : x.natAbs < 2 ^ m := Nat.lt_of_lt_of_le hv (Nat.pow_le_pow_right (by decide) hm)
  have p1 : ((2 ^ n : Nat) : Int) = 2 ^ n := by push_cast; rfl
  have p2 : ((2 ^ m : Nat) : Int) = 2 ^ m := by push_cast; rfl
  rw [← p1, ← p2]
  rcases Int.natAbs_eq x with h | h
  · rw [h, floor_pos, floor_pos, Nat.div_eq_of_lt hv1, Nat.div_eq_of_lt hv2]
  · rw [h, floor_neg _ _ (Nat.pow_pos (by decide)), floor_neg _ _ (Nat.pow_pos (by decide)), Nat.div_eq_of_lt hv1, Nat.div_eq_of_lt hv2, Nat.mod_eq_of_lt hv1, Nat.mod_eq_of_lt hv2]
theorem len_ge {x : Int} {k : Nat} (h : BB ^ k ≤ x.natAbs) : k < (dg x).length := by
  rcases Nat.lt_or_ge k (dg x).length with h1 | h1
  · exact h1
  · have := dg_len.1 h1; omega
theorem dig_shl (a n : Nat) : (dig (a * 2 ^ n)).length ≤ (dig a).length + (n / 32 + 1) := by
  have h := dig_mul a (2 ^ n)
  have h2 : (dig (2 ^ n)).length ≤ n / 32 + 1 := by
    rw [dig_len, show BB = 2 ^ 32 from rfl, ← Nat.pow_mul]
    exact Nat.pow_lt_pow_right (by decide) (by omega)
  omega
end Go.Proofs.Ytiglncbaomoceaa

/- Walks of the reference of chapter 1: Shift. (Own work of this repo.) -/
namespace Go.Proofs.Ytiglncbaomoceaa
open Vm
set_option maxRecDepth 10000

theorem vp_app_lo (a b : List Nat) : ∀ n, n ≤ a.length → vp (a ++ b) n = vp a n := by
  intro n h
  refine vp_congr n fun i hi => ?_
  rw [List.getD_eq_getElem?_getD, List.getD_eq_getElem?_getD, List.getElem?_append_left (by omega)]
theorem val_app (a b : List Nat) : val (a ++ b) = val a + BB ^ a.length * val b := by
  have h := val_split (a := a ++ b) (q := a.length) (by rw [List.length_append]; omega)
  rw [vp_app_lo a b _ (Nat.le_refl _), List.drop_left] at h
  exact h
theorem inR_app {a b : List Nat} (ha : InR a) (hb : InR b) : InR (a ++ b) := fun x hx => by
  rcases List.mem_append.1 hx with h | h
  · exact ha x h
  · exact hb x h
/-- In place: each word with the low part of the next one. -/
theorem top_zero {o : List Nat} {k : Nat} (hl : o.length = k + 1) (h : val o < BB ^ k) : o.getD k 0 = 0 := by
  rw [val, hl, vp] at h
  rcases Nat.eq_zero_or_pos (o.getD k 0) with h0 | h0
  · exact h0
  · have : 1 * BB ^ k ≤ o.getD k 0 * BB ^ k := Nat.mul_le_mul_right _ h0
    omega
/-- A word with the low part of the next one. -/
def rwd (s : Nat) (o : List Nat) (t : Nat) : Nat := (o.getD t 0 + o.getD (t + 1) 0 * 4294967296) / 2 ^ s % 4294967296
end Go.Proofs.Ytiglncbaomoceaa

/- Walks of the reference of chapter 1: long division. (Own work of this repo.) -/
namespace Go.Proofs.Ytiglncbaomoceaa
open Vm
set_option maxRecDepth 100000

theorem shl_u32 {x s : Nat} (hs : s ≤ 31) (h : x * 2 ^ s < 4294967296) : IntKind.u32.wrap ((x : Int) * 2 ^ min s (kb .u32)) = ((x * 2 ^ s : Nat) : Int) := by
  rw [show min s (kb .u32) = s from Nat.min_eq_left (show s ≤ 32 by omega), show (x : Int) * 2 ^ s = ((x * 2 ^ s : Nat) : Int) by push_cast; rfl]
  exact wrapu32 (by omega) (by omega)
theorem top_shift {x s : Nat} (h : bl x + s ≤ 31) : x * 2 ^ s < 2147483648 := by
  have h1 := Nat.mul_lt_mul_of_pos_right (bl_lt x) (show 0 < 2 ^ s from Nat.pow_pos (by decide))
  rw [← Nat.pow_add] at h1
  exact Nat.lt_of_lt_of_le h1 (Nat.pow_le_pow_right (by decide) h : 2 ^ (bl x + s) ≤ 2 ^ 31)
theorem top_shift' {x s : Nat} (h0 : x ≠ 0) (h : bl x + s = 32) : 2147483648 ≤ x * 2 ^ s ∧ x * 2 ^ s < 4294967296 := by
  have h1 := Nat.mul_lt_mul_of_pos_right (bl_lt x) (show 0 < 2 ^ s from Nat.pow_pos (by decide))
  rw [← Nat.pow_add, h] at h1
  have h2 := Nat.mul_le_mul_right (2 ^ s) (bl_ge h0)
  have h3 := bl_nz h0
  rw [← Nat.pow_add, show bl x - 1 + s = 31 by omega] at h2
  exact ⟨h2, h1⟩
end Go.Proofs.Ytiglncbaomoceaa

/- Walks of the reference of chapter 1: Div. (Own work of this repo.) -/
namespace Go.Proofs.Ytiglncbaomoceaa
open Vm
set_option maxRecDepth 100000

theorem order_lt {x y : Int} (h : (dg x).length < (dg y).length) : x.natAbs < y.natAbs := dig_cmp h
end Go.Proofs.Ytiglncbaomoceaa

/- Walks: the greatest common divisor. (Own work of this repo.) -/
namespace Go.Proofs.Ytiglncbaomoceaa
open Vm
set_option maxRecDepth 100000

theorem dig_le {a b : Nat} {k : Nat} (h : a ≤ b) (hb : (dig b).length ≤ k) : (dig a).length ≤ k := Nat.le_trans (dig_mono h) hb
end Go.Proofs.Ytiglncbaomoceaa

/- Walks of the reference of chapter 1: Power. (Own work of this repo.) -/
namespace Go.Proofs.Ytiglncbaomoceaa
open Vm
set_option maxRecDepth 10000

theorem bl_one {x : Int} (h : bl x.natAbs ≤ 1) : x = 0 ∨ x = 1 ∨ x = -1 := by
  have := bl_le.1 h
  omega
theorem pow_bl {x : Int} {n : Nat} : (x ^ n).natAbs < 2 ^ (bl x.natAbs * n + 1) := by
  rw [Int.natAbs_pow, Nat.pow_succ, Nat.pow_mul]
  have h1 := Nat.pow_le_pow_left (Nat.le_of_lt (bl_lt x.natAbs)) n
  have h3 : 0 < (2 ^ bl x.natAbs) ^ n := Nat.pow_pos (Nat.pow_pos (by decide))
  omega
theorem dg_bits {z : Int} {k : Nat} (h : z.natAbs < 2 ^ (32 * k)) : (dg z).length ≤ k := by
  rw [dg_len, show BB = 2 ^ 32 from rfl, ← Nat.pow_mul]; exact h
theorem bl_of_words {x : Int} {k : Nat} (h : (dg x).length ≤ k) : bl x.natAbs ≤ 32 * k := bl_le.2 (valid_len h)
/-- How far the reference computes a power. -/
def powFar (x : Int) (n : Nat) : Bool := decide (1 < bl x.natAbs) && decide (262144 / (bl x.natAbs - 1) < n)
theorem natAbs_le_mul {a b : Int} (hb : b ≠ 0) : a.natAbs ≤ (a * b).natAbs := by
  rw [Int.natAbs_mul]; exact Nat.le_mul_of_pos_right _ (by omega)
end Go.Proofs.Ytiglncbaomoceaa

/- Walks: roots. (Own work of this repo.) -/
namespace Go.Proofs.Ytiglncbaomoceaa
open Vm
set_option maxRecDepth 100000

/-- The root, rounded down. -/
def IsRoot (a s : Nat) : Prop := s * s ≤ a ∧ a < (s + 1) * (s + 1)
theorem IsRoot.uniq {a s t : Nat} (h : IsRoot a s) (g : IsRoot a t) : s = t := by
  rcases Nat.lt_trichotomy s t with h1 | h1 | h1
  · have := Nat.mul_le_mul (show s + 1 ≤ t from h1) (show s + 1 ≤ t from h1)
    have := h.2; have := g.1; omega
  · exact h1
  · have := Nat.mul_le_mul (show t + 1 ≤ s from h1) (show t + 1 ≤ s from h1)
    have := h.1; have := g.2; omega
theorem exists_root (a : Nat) : ∃ s, IsRoot a s := by
  induction a with
  | zero => exact ⟨0, by decide, by decide⟩
  | succ a ih =>
    obtain ⟨s, h1, h2⟩ := ih
    by_cases h : (s + 1) * (s + 1) ≤ a + 1
    · refine ⟨s + 1, h, ?_⟩
      have e : (s + 1 + 1) * (s + 1 + 1) = (s + 1) * (s + 1) + (s + 1) + (s + 1) + 1 := by grind
      omega
    · exact ⟨s, by omega, by omega⟩
theorem nw_ge {a r s : Nat} (hs : s * s ≤ a) (hr : 0 < r) : s ≤ (r + a / r) / 2 := by
  have key : 2 * s ≤ r + a / r := by
    rcases Nat.le_total (2 * s) r with h | h
    · exact Nat.le_trans h (Nat.le_add_right _ _)
    · have h1 : 2 * s - r ≤ a / r := by
        rw [Nat.le_div_iff_mul_le hr]
        refine Nat.le_trans ?_ hs
        rcases Nat.le_total s r with h2 | h2
        · obtain ⟨d, rfl⟩ : ∃ d, r = s + d := ⟨r - s, by omega⟩
          obtain ⟨e, rfl⟩ : ∃ e, s = d + e := ⟨s - d, by omega⟩
          rw [show 2 * (d + e) - (d + e + d) = e by omega]
          grind
        · obtain ⟨d, rfl⟩ : ∃ d, s = r + d := ⟨s - r, by omega⟩
          rw [show 2 * (r + d) - r = r + 2 * d by omega]
          grind
      omega
  omega
theorem nw_lt {a r s : Nat} (hs : a < (s + 1) * (s + 1)) (hr : s < r) : (r + a / r) / 2 < r := by
  have h1 : a / r < r := by
    rw [Nat.div_lt_iff_lt_mul (by omega)]
    have := Nat.mul_le_mul (show s + 1 ≤ r from hr) (show s + 1 ≤ r from hr)
    omega
  omega
theorem root_start (a : Nat) : a < 2 ^ ((bl a + 1) / 2) * 2 ^ ((bl a + 1) / 2) := by
  rw [← Nat.pow_add]
  exact Nat.lt_of_lt_of_le (bl_lt a) (Nat.pow_le_pow_right (by decide) (by omega))
theorem root_le {a r s : Nat} (h : s * s ≤ a) (hr : a < r * r) : s ≤ r := by
  rcases Nat.lt_or_ge r s with h1 | h1
  · have := Nat.mul_le_mul (Nat.le_of_lt h1) (Nat.le_of_lt h1); omega
  · exact h1
set_option maxHeartbeats 4000000 in
theorem root_spec (m : Bool) (a : Int) (ha : (dg a).length ≤ 4096) (h0 : 0 ≤ a) (hm : m = true → a = 0) :
    ∃ o : Bool × Nat, denP E 63 [I m a] = some (.ret (.tup [I o.1 (o.2 : Int), .bool (decide (o.2 * o.2 = a.natAbs)), .int .i64 0])) ∧ IsRoot a.natAbs o.2 := by
  refine denP_ex E63 rfl (by simp [AV.pureL, AV.pure, pure_wd]) ?_
  have h1 := valid_I m a ha
  have hn : ng a = false := ng_false.2 h0
  obtain ⟨A, rfl⟩ : ∃ A : Nat, a = (A : Int) := ⟨a.natAbs, by omega⟩
  simp only [I, ng_nat, dg_nat, Int.natAbs_natCast] at *
  by_cases hA : A = 0
  · subst hA
    have hd0 : (dig 0).length = 0 := by rw [dig_zero]; rfl
    simp (maxSteps := 4000000) (disch := omega) only [go_sem, ↓reduceIte, Nat.reduceAdd, Nat.reduceSub, Nat.reduceMul, Nat.reduceEqDiff, reduceCtorEq, Int.reduceAdd, Int.reduceLT, Int.reduceLE, Int.reduceToNat, Int.reduceNeg, Int.reduceSub, ← List.map_take, ← List.map_drop, wrap64, wrapu64, wrapu32, ← Int.natCast_add, ← Int.natCast_mul, cast_succ, wrapu32_nat, shr32, reps_wd, map_set_wd, List.length_set, zs_len, Try.f63, h1, ng_nat, hd0, places, fillAll]
    exact ⟨(true, 0), by simp [dig_zero, ng], by decide, by decide⟩
  · have hlA : 0 < (dig A).length := List.length_pos_iff.2 (fun e => hA (dig_nil.1 e))
    have h2 := size_spec m (A : Int) (by rw [dg_nat]; omega)
    rw [Int.natAbs_natCast, dg_nat] at h2
    have hbl : bl A ≤ 32 * 4096 := by have := bl_of_words (x := (A : Int)) (k := 4096) (by rw [dg_nat]; exact ha); rwa [Int.natAbs_natCast] at this
    have h3 := left_spec false [1] ((bl A + 1) / 2) (fun z hz => by simp at hz; subst hz; show _ < _; decide) (by simp) (by omega)
    rw [show val [1] = 1 from rfl, Nat.one_mul] at h3
    simp only [List.map_cons, List.map_nil, wd, Int.natCast_one] at h3
    have e1 : (((bl A + 1 : Nat) : Int)).tdiv 2 = (((bl A + 1) / 2 : Nat) : Int) := rfl
    have hst := root_start A
    have hr0 : 0 < 2 ^ ((bl A + 1) / 2) := Nat.pow_pos (by decide)
    obtain ⟨L, hL⟩ : ∃ L, L = 4097 := ⟨_, rfl⟩
    have hrl : (dig (2 ^ ((bl A + 1) / 2))).length ≤ L := by
      rw [dig_len, show BB = 2 ^ 32 from rfl, ← Nat.pow_mul]
      exact Nat.pow_lt_pow_right (by decide) (by omega)
    obtain ⟨s, hs⟩ := exists_root A
    have hsr := root_le hs.1 hst
    have hnb : (bl A + 1) / 2 ≤ 70000 := by omega
    generalize (bl A + 1) / 2 = n at *
    generalize bl A = b at *
    generalize 2 ^ n = r0 at *
    clear hst
    replace hs := Hd.mk hs
    simp (maxSteps := 4000000) (disch := omega) only [go_sem, ↓reduceIte, Nat.reduceAdd, Nat.reduceSub, Nat.reduceMul, Nat.reduceEqDiff, reduceCtorEq, Int.reduceAdd, Int.reduceLT, Int.reduceLE, Int.reduceToNat, Int.reduceNeg, Int.reduceSub, ← List.map_take, ← List.map_drop, wrap64, wrapu64, wrapu32, ← Int.natCast_add, ← Int.natCast_mul, cast_succ, wrapu32_nat, shr32, reps_wd, map_set_wd, List.length_set, zs_len, Try.f63, h1, h2, h3, e1, reps, fillAll, refP, elems, List.headD, ng_nat]
    refine W_loopS (fun k sl H nx => ∃ (f : Bool), (∃ g : Nat → AV, sl = [g 0, .ptr 0 0, .ptr 1 0, g 3, g 4, .lst f ((dig k).map wd), g 6, g 7, g 8, g 9, g 10, g 11, g 12, g 13, g 14, g 15, g 16, g 17, g 18, g 19, g 20, g 21, g 22, g 23, g 24, g 25, g 26, g 27, g 28, g 29, g 30, g 31, g 32, g 33, g 34, g 35, g 36, g 37, g 38, g 39, g 40, g 41, g 42, g 43, g 44, g 45, g 46, g 47, g 48, g 49, g 50, g 51, g 52, g 53, g 54, g 55, g 56, g 57, g 58, g 59, g 60, g 61, g 62, g 63]) ∧ nx = 3 ∧
      H 0 = some ⟨[.bool false, .lst m ((dig A).map wd)], true, 2, false⟩ ∧ H 1 = some ⟨[.bool false, .lst true []], true, 2, false⟩ ∧ 0 < k ∧ (dig k).length ≤ L ∧ Hd (s ≤ k) ∧ (f = true → k = 0)) r0
      ⟨false, garb rfl, rfl, rfl, rfl, hr0, hrl, ⟨hsr⟩, fun h => by cases h⟩ ?_
    clear h1 h2 h3 e1 hrl hsr hr0
    rintro r _ H _ ⟨f, ⟨g, rfl⟩, rfl, q0, q1, hr, hrl, hsr, hf⟩
    obtain ⟨md, d1, d2, d3⟩ := divide_spec m (dig A) f (dig r) (dig_norm A) (dig_norm r) (by rw [ne_eq, dig_nil]; omega) (by omega) (by omega) (fun h => by have := hm h; rw [show A = 0 by omega, dig_zero])
    rw [val_dig, val_dig] at d1 d2 d3
    have lq : (dig (A / r)).length ≤ 4096 := dig_le (Nat.div_le_self _ _) ha
    have p1 := plus_spec f (dig r) md.1 (dig (A / r)) (dig_inR r) (dig_inR _) (by omega) (by omega)
    rw [val_dig, val_dig] at p1
    have lp := dig_add r (A / r)
    have p2 := right_spec false (dig (r + A / r)) 1 (dig_norm _) (by omega) (by decide)
    rw [val_dig, Nat.pow_one, show ((1 : Nat) : Int) = 1 from rfl] at p2
    have ln : (dig ((r + A / r) / 2)).length ≤ 4098 := dig_le (Nat.div_le_self _ _) (by omega)
    have p3 := compare_spec (decide ((dig (r + A / r)).length ≤ 1 / 32)) (dig ((r + A / r) / 2)) f (dig r) (dig_norm _) (dig_norm r) (by omega) (by omega)
    rw [val_dig, val_dig] at p3
    have hge := nw_ge hs.out.1 hr
    have hlt := fun h => nw_lt (r := r) hs.out.2 h
    by_cases hc : (r + A / r) / 2 < r
    · have hcm : ¬ 0 ≤ cmpN ((r + A / r) / 2) r := by unfold cmpN; rw [if_pos hc]; decide
      have hpos : 0 < (r + A / r) / 2 := by
        rcases Nat.eq_zero_or_pos ((r + A / r) / 2) with h | h
        · rw [h] at hge
          have := hs.out.2
          have : s = 0 := by omega
          subst this; omega
        · exact h
      have hff : ∀ b : Bool, b = decide ((dig (r + A / r)).length ≤ 1 / 32) → b = true → (r + A / r) / 2 = 0 := fun b hb h => by
        rw [hb, decide_eq_true_eq] at h
        have : (dig (r + A / r)).length = 0 := by omega
        have := dig_nil.1 (List.length_eq_zero_iff.1 this)
        omega
      have hff2 := hff _ rfl
      have lnx : (dig ((r + A / r) / 2)).length ≤ L := dig_le (Nat.le_of_lt hc) hrl
      clear hff hlt hf hs d2 d3 lp ln lq
      generalize decide ((dig (r + A / r)).length ≤ 1 / 32) = f2 at *
      generalize cmpN ((r + A / r) / 2) r = cv at *
      generalize (r + A / r) / 2 = nx at *
      simp (maxSteps := 4000000) (disch := omega) only [go_sem, ↓reduceIte, Nat.reduceAdd, Nat.reduceSub, Nat.reduceMul, Nat.reduceEqDiff, reduceCtorEq, Int.reduceAdd, Int.reduceLT, Int.reduceLE, Int.reduceToNat, Int.reduceNeg, Int.reduceSub, ← List.map_take, ← List.map_drop, wrap64, wrapu64, wrapu32, ← Int.natCast_add, ← Int.natCast_mul, cast_succ, wrapu32_nat, shr32, reps_wd, map_set_wd, List.length_set, zs_len, q0, q1, d1, p1, p2, p3]
      exact ⟨nx, hc, f2, garb rfl, hpos, lnx, ⟨hge⟩, hff2⟩
    · have hcm : 0 ≤ cmpN ((r + A / r) / 2) r := by unfold cmpN; rw [if_neg hc]; split <;> decide
      have hrs : r = s := by
        rcases Nat.lt_or_ge s r with h | h
        · exact absurd (hlt h) hc
        · have := hsr.out; omega
      subst hrs
      have hl2 : (dig r).length ≤ 4096 := dig_le (Nat.le_trans (Nat.le_mul_of_pos_left r hr) hs.out.1) ha
      have m1 := made_dig false f r hf (by omega)
      rw [show sg false r = (r : Int) from rfl, RI, fm_of (by rw [dg_nat]; omega), fit_of (by rw [dg_nat]; omega), er_of (by rw [dg_nat]; omega)] at m1
      simp only [I, ng_nat, dg_nat] at m1
      have t1 := times_spec f (dig r) f (dig r) (dig_inR r) (dig_inR r) (by omega) (by omega)
      rw [val_dig] at t1
      have lm := dig_mul r r
      have t2 := compare_spec (decide ((dig r).length = 0 ∨ (dig r).length = 0)) (dig (r * r)) m (dig A) (dig_norm _) (dig_norm A) (by omega) (by omega)
      rw [val_dig, val_dig] at t2
      have hcm2 : decide (cmpN (r * r) A = 0) = decide (r * r = A) := by
        rw [decide_eq_decide]; unfold cmpN; split <;> (try split) <;> omega
      have hroot := hs.out
      clear hlt hf hs d2 d3 lp ln lq hge lm hl2
      generalize decide ((dig r).length = 0 ∨ (dig r).length = 0) = f3 at *
      generalize decide ((dig (r + A / r)).length ≤ 1 / 32) = f2 at *
      generalize cmpN ((r + A / r) / 2) r = cv at *
      generalize cmpN (r * r) A = cv2 at *
      simp (maxSteps := 4000000) (disch := omega) only [go_sem, ↓reduceIte, Nat.reduceAdd, Nat.reduceSub, Nat.reduceMul, Nat.reduceEqDiff, reduceCtorEq, Int.reduceAdd, Int.reduceLT, Int.reduceLE, Int.reduceToNat, Int.reduceNeg, Int.reduceSub, ← List.map_take, ← List.map_drop, wrap64, wrapu64, wrapu32, ← Int.natCast_add, ← Int.natCast_mul, cast_succ, wrapu32_nat, shr32, reps_wd, map_set_wd, List.length_set, zs_len, q0, q1, d1, p1, p2, p3, m1]
      refine W_drawn ?_
      simp (maxSteps := 4000000) (disch := omega) only [go_sem, ↓reduceIte, Nat.reduceAdd, Nat.reduceSub, Nat.reduceMul, Nat.reduceEqDiff, reduceCtorEq, Int.reduceAdd, Int.reduceLT, Int.reduceLE, Int.reduceToNat, Int.reduceNeg, Int.reduceSub, ← List.map_take, ← List.map_drop, wrap64, wrapu64, wrapu32, ← Int.natCast_add, ← Int.natCast_mul, cast_succ, wrapu32_nat, shr32, reps_wd, map_set_wd, List.length_set, zs_len, q0, q1, t1, t2, hcm2]
      exact ⟨by rfl, (f, r), by simp only [ng_nat, dg_nat], hroot⟩
end Go.Proofs.Ytiglncbaomoceaa

/- The law PellNone. (Own work of this repo.) -/
namespace Go.Proofs.Ytiglncbaomoceaa
open Vm
open Pel hiding allS
set_option maxRecDepth 10000

theorem square_spec (n : Int) (h0 : 0 ≤ n) (h1 : n < 9223372036854775808) : ∃ b : Bool, denP E 35 [.int .i64 n] = some (.ret (.bool b)) ∧ (b = true → ∃ x : Int, 0 ≤ x ∧ x * x = n) := by
  have hl := dg_small (z := n) (by omega)
  obtain ⟨⟨f, x⟩, hx, hr⟩ := root_spec false n (by omega) h0 (fun h => by cases h)
  dsimp only at hx hr
  refine ⟨decide (x * x = n.natAbs), ?_, fun h => ⟨(x : Int), by omega, ?_⟩⟩
  · have o1 := of_spec n (by omega) h1
    clear hr
    refine denP_eq E35 rfl (by simp [AV.pureL, AV.pure, pure_wd]) ?_
    generalize decide (x * x = n.natAbs) = b at *
    simp (maxSteps := 4000000) only [go_sem, ↓reduceIte, Nat.reduceAdd, Nat.reduceSub, Nat.reduceMul, Nat.reduceEqDiff, reduceCtorEq, Int.reduceAdd, Int.reduceLT, Int.reduceLE, Int.reduceToNat, Int.reduceNeg, Int.reduceSub, ← List.map_take, ← List.map_drop, ne_eq, Nat.reduceLeDiff, Nat.reduceLT, Nat.zero_le, Nat.le_refl, wrap64, wrapu64, wrapu32, ← Int.natCast_add, ← Int.natCast_mul, cast_succ, wrapu32_nat, shr32, reps_wd, map_set_wd, List.length_set, zs_len, Try.f35, o1, hx, Int.reduceEq, places, fillAll]
  · have h := of_decide_eq_true h
    have : ((x * x : Nat) : Int) = (n.natAbs : Int) := by rw [h]
    rw [Int.natCast_mul] at this
    omega
theorem none_no (D f : Int) (f2 : denP E 12 [.int .i64 D] = some (.ret (.bool false))) : denP E 8 [.int .i64 D, .int .u32 f] = some (.ret (.bool true)) := by
  refine denP_eq E8 rfl (by simp [AV.pureL, AV.pure, pure_wd]) ?_
  simp (maxSteps := 4000000) only [go_sem, ↓reduceIte, Nat.reduceAdd, Nat.reduceSub, Nat.reduceMul, Nat.reduceEqDiff, reduceCtorEq, Int.reduceAdd, Int.reduceLT, Int.reduceLE, Int.reduceToNat, Int.reduceNeg, Int.reduceSub, ← List.map_take, ← List.map_drop, ne_eq, Nat.reduceLeDiff, Nat.reduceLT, Nat.zero_le, Nat.le_refl, wrap64, wrapu64, wrapu32, ← Int.natCast_add, ← Int.natCast_mul, cast_succ, wrapu32_nat, shr32, reps_wd, map_set_wd, List.length_set, zs_len, Try.f8, f2, awake7, Int.reduceEq, places, fillAll]
theorem cmpI_lt (a b : Int) : (cmpI a b < 0) = (a < b) := by
  unfold cmpI
  refine propext ?_
  (repeat' split) <;> omega
set_option maxHeartbeats 4000000 in
theorem none_walk0 (D X Y U V : Int) (fx fy fu fv : Bool) (from_ : Nat) (hD : 2 ≤ D ∧ D ≤ 1000000) (hfrom : from_ < 4294967296) (f2 : denP E 12 [.int .i64 D] = some (.ret (.bool true)))
    (p1 : denP E 10 [.int .i64 D] = some (.ret (RP3 (I fx X) (I fy Y) 0))) (p2 : denP E 11 [.int .i64 D] = some (.ret (RP3 (I fu U) (I fv V) 0))) (lY : (dg Y).length ≤ 4096) (lV : (dg V).length ≤ 4096)
    (h1 : ∀ n x : Int, 1 ≤ n → 0 ≤ x → x * x = D * n * n + 1 → Y ≤ n) (h2 : ∀ n x : Int, 1 ≤ n → 0 ≤ x → x * x = D * n * n - 1 → (0 : Int) = 0 ∧ V ≤ n) :
    denP E 8 [.int .i64 D, .int .u32 (from_ : Int)] = some (.ret (.bool true)) := by
  refine denP_eq E8 rfl (by simp [AV.pureL, AV.pure, pure_wd]) ?_
  simp (maxSteps := 4000000) only [go_sem, ↓reduceIte, Nat.reduceAdd, Nat.reduceSub, Nat.reduceMul, Nat.reduceEqDiff, reduceCtorEq, Int.reduceAdd, Int.reduceLT, Int.reduceLE, Int.reduceToNat, Int.reduceNeg, Int.reduceSub, ← List.map_take, ← List.map_drop, ne_eq, Nat.reduceLeDiff, Nat.reduceLT, Nat.zero_le, Nat.le_refl, wrap64, wrapu64, wrapu32, ← Int.natCast_add, ← Int.natCast_mul, cast_succ, wrapu32_nat, shr32, reps_wd, map_set_wd, List.length_set, zs_len, Try.f8, p1, p2, f2, Int.reduceEq, places, fillAll]
  clear p1 p2
  refine W_loopS (fun k sl h nn => ∃ i : Nat, (∃ g : Nat → AV, sl = [.int .i64 D, .int .u32 (from_ : Int), g 2, g 3, g 4, g 5, .ptr 1 0, g 7, g 8, .ptr 3 0, .int .i64 0, .int .i64 (i : Int), g 12, g 13, g 14, g 15, g 16, g 17, g 18, g 19, g 20, g 21, g 22, g 23, g 24, g 25, g 26, g 27, g 28, g 29, g 30, g 31, g 32, g 33, g 34, g 35, g 36, g 37, g 38, g 39, g 40, g 41, g 42, g 43, g 44, g 45, g 46, g 47, g 48, g 49, g 50, g 51, g 52, g 53, g 54, g 55, g 56, g 57, g 58, g 59, g 60, g 61, g 62, g 63, g 64, g 65, g 66, g 67, g 68, g 69, g 70, g 71, g 72, g 73, g 74, g 75, g 76, g 77, g 78, g 79, g 80, g 81]) ∧ (h 1 = some (drw fy Y) ∧ h 3 = some (drw fv V)) ∧ 4 ≤ nn ∧ i + k = 300) 300 ⟨0, garb rfl, ⟨by simp only [upd_apply, ↓reduceIte, Nat.reduceEqDiff, if_pos], by simp only [upd_apply, ↓reduceIte, Nat.reduceEqDiff, if_pos]⟩, Nat.le_refl _, by omega⟩ ?_
  rintro k _ h nn ⟨i, ⟨g, rfl⟩, ⟨e0, e1⟩, hnn, hk⟩
  by_cases hi : i = 300
  · have z1 : ((i : Int) < 300) = False := eq_false (by omega)
    clear h1 h2
    simp (maxSteps := 4000000) only [go_sem, ↓reduceIte, Nat.reduceAdd, Nat.reduceSub, Nat.reduceMul, Nat.reduceEqDiff, reduceCtorEq, Int.reduceAdd, Int.reduceLT, Int.reduceLE, Int.reduceToNat, Int.reduceNeg, Int.reduceSub, ← List.map_take, ← List.map_drop, ne_eq, Nat.reduceLeDiff, Nat.reduceLT, Nat.zero_le, Nat.le_refl, wrap64, wrapu64, wrapu32, ← Int.natCast_add, ← Int.natCast_mul, cast_succ, wrapu32_nat, shr32, reps_wd, map_set_wd, List.length_set, zs_len, z1, awake7]
  · have z1 : ((i : Int) < 300) = True := eq_true (by omega)
    have w0 : IntKind.i64.wrap (from_ : Int) = (from_ : Int) := wrap64 (by omega) (by omega)
    have m0 : (from_ : Int).tmod 1000000 = ((from_ % 1000000 : Nat) : Int) := by rw [Int.tmod_eq_emod_of_nonneg (by omega)]; rfl
    have hfm : from_ % 1000000 < 1000000 := Nat.mod_lt _ (by decide)
    generalize from_ % 1000000 = fm at *
    have w1 : IntKind.i64.wrap (fm : Int) = (fm : Int) := wrap64 (by omega) (by omega)
    obtain ⟨A, hA⟩ : ∃ A, A = 1 + fm := ⟨_, rfl⟩
    have w2 : IntKind.i64.wrap (1 + (fm : Int)) = (A : Int) := by rw [wrap64 (by omega) (by omega)]; omega
    have w2' : IntKind.i64.wrap ((1 + fm : Nat) : Int) = (A : Int) := by rw [wrap64 (by omega) (by omega)]; omega
    obtain ⟨N, hN⟩ : ∃ N, N = A + i := ⟨_, rfl⟩
    have w3 : IntKind.i64.wrap ((A + i : Nat) : Int) = (N : Int) := by rw [wrap64 (by omega) (by omega)]; omega
    have w4 : IntKind.i64.wrap ((i + 1 : Nat) : Int) = ((i + 1 : Nat) : Int) := wrap64 (by omega) (by omega)
    have hN1 : 1 ≤ (N : Int) ∧ (N : Int) ≤ 1000300 := by omega
    have b1 : D * (N : Int) ≤ 1000000 * 1000300 := Int.mul_le_mul hD.2 hN1.2 (by omega) (by omega)
    have b2 : 2 * 1 ≤ D * (N : Int) := Int.mul_le_mul hD.1 hN1.1 (by omega) (by omega)
    have b3 : D * (N : Int) * (N : Int) ≤ 1000000 * 1000300 * 1000300 := Int.mul_le_mul b1 hN1.2 (by omega) (by omega)
    have b4 : 2 * 1 * 1 ≤ D * (N : Int) * (N : Int) := Int.mul_le_mul b2 hN1.1 (by omega) (by omega)
    have h1' := fun x => h1 (N : Int) x hN1.1
    have h2' := fun x => h2 (N : Int) x hN1.1
    have w5 : IntKind.i64.wrap (D * (N : Int)) = D * (N : Int) := wrap64 (by omega) (by omega)
    have w6 : IntKind.i64.wrap (D * (N : Int) * (N : Int)) = D * (N : Int) * (N : Int) := wrap64 (by omega) (by omega)
    have w7 : IntKind.i64.wrap (D * (N : Int) * (N : Int) + 1) = D * (N : Int) * (N : Int) + 1 := wrap64 (by omega) (by omega)
    have w8 : IntKind.i64.wrap (D * (N : Int) * (N : Int) - 1) = D * (N : Int) * (N : Int) - 1 := wrap64 (by omega) (by omega)
    obtain ⟨s1, q1, t1⟩ := square_spec (D * (N : Int) * (N : Int) + 1) (by omega) (by omega)
    obtain ⟨s2, q2, t2⟩ := square_spec (D * (N : Int) * (N : Int) - 1) (by omega) (by omega)
    have o1 := rOf_spec (N : Int) (by omega) (by omega)
    have l1 := dg_small (z := (N : Int)) (by omega)
    have c1 := rCmp_spec (decide ((N : Int) = 0)) (N : Int) fy Y (by omega) (by omega)
    have c2 := rCmp_spec (decide ((N : Int) = 0)) (N : Int) fv V (by omega) (by omega)
    have r1 : s1 = true → (cmpI (N : Int) Y < 0) = False := fun h => by
      obtain ⟨x, hx, hx2⟩ := t1 h
      rw [cmpI_lt]
      exact eq_false (by have := h1' x hx hx2; omega)
    have r2 : s2 = true → (0 : Int) = 0 ∧ (cmpI (N : Int) V < 0) = False := fun h => by
      obtain ⟨x, hx, hx2⟩ := t2 h
      have := h2' x hx hx2
      rw [cmpI_lt]
      exact ⟨this.1, eq_false (by omega)⟩
    generalize cmpI (N : Int) Y = C1 at *
    generalize cmpI (N : Int) V = C2 at *
    clear h1 h2 h1' h2' t1 t2 b1 b2 b3 b4 hN1 hfm hA hN l1 lY lV hfrom
    simp only [RM] at o1
    have hfin : ∀ (h' : Heap) (m : Nat) (sl : List AV), (∃ g : Nat → AV, sl = [.int .i64 D, .int .u32 (from_ : Int), g 2, g 3, g 4, g 5, .ptr 1 0, g 7, g 8, .ptr 3 0, .int .i64 0, .int .i64 ((i + 1 : Nat) : Int), g 12, g 13, g 14, g 15, g 16, g 17, g 18, g 19, g 20, g 21, g 22, g 23, g 24, g 25, g 26, g 27, g 28, g 29, g 30, g 31, g 32, g 33, g 34, g 35, g 36, g 37, g 38, g 39, g 40, g 41, g 42, g 43, g 44, g 45, g 46, g 47, g 48, g 49, g 50, g 51, g 52, g 53, g 54, g 55, g 56, g 57, g 58, g 59, g 60, g 61, g 62, g 63, g 64, g 65, g 66, g 67, g 68, g 69, g 70, g 71, g 72, g 73, g 74, g 75, g 76, g 77, g 78, g 79, g 80, g 81]) → h' 1 = some (drw fy Y) → h' 3 = some (drw fv V) → 4 ≤ m →
        ∃ k', k' < k ∧ ∃ i : Nat, (∃ g : Nat → AV, sl = [.int .i64 D, .int .u32 (from_ : Int), g 2, g 3, g 4, g 5, .ptr 1 0, g 7, g 8, .ptr 3 0, .int .i64 0, .int .i64 (i : Int), g 12, g 13, g 14, g 15, g 16, g 17, g 18, g 19, g 20, g 21, g 22, g 23, g 24, g 25, g 26, g 27, g 28, g 29, g 30, g 31, g 32, g 33, g 34, g 35, g 36, g 37, g 38, g 39, g 40, g 41, g 42, g 43, g 44, g 45, g 46, g 47, g 48, g 49, g 50, g 51, g 52, g 53, g 54, g 55, g 56, g 57, g 58, g 59, g 60, g 61, g 62, g 63, g 64, g 65, g 66, g 67, g 68, g 69, g 70, g 71, g 72, g 73, g 74, g 75, g 76, g 77, g 78, g 79, g 80, g 81]) ∧ (h' 1 = some (drw fy Y) ∧ h' 3 = some (drw fv V)) ∧ 4 ≤ m ∧ i + k' = 300 := fun h' m sl a0 a1 a2 a3 => ⟨k - 1, by omega, i + 1, a0, ⟨a1, a2⟩, a3, by omega⟩
    generalize hIQ : (fun (k : Nat) (σ : St) => ∃ i : Nat, (∃ g : Nat → AV, σ.sl = [.int .i64 D, .int .u32 (from_ : Int), g 2, g 3, g 4, g 5, .ptr 1 0, g 7, g 8, .ptr 3 0, .int .i64 0, .int .i64 (i : Int), g 12, g 13, g 14, g 15, g 16, g 17, g 18, g 19, g 20, g 21, g 22, g 23, g 24, g 25, g 26, g 27, g 28, g 29, g 30, g 31, g 32, g 33, g 34, g 35, g 36, g 37, g 38, g 39, g 40, g 41, g 42, g 43, g 44, g 45, g 46, g 47, g 48, g 49, g 50, g 51, g 52, g 53, g 54, g 55, g 56, g 57, g 58, g 59, g 60, g 61, g 62, g 63, g 64, g 65, g 66, g 67, g 68, g 69, g 70, g 71, g 72, g 73, g 74, g 75, g 76, g 77, g 78, g 79, g 80, g 81]) ∧ (σ.h 1 = some (drw fy Y) ∧ σ.h 3 = some (drw fv V)) ∧ 4 ≤ σ.nx ∧ i + k = 300) = IQ
    obtain ⟨QQ, hQQ⟩ : ∃ QQ : Ex → St → Prop, QQ = fun ex τ => ex = .norm ∧ (∃ g : Nat → AV, τ.sl = [.int .i64 D, .int .u32 (from_ : Int), g 2, g 3, g 4, g 5, .ptr 1 0, g 7, g 8, .ptr 3 0, .int .i64 0, .int .i64 (i : Int), .int .i64 (N : Int), g 13, g 14, g 15, g 16, g 17, g 18, g 19, g 20, g 21, g 22, g 23, g 24, g 25, g 26, g 27, g 28, g 29, g 30, g 31, g 32, g 33, g 34, g 35, g 36, g 37, g 38, g 39, g 40, g 41, g 42, g 43, g 44, g 45, g 46, g 47, g 48, g 49, g 50, g 51, g 52, g 53, g 54, g 55, g 56, g 57, g 58, g 59, g 60, g 61, .bool false, g 63, g 64, g 65, g 66, g 67, g 68, g 69, g 70, g 71, g 72, g 73, g 74, g 75, g 76, g 77, g 78, g 79, g 80, g 81]) ∧ nn ≤ τ.nx ∧ τ.h = h := ⟨_, rfl⟩
    simp (maxSteps := 4000000) only [go_sem, ↓reduceIte, Nat.reduceAdd, Nat.reduceSub, Nat.reduceMul, Nat.reduceEqDiff, reduceCtorEq, Int.reduceAdd, Int.reduceLT, Int.reduceLE, Int.reduceToNat, Int.reduceNeg, Int.reduceSub, ← List.map_take, ← List.map_drop, ne_eq, Nat.reduceLeDiff, Nat.reduceLT, Nat.zero_le, Nat.le_refl, wrap64, wrapu64, wrapu32, ← Int.natCast_add, ← Int.natCast_mul, cast_succ, wrapu32_nat, shr32, reps_wd, map_set_wd, List.length_set, zs_len, z1, w0, m0, w1, w2, w2', w3, w5, w6, w7, w8, Int.reduceEq]
    refine W_mono (Q := QQ) ?_ ?_
    · refine W_drawn ?_
      cases s1 with
      | false =>
        simp (maxSteps := 4000000) only [go_sem, ↓reduceIte, Nat.reduceAdd, Nat.reduceSub, Nat.reduceMul, Nat.reduceEqDiff, reduceCtorEq, Int.reduceAdd, Int.reduceLT, Int.reduceLE, Int.reduceToNat, Int.reduceNeg, Int.reduceSub, ← List.map_take, ← List.map_drop, ne_eq, Nat.reduceLeDiff, Nat.reduceLT, Nat.zero_le, Nat.le_refl, wrap64, wrapu64, wrapu32, ← Int.natCast_add, ← Int.natCast_mul, cast_succ, wrapu32_nat, shr32, reps_wd, map_set_wd, List.length_set, zs_len, w5, w6, w7, q1, Int.reduceEq]
        refine ⟨by rfl, ?_⟩
        rw [hQQ]
        refine ⟨rfl, ?_, Nat.le_refl _, rfl⟩
        refine garb ?_
        rfl
      | true =>
        have r1 := r1 rfl
        simp only [I] at c1
        simp (maxSteps := 4000000) only [go_sem, ↓reduceIte, Nat.reduceAdd, Nat.reduceSub, Nat.reduceMul, Nat.reduceEqDiff, reduceCtorEq, Int.reduceAdd, Int.reduceLT, Int.reduceLE, Int.reduceToNat, Int.reduceNeg, Int.reduceSub, ← List.map_take, ← List.map_drop, ne_eq, Nat.reduceLeDiff, Nat.reduceLT, Nat.zero_le, Nat.le_refl, wrap64, wrapu64, wrapu32, ← Int.natCast_add, ← Int.natCast_mul, cast_succ, wrapu32_nat, shr32, reps_wd, map_set_wd, List.length_set, zs_len, w5, w6, w7, q1, o1, c1, r1, e0, Int.reduceEq]
        refine ⟨by rfl, ?_⟩
        rw [hQQ]
        refine ⟨rfl, ?_, Nat.le_refl _, rfl⟩
        refine garb ?_
        rfl
    · rw [hQQ]
      clear hQQ QQ q1 r1 c1
      rintro ex ⟨sl, H', m⟩ ⟨rfl, ⟨g', rfl⟩, hm, rfl⟩
      dsimp only at hm e0 e1
      simp (maxSteps := 4000000) only [go_sem, ↓reduceIte, Nat.reduceAdd, Nat.reduceSub, Nat.reduceMul, Nat.reduceEqDiff, reduceCtorEq, Int.reduceAdd, Int.reduceLT, Int.reduceLE, Int.reduceToNat, Int.reduceNeg, Int.reduceSub, ← List.map_take, ← List.map_drop, ne_eq, Nat.reduceLeDiff, Nat.reduceLT, Nat.zero_le, Nat.le_refl, wrap64, wrapu64, wrapu32, ← Int.natCast_add, ← Int.natCast_mul, cast_succ, wrapu32_nat, shr32, reps_wd, map_set_wd, List.length_set, zs_len, Int.reduceEq]
      refine W_drawn ?_
      cases s2 with
      | false =>
        simp (maxSteps := 4000000) only [go_sem, ↓reduceIte, Nat.reduceAdd, Nat.reduceSub, Nat.reduceMul, Nat.reduceEqDiff, reduceCtorEq, Int.reduceAdd, Int.reduceLT, Int.reduceLE, Int.reduceToNat, Int.reduceNeg, Int.reduceSub, ← List.map_take, ← List.map_drop, ne_eq, Nat.reduceLeDiff, Nat.reduceLT, Nat.zero_le, Nat.le_refl, wrap64, wrapu64, wrapu32, ← Int.natCast_add, ← Int.natCast_mul, cast_succ, wrapu32_nat, shr32, reps_wd, map_set_wd, List.length_set, zs_len, w5, w6, w8, q2, Int.reduceEq]
        refine ⟨by rfl, ?_⟩
        simp (maxSteps := 4000000) only [go_sem, ↓reduceIte, Nat.reduceAdd, Nat.reduceSub, Nat.reduceMul, Nat.reduceEqDiff, reduceCtorEq, Int.reduceAdd, Int.reduceLT, Int.reduceLE, Int.reduceToNat, Int.reduceNeg, Int.reduceSub, ← List.map_take, ← List.map_drop, ne_eq, Nat.reduceLeDiff, Nat.reduceLT, Nat.zero_le, Nat.le_refl, wrap64, wrapu64, wrapu32, ← Int.natCast_add, ← Int.natCast_mul, cast_succ, wrapu32_nat, shr32, reps_wd, map_set_wd, List.length_set, zs_len, w4]
        rw [← hIQ]
        refine hfin _ _ _ ?_ e0 e1 (by dsimp only; omega)
        refine garb ?_
        rfl
      | true =>
        have r2 := r2 rfl
        first
        | exact absurd r2.1 (by decide)
        | (have r2 := r2.2
           simp only [I] at c2
           simp (maxSteps := 4000000) only [go_sem, ↓reduceIte, Nat.reduceAdd, Nat.reduceSub, Nat.reduceMul, Nat.reduceEqDiff, reduceCtorEq, Int.reduceAdd, Int.reduceLT, Int.reduceLE, Int.reduceToNat, Int.reduceNeg, Int.reduceSub, ← List.map_take, ← List.map_drop, ne_eq, Nat.reduceLeDiff, Nat.reduceLT, Nat.zero_le, Nat.le_refl, wrap64, wrapu64, wrapu32, ← Int.natCast_add, ← Int.natCast_mul, cast_succ, wrapu32_nat, shr32, reps_wd, map_set_wd, List.length_set, zs_len, w5, w6, w8, q2, o1, c2, r2, e1, Int.reduceEq]
           refine ⟨by rfl, ?_⟩
           simp (maxSteps := 4000000) only [go_sem, ↓reduceIte, Nat.reduceAdd, Nat.reduceSub, Nat.reduceMul, Nat.reduceEqDiff, reduceCtorEq, Int.reduceAdd, Int.reduceLT, Int.reduceLE, Int.reduceToNat, Int.reduceNeg, Int.reduceSub, ← List.map_take, ← List.map_drop, ne_eq, Nat.reduceLeDiff, Nat.reduceLT, Nat.zero_le, Nat.le_refl, wrap64, wrapu64, wrapu32, ← Int.natCast_add, ← Int.natCast_mul, cast_succ, wrapu32_nat, shr32, reps_wd, map_set_wd, List.length_set, zs_len, w4]
           rw [← hIQ]
           refine hfin _ _ _ ?_ e0 e1 (by dsimp only; omega)
           refine garb ?_
           rfl)
set_option maxHeartbeats 4000000 in
theorem none_walk6 (D X Y U V : Int) (fx fy fu fv : Bool) (from_ : Nat) (hD : 2 ≤ D ∧ D ≤ 1000000) (hfrom : from_ < 4294967296) (f2 : denP E 12 [.int .i64 D] = some (.ret (.bool true)))
    (p1 : denP E 10 [.int .i64 D] = some (.ret (RP3 (I fx X) (I fy Y) 0))) (p2 : denP E 11 [.int .i64 D] = some (.ret (RP3 (I fu U) (I fv V) 6))) (lY : (dg Y).length ≤ 4096) (lV : (dg V).length ≤ 4096)
    (h1 : ∀ n x : Int, 1 ≤ n → 0 ≤ x → x * x = D * n * n + 1 → Y ≤ n) (h2 : ∀ n x : Int, 1 ≤ n → 0 ≤ x → x * x = D * n * n - 1 → (6 : Int) = 0 ∧ V ≤ n) :
    denP E 8 [.int .i64 D, .int .u32 (from_ : Int)] = some (.ret (.bool true)) := by
  refine denP_eq E8 rfl (by simp [AV.pureL, AV.pure, pure_wd]) ?_
  simp (maxSteps := 4000000) only [go_sem, ↓reduceIte, Nat.reduceAdd, Nat.reduceSub, Nat.reduceMul, Nat.reduceEqDiff, reduceCtorEq, Int.reduceAdd, Int.reduceLT, Int.reduceLE, Int.reduceToNat, Int.reduceNeg, Int.reduceSub, ← List.map_take, ← List.map_drop, ne_eq, Nat.reduceLeDiff, Nat.reduceLT, Nat.zero_le, Nat.le_refl, wrap64, wrapu64, wrapu32, ← Int.natCast_add, ← Int.natCast_mul, cast_succ, wrapu32_nat, shr32, reps_wd, map_set_wd, List.length_set, zs_len, Try.f8, p1, p2, f2, Int.reduceEq, places, fillAll]
  clear p1 p2
  refine W_loopS (fun k sl h nn => ∃ i : Nat, (∃ g : Nat → AV, sl = [.int .i64 D, .int .u32 (from_ : Int), g 2, g 3, g 4, g 5, .ptr 1 0, g 7, g 8, .ptr 3 0, .int .i64 6, .int .i64 (i : Int), g 12, g 13, g 14, g 15, g 16, g 17, g 18, g 19, g 20, g 21, g 22, g 23, g 24, g 25, g 26, g 27, g 28, g 29, g 30, g 31, g 32, g 33, g 34, g 35, g 36, g 37, g 38, g 39, g 40, g 41, g 42, g 43, g 44, g 45, g 46, g 47, g 48, g 49, g 50, g 51, g 52, g 53, g 54, g 55, g 56, g 57, g 58, g 59, g 60, g 61, g 62, g 63, g 64, g 65, g 66, g 67, g 68, g 69, g 70, g 71, g 72, g 73, g 74, g 75, g 76, g 77, g 78, g 79, g 80, g 81]) ∧ (h 1 = some (drw fy Y) ∧ h 3 = some (drw fv V)) ∧ 4 ≤ nn ∧ i + k = 300) 300 ⟨0, garb rfl, ⟨by simp only [upd_apply, ↓reduceIte, Nat.reduceEqDiff, if_pos], by simp only [upd_apply, ↓reduceIte, Nat.reduceEqDiff, if_pos]⟩, Nat.le_refl _, by omega⟩ ?_
  rintro k _ h nn ⟨i, ⟨g, rfl⟩, ⟨e0, e1⟩, hnn, hk⟩
  by_cases hi : i = 300
  · have z1 : ((i : Int) < 300) = False := eq_false (by omega)
    clear h1 h2
    simp (maxSteps := 4000000) only [go_sem, ↓reduceIte, Nat.reduceAdd, Nat.reduceSub, Nat.reduceMul, Nat.reduceEqDiff, reduceCtorEq, Int.reduceAdd, Int.reduceLT, Int.reduceLE, Int.reduceToNat, Int.reduceNeg, Int.reduceSub, ← List.map_take, ← List.map_drop, ne_eq, Nat.reduceLeDiff, Nat.reduceLT, Nat.zero_le, Nat.le_refl, wrap64, wrapu64, wrapu32, ← Int.natCast_add, ← Int.natCast_mul, cast_succ, wrapu32_nat, shr32, reps_wd, map_set_wd, List.length_set, zs_len, z1, awake7]
  · have z1 : ((i : Int) < 300) = True := eq_true (by omega)
    have w0 : IntKind.i64.wrap (from_ : Int) = (from_ : Int) := wrap64 (by omega) (by omega)
    have m0 : (from_ : Int).tmod 1000000 = ((from_ % 1000000 : Nat) : Int) := by rw [Int.tmod_eq_emod_of_nonneg (by omega)]; rfl
    have hfm : from_ % 1000000 < 1000000 := Nat.mod_lt _ (by decide)
    generalize from_ % 1000000 = fm at *
    have w1 : IntKind.i64.wrap (fm : Int) = (fm : Int) := wrap64 (by omega) (by omega)
    obtain ⟨A, hA⟩ : ∃ A, A = 1 + fm := ⟨_, rfl⟩
    have w2 : IntKind.i64.wrap (1 + (fm : Int)) = (A : Int) := by rw [wrap64 (by omega) (by omega)]; omega
    have w2' : IntKind.i64.wrap ((1 + fm : Nat) : Int) = (A : Int) := by rw [wrap64 (by omega) (by omega)]; omega
    obtain ⟨N, hN⟩ : ∃ N, N = A + i := ⟨_, rfl⟩
    have w3 : IntKind.i64.wrap ((A + i : Nat) : Int) = (N : Int) := by rw [wrap64 (by omega) (by omega)]; omega
    have w4 : IntKind.i64.wrap ((i + 1 : Nat) : Int) = ((i + 1 : Nat) : Int) := wrap64 (by omega) (by omega)
    have hN1 : 1 ≤ (N : Int) ∧ (N : Int) ≤ 1000300 := by omega
    have b1 : D * (N : Int) ≤ 1000000 * 1000300 := Int.mul_le_mul hD.2 hN1.2 (by omega) (by omega)
    have b2 : 2 * 1 ≤ D * (N : Int) := Int.mul_le_mul hD.1 hN1.1 (by omega) (by omega)
    have b3 : D * (N : Int) * (N : Int) ≤ 1000000 * 1000300 * 1000300 := Int.mul_le_mul b1 hN1.2 (by omega) (by omega)
    have b4 : 2 * 1 * 1 ≤ D * (N : Int) * (N : Int) := Int.mul_le_mul b2 hN1.1 (by omega) (by omega)
    have h1' := fun x => h1 (N : Int) x hN1.1
    have h2' := fun x => h2 (N : Int) x hN1.1
    have w5 : IntKind.i64.wrap (D * (N : Int)) = D * (N : Int) := wrap64 (by omega) (by omega)
    have w6 : IntKind.i64.wrap (D * (N : Int) * (N : Int)) = D * (N : Int) * (N : Int) := wrap64 (by omega) (by omega)
    have w7 : IntKind.i64.wrap (D * (N : Int) * (N : Int) + 1) = D * (N : Int) * (N : Int) + 1 := wrap64 (by omega) (by omega)
    have w8 : IntKind.i64.wrap (D * (N : Int) * (N : Int) - 1) = D * (N : Int) * (N : Int) - 1 := wrap64 (by omega) (by omega)
    obtain ⟨s1, q1, t1⟩ := square_spec (D * (N : Int) * (N : Int) + 1) (by omega) (by omega)
    obtain ⟨s2, q2, t2⟩ := square_spec (D * (N : Int) * (N : Int) - 1) (by omega) (by omega)
    have o1 := rOf_spec (N : Int) (by omega) (by omega)
    have l1 := dg_small (z := (N : Int)) (by omega)
    have c1 := rCmp_spec (decide ((N : Int) = 0)) (N : Int) fy Y (by omega) (by omega)
    have c2 := rCmp_spec (decide ((N : Int) = 0)) (N : Int) fv V (by omega) (by omega)
    have r1 : s1 = true → (cmpI (N : Int) Y < 0) = False := fun h => by
      obtain ⟨x, hx, hx2⟩ := t1 h
      rw [cmpI_lt]
      exact eq_false (by have := h1' x hx hx2; omega)
    have r2 : s2 = true → (6 : Int) = 0 ∧ (cmpI (N : Int) V < 0) = False := fun h => by
      obtain ⟨x, hx, hx2⟩ := t2 h
      have := h2' x hx hx2
      rw [cmpI_lt]
      exact ⟨this.1, eq_false (by omega)⟩
    generalize cmpI (N : Int) Y = C1 at *
    generalize cmpI (N : Int) V = C2 at *
    clear h1 h2 h1' h2' t1 t2 b1 b2 b3 b4 hN1 hfm hA hN l1 lY lV hfrom
    simp only [RM] at o1
    have hfin : ∀ (h' : Heap) (m : Nat) (sl : List AV), (∃ g : Nat → AV, sl = [.int .i64 D, .int .u32 (from_ : Int), g 2, g 3, g 4, g 5, .ptr 1 0, g 7, g 8, .ptr 3 0, .int .i64 6, .int .i64 ((i + 1 : Nat) : Int), g 12, g 13, g 14, g 15, g 16, g 17, g 18, g 19, g 20, g 21, g 22, g 23, g 24, g 25, g 26, g 27, g 28, g 29, g 30, g 31, g 32, g 33, g 34, g 35, g 36, g 37, g 38, g 39, g 40, g 41, g 42, g 43, g 44, g 45, g 46, g 47, g 48, g 49, g 50, g 51, g 52, g 53, g 54, g 55, g 56, g 57, g 58, g 59, g 60, g 61, g 62, g 63, g 64, g 65, g 66, g 67, g 68, g 69, g 70, g 71, g 72, g 73, g 74, g 75, g 76, g 77, g 78, g 79, g 80, g 81]) → h' 1 = some (drw fy Y) → h' 3 = some (drw fv V) → 4 ≤ m →
        ∃ k', k' < k ∧ ∃ i : Nat, (∃ g : Nat → AV, sl = [.int .i64 D, .int .u32 (from_ : Int), g 2, g 3, g 4, g 5, .ptr 1 0, g 7, g 8, .ptr 3 0, .int .i64 6, .int .i64 (i : Int), g 12, g 13, g 14, g 15, g 16, g 17, g 18, g 19, g 20, g 21, g 22, g 23, g 24, g 25, g 26, g 27, g 28, g 29, g 30, g 31, g 32, g 33, g 34, g 35, g 36, g 37, g 38, g 39, g 40, g 41, g 42, g 43, g 44, g 45, g 46, g 47, g 48, g 49, g 50, g 51, g 52, g 53, g 54, g 55, g 56, g 57, g 58, g 59, g 60, g 61, g 62, g 63, g 64, g 65, g 66, g 67, g 68, g 69, g 70, g 71, g 72, g 73, g 74, g 75, g 76, g 77, g 78, g 79, g 80, g 81]) ∧ (h' 1 = some (drw fy Y) ∧ h' 3 = some (drw fv V)) ∧ 4 ≤ m ∧ i + k' = 300 := fun h' m sl a0 a1 a2 a3 => ⟨k - 1, by omega, i + 1, a0, ⟨a1, a2⟩, a3, by omega⟩
    generalize hIQ : (fun (k : Nat) (σ : St) => ∃ i : Nat, (∃ g : Nat → AV, σ.sl = [.int .i64 D, .int .u32 (from_ : Int), g 2, g 3, g 4, g 5, .ptr 1 0, g 7, g 8, .ptr 3 0, .int .i64 6, .int .i64 (i : Int), g 12, g 13, g 14, g 15, g 16, g 17, g 18, g 19, g 20, g 21, g 22, g 23, g 24, g 25, g 26, g 27, g 28, g 29, g 30, g 31, g 32, g 33, g 34, g 35, g 36, g 37, g 38, g 39, g 40, g 41, g 42, g 43, g 44, g 45, g 46, g 47, g 48, g 49, g 50, g 51, g 52, g 53, g 54, g 55, g 56, g 57, g 58, g 59, g 60, g 61, g 62, g 63, g 64, g 65, g 66, g 67, g 68, g 69, g 70, g 71, g 72, g 73, g 74, g 75, g 76, g 77, g 78, g 79, g 80, g 81]) ∧ (σ.h 1 = some (drw fy Y) ∧ σ.h 3 = some (drw fv V)) ∧ 4 ≤ σ.nx ∧ i + k = 300) = IQ
    obtain ⟨QQ, hQQ⟩ : ∃ QQ : Ex → St → Prop, QQ = fun ex τ => ex = .norm ∧ (∃ g : Nat → AV, τ.sl = [.int .i64 D, .int .u32 (from_ : Int), g 2, g 3, g 4, g 5, .ptr 1 0, g 7, g 8, .ptr 3 0, .int .i64 6, .int .i64 (i : Int), .int .i64 (N : Int), g 13, g 14, g 15, g 16, g 17, g 18, g 19, g 20, g 21, g 22, g 23, g 24, g 25, g 26, g 27, g 28, g 29, g 30, g 31, g 32, g 33, g 34, g 35, g 36, g 37, g 38, g 39, g 40, g 41, g 42, g 43, g 44, g 45, g 46, g 47, g 48, g 49, g 50, g 51, g 52, g 53, g 54, g 55, g 56, g 57, g 58, g 59, g 60, g 61, .bool false, g 63, g 64, g 65, g 66, g 67, g 68, g 69, g 70, g 71, g 72, g 73, g 74, g 75, g 76, g 77, g 78, g 79, g 80, g 81]) ∧ nn ≤ τ.nx ∧ τ.h = h := ⟨_, rfl⟩
    simp (maxSteps := 4000000) only [go_sem, ↓reduceIte, Nat.reduceAdd, Nat.reduceSub, Nat.reduceMul, Nat.reduceEqDiff, reduceCtorEq, Int.reduceAdd, Int.reduceLT, Int.reduceLE, Int.reduceToNat, Int.reduceNeg, Int.reduceSub, ← List.map_take, ← List.map_drop, ne_eq, Nat.reduceLeDiff, Nat.reduceLT, Nat.zero_le, Nat.le_refl, wrap64, wrapu64, wrapu32, ← Int.natCast_add, ← Int.natCast_mul, cast_succ, wrapu32_nat, shr32, reps_wd, map_set_wd, List.length_set, zs_len, z1, w0, m0, w1, w2, w2', w3, w5, w6, w7, w8, Int.reduceEq]
    refine W_mono (Q := QQ) ?_ ?_
    · refine W_drawn ?_
      cases s1 with
      | false =>
        simp (maxSteps := 4000000) only [go_sem, ↓reduceIte, Nat.reduceAdd, Nat.reduceSub, Nat.reduceMul, Nat.reduceEqDiff, reduceCtorEq, Int.reduceAdd, Int.reduceLT, Int.reduceLE, Int.reduceToNat, Int.reduceNeg, Int.reduceSub, ← List.map_take, ← List.map_drop, ne_eq, Nat.reduceLeDiff, Nat.reduceLT, Nat.zero_le, Nat.le_refl, wrap64, wrapu64, wrapu32, ← Int.natCast_add, ← Int.natCast_mul, cast_succ, wrapu32_nat, shr32, reps_wd, map_set_wd, List.length_set, zs_len, w5, w6, w7, q1, Int.reduceEq]
        refine ⟨by rfl, ?_⟩
        rw [hQQ]
        refine ⟨rfl, ?_, Nat.le_refl _, rfl⟩
        refine garb ?_
        rfl
      | true =>
        have r1 := r1 rfl
        simp only [I] at c1
        simp (maxSteps := 4000000) only [go_sem, ↓reduceIte, Nat.reduceAdd, Nat.reduceSub, Nat.reduceMul, Nat.reduceEqDiff, reduceCtorEq, Int.reduceAdd, Int.reduceLT, Int.reduceLE, Int.reduceToNat, Int.reduceNeg, Int.reduceSub, ← List.map_take, ← List.map_drop, ne_eq, Nat.reduceLeDiff, Nat.reduceLT, Nat.zero_le, Nat.le_refl, wrap64, wrapu64, wrapu32, ← Int.natCast_add, ← Int.natCast_mul, cast_succ, wrapu32_nat, shr32, reps_wd, map_set_wd, List.length_set, zs_len, w5, w6, w7, q1, o1, c1, r1, e0, Int.reduceEq]
        refine ⟨by rfl, ?_⟩
        rw [hQQ]
        refine ⟨rfl, ?_, Nat.le_refl _, rfl⟩
        refine garb ?_
        rfl
    · rw [hQQ]
      clear hQQ QQ q1 r1 c1
      rintro ex ⟨sl, H', m⟩ ⟨rfl, ⟨g', rfl⟩, hm, rfl⟩
      dsimp only at hm e0 e1
      simp (maxSteps := 4000000) only [go_sem, ↓reduceIte, Nat.reduceAdd, Nat.reduceSub, Nat.reduceMul, Nat.reduceEqDiff, reduceCtorEq, Int.reduceAdd, Int.reduceLT, Int.reduceLE, Int.reduceToNat, Int.reduceNeg, Int.reduceSub, ← List.map_take, ← List.map_drop, ne_eq, Nat.reduceLeDiff, Nat.reduceLT, Nat.zero_le, Nat.le_refl, wrap64, wrapu64, wrapu32, ← Int.natCast_add, ← Int.natCast_mul, cast_succ, wrapu32_nat, shr32, reps_wd, map_set_wd, List.length_set, zs_len, Int.reduceEq]
      refine W_drawn ?_
      cases s2 with
      | false =>
        simp (maxSteps := 4000000) only [go_sem, ↓reduceIte, Nat.reduceAdd, Nat.reduceSub, Nat.reduceMul, Nat.reduceEqDiff, reduceCtorEq, Int.reduceAdd, Int.reduceLT, Int.reduceLE, Int.reduceToNat, Int.reduceNeg, Int.reduceSub, ← List.map_take, ← List.map_drop, ne_eq, Nat.reduceLeDiff, Nat.reduceLT, Nat.zero_le, Nat.le_refl, wrap64, wrapu64, wrapu32, ← Int.natCast_add, ← Int.natCast_mul, cast_succ, wrapu32_nat, shr32, reps_wd, map_set_wd, List.length_set, zs_len, w5, w6, w8, q2, Int.reduceEq]
        refine ⟨by rfl, ?_⟩
        simp (maxSteps := 4000000) only [go_sem, ↓reduceIte, Nat.reduceAdd, Nat.reduceSub, Nat.reduceMul, Nat.reduceEqDiff, reduceCtorEq, Int.reduceAdd, Int.reduceLT, Int.reduceLE, Int.reduceToNat, Int.reduceNeg, Int.reduceSub, ← List.map_take, ← List.map_drop, ne_eq, Nat.reduceLeDiff, Nat.reduceLT, Nat.zero_le, Nat.le_refl, wrap64, wrapu64, wrapu32, ← Int.natCast_add, ← Int.natCast_mul, cast_succ, wrapu32_nat, shr32, reps_wd, map_set_wd, List.length_set, zs_len, w4]
        rw [← hIQ]
        refine hfin _ _ _ ?_ e0 e1 (by dsimp only; omega)
        refine garb ?_
        rfl
      | true =>
        have r2 := r2 rfl
        first
        | exact absurd r2.1 (by decide)
        | (have r2 := r2.2
           simp only [I] at c2
           simp (maxSteps := 4000000) only [go_sem, ↓reduceIte, Nat.reduceAdd, Nat.reduceSub, Nat.reduceMul, Nat.reduceEqDiff, reduceCtorEq, Int.reduceAdd, Int.reduceLT, Int.reduceLE, Int.reduceToNat, Int.reduceNeg, Int.reduceSub, ← List.map_take, ← List.map_drop, ne_eq, Nat.reduceLeDiff, Nat.reduceLT, Nat.zero_le, Nat.le_refl, wrap64, wrapu64, wrapu32, ← Int.natCast_add, ← Int.natCast_mul, cast_succ, wrapu32_nat, shr32, reps_wd, map_set_wd, List.length_set, zs_len, w5, w6, w8, q2, o1, c2, r2, e1, Int.reduceEq]
           refine ⟨by rfl, ?_⟩
           simp (maxSteps := 4000000) only [go_sem, ↓reduceIte, Nat.reduceAdd, Nat.reduceSub, Nat.reduceMul, Nat.reduceEqDiff, reduceCtorEq, Int.reduceAdd, Int.reduceLT, Int.reduceLE, Int.reduceToNat, Int.reduceNeg, Int.reduceSub, ← List.map_take, ← List.map_drop, ne_eq, Nat.reduceLeDiff, Nat.reduceLT, Nat.zero_le, Nat.le_refl, wrap64, wrapu64, wrapu32, ← Int.natCast_add, ← Int.natCast_mul, cast_succ, wrapu32_nat, shr32, reps_wd, map_set_wd, List.length_set, zs_len, w4]
           rw [← hIQ]
           refine hfin _ _ _ ?_ e0 e1 (by dsimp only; omega)
           refine garb ?_
           rfl)
theorem none_all (D : Int) (f : Nat) (hf : f < 4294967296) : denP E 8 [.int .i64 D, .int .u32 (f : Int)] = some (.ret (.bool true)) := by
  rcases fits_two D with ⟨f1, f2⟩ | ⟨hD, r, L, hr, hL, f1, f2⟩
  · exact none_no D f f2
  · have hD2 := rt_D hr
    have hl := LXY_len' hr hD hL
    have p1 := Least_yes D r hr hD L hL
    have h1 : ∀ n x : Int, 1 ≤ n → 0 ≤ x → x * x = D * n * n + 1 → LY D r L ≤ n := fun n x hn hx h => (sol_least hr hL (x := x) (y := n) (by rw [h, Int.mul_assoc]; omega) hx hn).2
    have h2 : ∀ n x : Int, 1 ≤ n → 0 ≤ x → x * x = D * n * n - 1 → L % 2 = 1 ∧ (H D r (L - 1)).1.2 ≤ n := fun n x hn hx h => neg_least hr hL (x := x) (y := n) (by rw [h, Int.mul_assoc]; omega) hx hn
    by_cases ho : L % 2 = 1
    · have hr2 := (A_small hr hD 0).1
      have hl2 := H_len hr hr2 hL (L - 1) (by omega)
      exact none_walk0 D _ _ _ _ false false false false f ⟨hD2, hD⟩ hf f2 p1 (Minus_odd D r hr hD L hL ho) (by omega) (by omega) h1 fun n x hn hx h => ⟨rfl, (h2 n x hn hx h).2⟩
    · exact none_walk6 D _ _ _ _ false false true true f ⟨hD2, hD⟩ hf f2 p1 (Minus_even D r hr hD L hL (by omega)) (by omega) (by rw [dg_zero]; simp) h1 fun n x hn hx h => absurd (h2 n x hn hx h).1 ho
end Go.Proofs.Ytiglncbaomoceaa
