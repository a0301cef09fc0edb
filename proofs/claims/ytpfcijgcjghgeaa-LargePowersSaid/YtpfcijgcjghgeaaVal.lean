/- Plain facts on words: what a row of words is worth, and the row of a number. (Own work of this repo.) -/
import Derived.Test.YtpfcijgcjghgeaaVm24
set_option linter.unusedVariables false
set_option linter.unusedSimpArgs false
namespace Vm

/-- The words' base. -/
abbrev BB : Nat := 4294967296
/-- What the first words are worth. -/
def vp (l : List Nat) : Nat → Nat
  | 0 => 0
  | n + 1 => vp l n + l.getD n 0 * BB ^ n
def val (l : List Nat) : Nat := vp l l.length
def InR (l : List Nat) : Prop := ∀ x ∈ l, x < BB
theorem InR.get {l : List Nat} (h : InR l) (i : Nat) : l.getD i 0 < 4294967296 := by
  rw [List.getD_eq_getElem?_getD]
  by_cases hi : i < l.length
  · rw [List.getElem?_eq_getElem hi]; exact h _ (List.getElem_mem hi)
  · rw [List.getElem?_eq_none (by omega)]; decide
theorem vp_ge (l : List Nat) : ∀ n, l.length ≤ n → vp l n = val l := by
  intro n h
  induction n with
  | zero => have : l.length = 0 := by omega
            simp [val, this, vp]
  | succ n ih =>
    by_cases hn : l.length ≤ n
    · rw [vp, ih hn, List.getD_eq_getElem?_getD, List.getElem?_eq_none hn]; simp
    · have : l.length = n + 1 := by omega
      rw [val, this]
theorem vp_cons (x : Nat) (xs : List Nat) : ∀ n, vp (x :: xs) (n + 1) = x + BB * vp xs n := by
  intro n
  induction n with
  | zero => simp [vp]
  | succ n ih => rw [vp, ih, vp, List.getD_cons_succ, Nat.pow_succ, Nat.mul_add]; generalize BB ^ n = p; generalize xs.getD n 0 = y; rw [Nat.add_assoc, show y * (p * BB) = BB * (y * p) by rw [Nat.mul_comm p, ← Nat.mul_assoc, Nat.mul_comm y, Nat.mul_assoc]]
theorem val_nil : val [] = 0 := rfl
theorem val_cons (x : Nat) (xs : List Nat) : val (x :: xs) = x + BB * val xs := vp_cons x xs xs.length
theorem vp_lt {l : List Nat} (h : InR l) : ∀ n, vp l n < BB ^ n
  | 0 => by simp [vp]
  | n + 1 => by
    have h1 := vp_lt h n
    have h2 := h.get n
    rw [vp, Nat.pow_succ, Nat.mul_comm (BB ^ n)]
    have h3 : (l.getD n 0 + 1) * BB ^ n ≤ BB * BB ^ n := Nat.mul_le_mul_right _ h2
    rw [Nat.add_mul] at h3
    omega
theorem vp_set (l : List Nat) (i x : Nat) : ∀ n, n ≤ i → vp (l.set i x) n = vp l n
  | 0, _ => rfl
  | n + 1, h => by
    rw [vp, vp, vp_set l i x n (by omega)]
    congr 2
    rw [List.getD_eq_getElem?_getD, List.getD_eq_getElem?_getD, List.getElem?_set_ne (by omega)]
theorem lget_set_self {l : List Nat} {i x : Nat} (h : i < l.length) : (l.set i x).getD i 0 = x := by
  rw [List.getD_eq_getElem?_getD, List.getElem?_set_self h]; rfl
theorem lget_set_ne {l : List Nat} {i j x : Nat} (h : i ≠ j) : (l.set i x).getD j 0 = l.getD j 0 := by
  rw [List.getD_eq_getElem?_getD, List.getD_eq_getElem?_getD, List.getElem?_set_ne h]
theorem InR.set {l : List Nat} (h : InR l) {i x : Nat} (hx : x < BB) : InR (l.set i x) := by
  intro y hy
  rcases List.mem_or_eq_of_mem_set hy with hy | rfl
  · exact h y hy
  · exact hx
theorem InR.replicate (n : Nat) : InR (List.replicate n 0) := by intro x hx; rw [List.eq_of_mem_replicate hx]; decide
theorem vp_replicate (m : Nat) : ∀ n, vp (List.replicate m 0) n = 0
  | 0 => rfl
  | n + 1 => by
    rw [vp, vp_replicate m n, List.getD_eq_getElem?_getD, List.getElem?_replicate]
    split <;> simp
theorem getD_replicate (m i : Nat) : (List.replicate m 0).getD i 0 = 0 := by
  rw [List.getD_eq_getElem?_getD, List.getElem?_replicate]; split <;> rfl
theorem InR.take {l : List Nat} (h : InR l) (n : Nat) : InR (l.take n) := fun x hx => h x (List.mem_of_mem_take hx)
theorem InR.drop {l : List Nat} (h : InR l) (n : Nat) : InR (l.drop n) := fun x hx => h x (List.mem_of_mem_drop hx)
theorem vp_congr {l m : List Nat} : ∀ n, (∀ i, i < n → l.getD i 0 = m.getD i 0) → vp l n = vp m n
  | 0, _ => rfl
  | n + 1, h => by rw [vp, vp, vp_congr n (fun i hi => h i (by omega)), h n (by omega)]
theorem getD_take {l : List Nat} {i n : Nat} (h : i < n) : (l.take n).getD i 0 = l.getD i 0 := by
  rw [List.getD_eq_getElem?_getD, List.getD_eq_getElem?_getD, List.getElem?_take_of_lt h]
theorem getD_drop {l : List Nat} {i n : Nat} : (l.drop n).getD i 0 = l.getD (n + i) 0 := by
  rw [List.getD_eq_getElem?_getD, List.getD_eq_getElem?_getD, List.getElem?_drop]

/-- A row without zeros at its end. -/
def Norm (l : List Nat) : Prop := InR l ∧ (l = [] ∨ l.getD (l.length - 1) 0 ≠ 0)
/-- The row of a number. -/
def dig (n : Nat) : List Nat := if h : n = 0 then [] else n % BB :: dig (n / BB)
termination_by n
decreasing_by exact Nat.div_lt_self (by omega) (by decide)
theorem dig_zero : dig 0 = [] := by rw [dig]; simp
theorem dig_pos {n : Nat} (h : n ≠ 0) : dig n = n % BB :: dig (n / BB) := by rw [dig, dif_neg h]
theorem dig_inR (n : Nat) : InR (dig n) := by
  induction n using Nat.strongRecOn with
  | _ n ih =>
    by_cases h : n = 0
    · subst h; rw [dig_zero]; intro x hx; cases hx
    · rw [dig_pos h]
      intro x hx
      rcases List.mem_cons.1 hx with rfl | hx
      · exact Nat.mod_lt _ (by decide)
      · exact ih (n / BB) (Nat.div_lt_self (by omega) (by decide)) x hx
theorem val_dig (n : Nat) : val (dig n) = n := by
  induction n using Nat.strongRecOn with
  | _ n ih =>
    by_cases h : n = 0
    · subst h; rw [dig_zero]; rfl
    · rw [dig_pos h, val_cons, ih (n / BB) (Nat.div_lt_self (by omega) (by decide))]
      exact Nat.mod_add_div n BB
theorem InR.tail {x : Nat} {xs : List Nat} (h : InR (x :: xs)) : InR xs := fun y hy => h y (List.mem_cons_of_mem _ hy)
theorem Norm.tail {x : Nat} {xs : List Nat} (h : Norm (x :: xs)) : Norm xs := by
  refine ⟨h.1.tail, ?_⟩
  cases xs with
  | nil => exact .inl rfl
  | cons y ys =>
    right
    have := h.2.resolve_left (by simp)
    simpa using this
theorem norm_pos {l : List Nat} (h : Norm l) (hl : l ≠ []) : 0 < val l := by
  induction l with
  | nil => exact absurd rfl hl
  | cons x xs ih =>
    rw [val_cons]
    cases xs with
    | nil =>
      have := h.2.resolve_left (by simp)
      simp at this
      simp [val_nil]; omega
    | cons y ys =>
      have := ih h.tail (by simp)
      have : 0 < BB * val (y :: ys) := Nat.mul_pos (by decide) this
      omega
/-- A row without zeros at its end is its number's. -/
theorem dig_val {l : List Nat} (h : Norm l) : dig (val l) = l := by
  induction l with
  | nil => rw [val_nil, dig_zero]
  | cons x xs ih =>
    have h1 := norm_pos h (by simp)
    have hx : x < BB := h.1 x (by simp)
    rw [dig_pos (by omega), val_cons, Nat.add_mul_mod_self_left, Nat.mod_eq_of_lt hx, Nat.add_mul_div_left _ _ (by decide), Nat.div_eq_of_lt hx, Nat.zero_add, ih h.tail]
theorem dig_norm (n : Nat) : Norm (dig n) := by
  refine ⟨dig_inR n, ?_⟩
  induction n using Nat.strongRecOn with
  | _ n ih =>
    by_cases h : n = 0
    · subst h; left; rw [dig_zero]
    · right
      rw [dig_pos h]
      rcases ih (n / BB) (Nat.div_lt_self (by omega) (by decide)) with h1 | h1
      · rw [h1]
        have h0 : n / BB = 0 := by
          have := val_dig (n / BB)
          rw [h1] at this; exact this.symm
        have := Nat.mod_add_div n BB
        rw [h0] at this
        simp only [List.length_cons, List.length_nil, Nat.zero_add, Nat.sub_self, List.getD_cons_zero]
        omega
      · have h2 : (dig (n / BB)).length ≠ 0 := by
          intro e
          rw [List.length_eq_zero_iff] at e
          rw [e] at h1; simp at h1
        obtain ⟨k, hk⟩ : ∃ k, (dig (n / BB)).length = k + 1 := ⟨(dig (n / BB)).length - 1, by omega⟩
        rw [hk] at h1
        simp only [List.length_cons, hk, Nat.add_sub_cancel, List.getD_cons_succ]
        simpa using h1
theorem dig_inj {a b : Nat} (h : dig a = dig b) : a = b := by rw [← val_dig a, h, val_dig]
theorem dig_nil {n : Nat} : dig n = [] ↔ n = 0 := ⟨fun h => by rw [← val_dig n, h]; rfl, fun h => by rw [h, dig_zero]⟩
theorem norm_ext {a b : List Nat} (ha : Norm a) (hb : Norm b) (h : val a = val b) : a = b := by rw [← dig_val ha, h, dig_val hb]
/-- How long a number's row is. -/
theorem val_lt {l : List Nat} (h : InR l) : val l < BB ^ l.length := vp_lt h _
theorem norm_ge {l : List Nat} (h : Norm l) (hl : l ≠ []) : BB ^ (l.length - 1) ≤ val l := by
  obtain ⟨k, hk⟩ : ∃ k, l.length = k + 1 := ⟨l.length - 1, by have := List.length_pos_iff.2 hl; omega⟩
  have h1 := h.2.resolve_left hl
  rw [hk] at h1 ⊢
  rw [val, hk, vp]
  simp only [Nat.add_sub_cancel] at h1 ⊢
  have : 1 * BB ^ k ≤ l.getD k 0 * BB ^ k := Nat.mul_le_mul_right _ (by omega)
  omega
theorem dig_len {n k : Nat} : (dig n).length ≤ k ↔ n < BB ^ k := by
  constructor
  · intro h
    have h1 := val_lt (dig_inR n)
    rw [val_dig] at h1
    exact Nat.lt_of_lt_of_le h1 (Nat.pow_le_pow_right (by decide) h)
  · intro h
    by_cases h0 : dig n = []
    · rw [h0]; simp
    · have h1 := norm_ge (dig_norm n) h0
      rw [val_dig] at h1
      have h2 : BB ^ ((dig n).length - 1) < BB ^ k := by omega
      have := (Nat.pow_lt_pow_iff_right (by decide : 1 < BB)).1 h2
      omega

/-! #### for walks -/
/-- A fact that the reckoning of bounds need not look at. -/
structure Hd (p : Prop) : Prop where
  out : p
theorem cast_succ (i : Nat) : (i : Int) + 1 = ((i + 1 : Nat) : Int) := rfl
theorem wrapu32_nat (n : Nat) : Go.IntKind.u32.wrap (n : Int) = ((n % 4294967296 : Nat) : Int) := by rw [Go.IntKind.wrap_u32']; rfl
theorem shr32 (n : Nat) : (n : Int).fdiv (2 ^ min 32 Go.IntKind.u64.bits) = ((n / 4294967296 : Nat) : Int) := by
  rw [show min 32 Go.IntKind.u64.bits = 32 from rfl, Int.fdiv_eq_ediv_of_nonneg _ (by decide)]; rfl
/-- Zeros. -/
def zs (n : Nat) : List Nat := List.replicate n 0
theorem zs_len (n : Nat) : (zs n).length = n := List.length_replicate
theorem zs_inR (n : Nat) : InR (zs n) := InR.replicate n
theorem zs_vp (n k : Nat) : vp (zs n) k = 0 := vp_replicate n k
theorem zs_get (n i : Nat) : (zs n).getD i 0 = 0 := getD_replicate n i
theorem reps_wd : ∀ n, reps n [AV.int .u32 0] = (zs n).map wd := by
  unfold zs
  intro n
  induction n with
  | zero => rfl
  | succ n ih => simp only [reps, ih, List.replicate_succ, List.map_cons]; rfl
theorem split_mul (s p : Nat) : s % BB * p + s / BB * (p * BB) = s * p := by
  have h := Nat.mod_add_div s BB
  have h2 : s / BB * (p * BB) = BB * (s / BB) * p := by rw [Nat.mul_comm p BB, ← Nat.mul_assoc, Nat.mul_comm (s / BB) BB]
  rw [h2, ← Nat.add_mul, h]
theorem plus_step {o x y : List Nat} {i c s : Nat} (ho : i < o.length) (hv : vp o i + c * BB ^ i = vp x i + vp y i) (hs : s = c + x.getD i 0 + y.getD i 0) :
    vp (o.set i (s % 4294967296)) (i + 1) + s / 4294967296 * BB ^ (i + 1) = vp x (i + 1) + vp y (i + 1) := by
  have h : s % 4294967296 * BB ^ i + s / 4294967296 * (BB ^ i * BB) = s * BB ^ i := split_mul s (BB ^ i)
  rw [vp, vp, vp, vp_set o i _ i (Nat.le_refl _), lget_set_self ho, Nat.pow_succ]
  have h3 : s * BB ^ i = c * BB ^ i + x.getD i 0 * BB ^ i + y.getD i 0 * BB ^ i := by rw [hs, Nat.add_mul, Nat.add_mul]
  omega
theorem getD_ge {l : List Nat} {i : Nat} (h : l.length ≤ i) : l.getD i 0 = 0 := by
  rw [List.getD_eq_getElem?_getD, List.getElem?_eq_none h]; rfl
theorem val_set_last {o : List Nat} {n c : Nat} (ho : o.length = n + 1) : val (o.set n c) = vp o n + c * BB ^ n := by
  rw [val, List.length_set, ho, vp, vp_set o n c n (Nat.le_refl _), lget_set_self (by omega)]
theorem vp_hi {a b : List Nat} {k : Nat} : ∀ n, k ≤ n → (∀ j, k ≤ j → j < n → a.getD j 0 = b.getD j 0) → vp a n + vp b k = vp b n + vp a k := by
  intro n hn
  induction n with
  | zero => intro _; have : k = 0 := by omega
            subst this; omega
  | succ n ih =>
    intro h
    by_cases hk : k = n + 1
    · subst hk; omega
    · have := ih (by omega) (fun j h1 h2 => h j h1 (by omega))
      rw [vp, vp, h n (by omega) (by omega)]
      omega
theorem vp_less {a b : List Nat} {k n : Nat} (ha : InR a) (hk : k < n) (h : ∀ j, k < j → j < n → a.getD j 0 = b.getD j 0) (hlt : a.getD k 0 < b.getD k 0) : vp a n < vp b n := by
  have h1 := vp_hi (a := a) (b := b) (k := k + 1) n (by omega) (fun j h1 h2 => h j (by omega) h2)
  have h2 := vp_lt ha k
  rw [vp, vp] at h1
  have h3 : (a.getD k 0 + 1) * BB ^ k ≤ b.getD k 0 * BB ^ k := Nat.mul_le_mul_right _ hlt
  rw [Nat.add_mul] at h3
  omega
theorem val_less_len {a b : List Nat} (ha : InR a) (hb : Norm b) (h : a.length < b.length) : val a < val b := by
  have h1 := val_lt ha
  have h2 := norm_ge hb (by intro e; rw [e] at h; simp at h)
  have h3 : BB ^ a.length ≤ BB ^ (b.length - 1) := Nat.pow_le_pow_right (by decide) (by omega)
  omega
theorem mul_word {x y : Nat} (hx : x < 4294967296) (hy : y < 4294967296) : x * y ≤ 18446744065119617025 := by
  have := Nat.mul_le_mul (Nat.le_of_lt_succ hx) (Nat.le_of_lt_succ hy)
  simpa using this
theorem times_step {o p b : List Nat} {i j c x s : Nat} (hp : i + j < p.length) (hv : vp p (i + j) + c * BB ^ (i + j) = vp o (i + j) + x * vp b j * BB ^ i) (hs : s = c + (x * b.getD j 0 + o.getD (i + j) 0)) :
    vp (p.set (i + j) (s % 4294967296)) (i + (j + 1)) + s / 4294967296 * BB ^ (i + (j + 1)) = vp o (i + (j + 1)) + x * vp b (j + 1) * BB ^ i := by
  have h : s % 4294967296 * BB ^ (i + j) + s / 4294967296 * (BB ^ (i + j) * BB) = s * BB ^ (i + j) := split_mul s (BB ^ (i + j))
  rw [show i + (j + 1) = i + j + 1 by omega, vp, vp, vp, vp_set p (i + j) _ (i + j) (Nat.le_refl _), lget_set_self hp, Nat.pow_succ]
  have h3 : s * BB ^ (i + j) = c * BB ^ (i + j) + (x * b.getD j 0 * BB ^ (i + j) + o.getD (i + j) 0 * BB ^ (i + j)) := by rw [hs, Nat.add_mul, Nat.add_mul]
  have h4 : x * (vp b j + b.getD j 0 * BB ^ j) * BB ^ i = x * vp b j * BB ^ i + x * b.getD j 0 * BB ^ (i + j) := by
    rw [Nat.mul_add, Nat.add_mul, Nat.pow_add, Nat.mul_comm (BB ^ i) (BB ^ j), Nat.mul_assoc x (b.getD j 0), Nat.mul_assoc x (b.getD j 0 * BB ^ j), Nat.mul_assoc (b.getD j 0), Nat.mul_assoc x]
  rw [h4]
  omega
/-- How two numbers stand. -/
def cmpN (a b : Nat) : Int := if a < b then -1 else if b < a then 1 else 0
/-- A row of words as the program hands it back. -/
def RetW (r : Option Res) (N : Nat) : Prop := ∃ m, (m = true → N = 0) ∧ r = some (.ret (.lst m ((dig N).map wd)))
end Vm
