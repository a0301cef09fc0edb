/- The machine over pure values: a statement that leaves its order open comes to the same in every order (I): what the records of its operations say. (Own work of this repo.) -/
import Derived.Test.YtpfcijgcjghgeaaVm16
set_option linter.unusedVariables false
set_option linter.unusedSimpArgs false
namespace Vm
open Go

abbrev LS := List AV × Heap
def app (σ : LS) (r : Rec) : LS := (put σ.1 r.dst r.val, σ.2.upds r.ups)
def apps (σ : LS) : List Rec → LS
  | [] => σ
  | r :: rs => apps (app σ r) rs
/-- Some of the records carried out, in the text's order. -/
def rep (S : Nat → Bool) : List Rec → Nat → LS → LS
  | [], _, σ => σ
  | r :: rs, i, σ => rep S rs (i + 1) (if S i then app σ r else σ)

theorem put_length (sl : List AV) (d : Option Nat) (v : AV) : (put sl d v).length = sl.length := by cases d <;> simp [put]
theorem put_congr {s s' : List AV} {x : Nat} (h : s[x]? = s'[x]?) (d : Option Nat) (v : AV) : (put s d v)[x]? = (put s' d v)[x]? := by
  cases d with
  | none => exact h
  | some d =>
    simp only [put, List.getElem?_set]
    split
    · rename_i hd
      subst hd
      have : (d < s.length) = (d < s'.length) := by
        by_cases h1 : d < s.length
        · rw [List.getElem?_eq_getElem h1] at h
          have := (List.getElem?_eq_some_iff.1 h.symm).1
          simp [h1, this]
        · rw [List.getElem?_eq_none (Nat.le_of_not_lt h1)] at h
          have := List.getElem?_eq_none_iff.1 h.symm
          simp [h1, Nat.not_lt.2 this]
      simp [this]
    · exact h
theorem put_other {s : List AV} {x : Nat} {d : Option Nat} (h : d ≠ some x) (v : AV) : (put s d v)[x]? = s[x]? := by
  cases d with
  | none => rfl
  | some d => simp only [put]; rw [List.getElem?_set_ne (fun e => h (by rw [e]))]
theorem upds_congr : ∀ (u : List (Nat × Option Blk)) {H H' : Heap} {i : Nat}, H i = H' i → (H.upds u) i = (H'.upds u) i
  | [], _, _, _, h => h
  | (k, b) :: u, H, H', i, h => by
    simp only [Heap.upds]
    refine upds_congr u ?_
    by_cases e : i = k
    · subst e; rw [Heap.upd_same, Heap.upd_same]
    · rw [Heap.upd_ne _ _ e, Heap.upd_ne _ _ e]; exact h
theorem upds_other : ∀ (u : List (Nat × Option Blk)) {H : Heap} {i : Nat}, i ∉ u.map (·.1) → (H.upds u) i = H i
  | [], _, _, _ => rfl
  | (k, b) :: u, H, i, h => by
    simp only [List.map_cons, List.mem_cons, not_or] at h
    simp only [Heap.upds]
    rw [upds_other u h.2, Heap.upd_ne _ _ h.1]
theorem upds_in : ∀ (u : List (Nat × Option Blk)) {H H' : Heap} {i : Nat}, i ∈ u.map (·.1) → (H.upds u) i = (H'.upds u) i
  | [], _, _, _, h => by simp at h
  | (k, b) :: u, H, H', i, h => by
    simp only [Heap.upds]
    by_cases e : i = k
    · subst e; exact upds_congr u (by rw [Heap.upd_same, Heap.upd_same])
    · simp only [List.map_cons, List.mem_cons] at h
      exact upds_in u (h.resolve_left e)

theorem rep_slot {S S' : Nat → Bool} {x : Nat} : ∀ (rs : List Rec) (k : Nat) (σ σ' : LS), (∀ (j : Nat) (r : Rec), rs[j]? = some r → S (k + j) ≠ S' (k + j) → r.dst ≠ some x) → σ.1[x]? = σ'.1[x]? → (rep S rs k σ).1[x]? = (rep S' rs k σ').1[x]?
  | [], _, _, _, _, h => h
  | r :: rs, k, σ, σ', hd, h => by
    simp only [rep]
    refine rep_slot rs (k + 1) _ _ (fun j r' hr hne => hd (j + 1) r' (by simpa using hr) (by rw [show k + (j + 1) = k + 1 + j by omega]; exact hne)) ?_
    have h0 := hd 0 r rfl
    simp only [Nat.add_zero] at h0
    cases hS : S k <;> cases hS' : S' k <;> simp only [hS, hS', Bool.false_eq_true, if_false, if_true, ne_eq, not_false_eq_true, reduceCtorEq] at h0 ⊢
    · exact h
    · rw [app, put_other (h0 (by simp)) _]; exact h
    · rw [app, put_other (h0 (by simp)) _]; exact h
    · exact put_congr h _ _
theorem rep_heap {S S' : Nat → Bool} {x : Nat} : ∀ (rs : List Rec) (k : Nat) (σ σ' : LS), (∀ (j : Nat) (r : Rec), rs[j]? = some r → S (k + j) ≠ S' (k + j) → x ∉ r.ids) → σ.2 x = σ'.2 x → (rep S rs k σ).2 x = (rep S' rs k σ').2 x
  | [], _, _, _, _, h => h
  | r :: rs, k, σ, σ', hd, h => by
    simp only [rep]
    refine rep_heap rs (k + 1) _ _ (fun j r' hr hne => hd (j + 1) r' (by simpa using hr) (by rw [show k + (j + 1) = k + 1 + j by omega]; exact hne)) ?_
    have h0 := hd 0 r rfl
    simp only [Nat.add_zero] at h0
    cases hS : S k <;> cases hS' : S' k <;> simp only [hS, hS', Bool.false_eq_true, if_false, if_true, ne_eq, not_false_eq_true, reduceCtorEq] at h0 ⊢
    · exact h
    · show σ.2 x = (σ'.2.upds r.ups) x; rw [upds_other r.ups (h0 (by simp))]; exact h
    · show (σ.2.upds r.ups) x = σ'.2 x; rw [upds_other r.ups (h0 (by simp))]; exact h
    · exact upds_congr _ h
theorem rep_length (S : Nat → Bool) : ∀ (rs : List Rec) (k : Nat) (σ : LS), (rep S rs k σ).1.length = σ.1.length
  | [], _, _ => rfl
  | r :: rs, k, σ => by
    simp only [rep]
    rw [rep_length S rs]
    split
    · exact put_length _ _ _
    · rfl
theorem rep_congr {S S' : Nat → Bool} : ∀ (rs : List Rec) (k : Nat) (σ : LS), (∀ i, k ≤ i → i < k + rs.length → S i = S' i) → rep S rs k σ = rep S' rs k σ
  | [], _, _, _ => rfl
  | r :: rs, k, σ, h => by
    simp only [rep]
    rw [h k (Nat.le_refl _) (by simp), rep_congr rs (k + 1) _ fun i h1 h2 => h i (by omega) (by simp; omega)]
theorem rep_none {S : Nat → Bool} : ∀ (rs : List Rec) (k : Nat) (σ : LS), (∀ i, k ≤ i → S i = false) → rep S rs k σ = σ
  | [], _, _, _ => rfl
  | r :: rs, k, σ, h => by
    simp only [rep, h k (Nat.le_refl _), Bool.false_eq_true, if_false]
    exact rep_none rs (k + 1) σ fun i hi => h i (by omega)
theorem rep_all {S : Nat → Bool} : ∀ (rs : List Rec) (k : Nat) (σ : LS), (∀ i, k ≤ i → i < k + rs.length → S i = true) → rep S rs k σ = apps σ rs
  | [], _, _, _ => rfl
  | r :: rs, k, σ, h => by
    simp only [rep, h k (Nat.le_refl _) (by simp), if_true, apps]
    exact rep_all rs (k + 1) _ fun i h1 h2 => h i (by omega) (by simp; omega)
theorem rep_take : ∀ (rs : List Rec) (k j : Nat) (σ : LS), rep (fun i => decide (i < k + j)) rs k σ = apps σ (rs.take j)
  | [], _, _, _ => by simp [rep, apps]
  | r :: rs, k, 0, σ => by
    rw [rep_none]
    · simp [apps]
    · intro i hi; simp; omega
  | r :: rs, k, j + 1, σ => by
    simp only [rep, List.take_succ_cons, apps]
    rw [if_pos (by simp), ← rep_take rs (k + 1) j]
    refine rep_congr _ _ _ fun i _ _ => ?_
    congr 1
    rw [show k + (j + 1) = k + 1 + j by omega]

/-- Two records that may change places. -/
def Comm (r s : Rec) : Prop := (∀ d, r.dst = some d → s.dst ≠ some d) ∧ ∀ i, i ∈ r.ids → i ∉ s.ids
theorem app_comm {r s : Rec} (h : Comm r s) (σ : LS) : app (app σ r) s = app (app σ s) r := by
  obtain ⟨h1, h2⟩ := h
  unfold app
  refine Prod.ext ?_ ?_
  · dsimp only
    cases hr : r.dst with
    | none => rfl
    | some d =>
      cases hs : s.dst with
      | none => rfl
      | some d' =>
        simp only [put]
        exact List.set_comm _ _ (fun e => h1 d hr (by rw [hs, e]))
  · dsimp only
    funext i
    by_cases hi : i ∈ r.ids
    · rw [upds_other s.ups (h2 i hi)]
      exact upds_in r.ups hi
    · rw [upds_other r.ups (H := σ.2.upds s.ups) hi]
      exact upds_congr s.ups (upds_other r.ups hi)
theorem rep_push {S : Nat → Bool} {r : Rec} : ∀ (rs : List Rec) (k : Nat) (σ : LS), (∀ (i : Nat) (s : Rec), rs[i]? = some s → S (k + i) = true → Comm r s) → rep S rs k (app σ r) = app (rep S rs k σ) r
  | [], _, _, _ => rfl
  | s :: rs, k, σ, h => by
    simp only [rep]
    cases hS : S k with
    | false =>
      simp only [Bool.false_eq_true, if_false]
      exact rep_push rs (k + 1) σ fun i t ht hS => h (i + 1) t (by simpa using ht) (by rw [show k + (i + 1) = k + 1 + i by omega]; exact hS)
    | true =>
      simp only [if_true]
      rw [app_comm (h 0 s rfl (by simpa using hS))]
      exact rep_push rs (k + 1) _ fun i t ht hS => h (i + 1) t (by simpa using ht) (by rw [show k + (i + 1) = k + 1 + i by omega]; exact hS)
theorem rep_add {S : Nat → Bool} {r : Rec} : ∀ (rs : List Rec) (k j : Nat) (σ : LS), rs[j]? = some r → S (k + j) = false → (∀ (i : Nat) (s : Rec), rs[i]? = some s → S (k + i) = true → j < i → Comm r s) →
    rep (fun i => S i || i == k + j) rs k σ = app (rep S rs k σ) r
  | [], _, _, _, h, _, _ => by simp at h
  | s :: rs, k, 0, σ, h, hS, hc => by
    simp at h
    subst h
    simp only [Nat.add_zero] at hS
    simp only [rep, hS, Bool.false_or, Nat.add_zero, beq_self_eq_true, if_true, Bool.false_eq_true, if_false]
    rw [← rep_push rs (k + 1) σ fun i t ht hS => hc (i + 1) t (by simpa using ht) (by rw [show k + (i + 1) = k + 1 + i by omega]; exact hS) (by omega)]
    refine rep_congr _ _ _ fun i h1 _ => ?_
    have : (i == k) = false := by simp; omega
    simp [this]
  | s :: rs, k, j + 1, σ, h, hS, hc => by
    have hk : (k == k + (j + 1)) = false := by simp
    simp only [rep, hk, Bool.or_false]
    have := rep_add rs (k + 1) j (if S k then app σ s else σ) (by simpa using h) (by rw [show k + 1 + j = k + (j + 1) by omega]; exact hS) (fun i t ht hS' hlt => hc (i + 1) t (by simpa using ht) (by rw [show k + (i + 1) = k + 1 + i by omega]; exact hS') (by omega))
    rw [← this]
    refine rep_congr _ _ _ fun i _ _ => ?_
    rw [show k + 1 + j = k + (j + 1) by omega]

/-! #### what stands before what -/
theorem masks_length : ∀ (os : List Oper) (acc : List Nat), (masks os acc).length = acc.length + os.length
  | [], acc => by simp [masks]
  | o :: os, acc => by simp only [masks]; rw [masks_length os]; simp; omega
theorem masks_old : ∀ (os : List Oper) (acc : List Nat) (i : Nat), i < acc.length → (masks os acc)[i]? = acc[i]?
  | [], _, _, _ => rfl
  | o :: os, acc, i, h => by
    simp only [masks]
    rw [masks_old os _ i (by simp; omega), List.getElem?_append_left h]
theorem masks_get : ∀ (os : List Oper) (acc : List Nat) (j : Nat) (o : Oper), os[j]? = some o → (masks os acc)[acc.length + j]? = some (maskOf ((masks os acc).take (acc.length + j)) o.after.toList)
  | [], _, _, _, h => by simp at h
  | o :: os, acc, 0, o', h => by
    simp at h
    subst h
    simp only [masks, Nat.add_zero]
    rw [masks_old os _ acc.length (by simp)]
    have : (masks os (acc ++ [maskOf acc o.after.toList])).take acc.length = acc := by
      apply List.ext_getElem?
      intro i
      by_cases hi : i < acc.length
      · rw [List.getElem?_take_of_lt hi, masks_old os _ i (by simp; omega), List.getElem?_append_left hi]
      · rw [List.getElem?_eq_none (by simp; omega), List.getElem?_eq_none (by omega)]
    rw [this]
    simp
  | o :: os, acc, j + 1, o', h => by
    simp only [masks]
    have := masks_get os (acc ++ [maskOf acc o.after.toList]) j o' (by simpa using h)
    simp only [List.length_append, List.length_cons, List.length_nil, Nat.zero_add] at this
    rw [show acc.length + (j + 1) = acc.length + 1 + j by omega]
    exact this
theorem maskOf_bit (acc : List Nat) (i : Nat) : ∀ (es : List Edge), (maskOf acc es).testBit i = true → ∃ e ∈ es, Region.binds .any e = true ∧ (e.on = i ∨ (acc.getD e.on 0).testBit i = true)
  | [], h => by simp [maskOf] at h
  | e :: es, h => by
    simp only [maskOf] at h
    split at h
    · rename_i hb
      simp only [Nat.testBit_or, Bool.or_eq_true] at h
      rcases h with (h | h) | h
      · obtain ⟨e', h1, h2⟩ := maskOf_bit acc i es h
        exact ⟨e', List.mem_cons_of_mem _ h1, h2⟩
      · refine ⟨e, List.mem_cons_self, hb, .inl ?_⟩
        rw [Nat.testBit_two_pow] at h
        simpa using h
      · exact ⟨e, List.mem_cons_self, hb, .inr h⟩
    · obtain ⟨e', h1, h2⟩ := maskOf_bit acc i es h
      exact ⟨e', List.mem_cons_of_mem _ h1, h2⟩

/-- A set that holds with each operation what must stand before it. -/
def Down (ops : Array Oper) (S : Nat → Prop) : Prop := ∀ (j : Nat) (o : Oper), S j → ops[j]? = some o → ∀ e ∈ o.after, Region.binds .any e = true → S e.on
theorem before_in {ops : Array Oper} {S : Nat → Prop} (hd : Down ops S) : ∀ (j i : Nat) (o : Oper), ops[j]? = some o → befBit ops.toList j i = true → (∀ e ∈ o.after, Region.binds .any e = true → S e.on) → S i := by
  intro j
  induction j using Nat.strongRecOn with
  | _ j ih =>
    intro i o ho hb hS
    unfold befBit at hb
    have hm := masks_get ops.toList [] j o (by simpa using ho)
    simp only [List.length_nil, Nat.zero_add] at hm
    rw [List.getD_eq_getElem?_getD, hm] at hb
    simp only [Option.getD_some] at hb
    obtain ⟨e, he, hbe, hc⟩ := maskOf_bit _ i _ hb
    have he' : e ∈ o.after := by simpa using he
    have hSe := hS e he' hbe
    rcases hc with rfl | hc
    · exact hSe
    · by_cases hlt : e.on < j
      · have hl : e.on < ops.toList.length := by
          have := (Array.getElem?_eq_some_iff.1 ho).1
          simp; omega
        have ho2 : ops[e.on]? = some ops.toList[e.on] := by rw [← Array.getElem?_toList]; exact List.getElem?_eq_getElem hl
        refine ih e.on hlt i _ ho2 ?_ (hd e.on _ hSe ho2)
        rw [List.getD_eq_getElem?_getD, List.getElem?_take_of_lt hlt] at hc
        unfold befBit
        rw [List.getD_eq_getElem?_getD]
        exact hc
      · rw [List.getD_eq_getElem?_getD, List.getElem?_eq_none (by simp; omega)] at hc
        simp at hc

/-! #### what is asked of the text once and for all -/
def looks (all : List Oper) (o : Oper) : List Nat :=
  opTmps o.op ++ (match o.guard with
    | some (g, _) => (match all[g]? with
      | some q => q.dst.toList
      | none => [])
    | none => [])
def slotFree (all : List Oper) (x y : Oper) : Bool :=
  (match x.dst with
  | some d => !(looks all y).contains d && y.dst != some d
  | none => true) &&
  (match y.dst with
  | some d => !(looks all x).contains d
  | none => true)
def statOne (all : List Oper) (b : List Nat) (i : Nat) (x : Oper) : Nat → List Oper → Bool
  | _, [] => true
  | j, y :: ys => (slotFree all x y || (b.getD j 0).testBit i) && statOne all b i x (j + 1) ys
def statAll (all : List Oper) (b : List Nat) : Nat → List Oper → Bool
  | _, [] => true
  | i, x :: xs => statOne all b i x (i + 1) xs && statAll all b (i + 1) xs
def edgesOk : Nat → List Oper → Bool
  | _, [] => true
  | i, o :: os => o.after.toList.all (fun e => !Region.binds .any e || decide (e.on < i)) && edgesOk (i + 1) os
def regOk (ops : List Oper) : Bool := statAll ops (masks ops []) 0 ops && edgesOk 0 ops

theorem statOne_spec {all : List Oper} {b : List Nat} {i : Nat} {x : Oper} : ∀ (ys : List Oper) (j : Nat), statOne all b i x j ys = true → ∀ (k : Nat) (y : Oper), ys[k]? = some y → slotFree all x y = true ∨ (b.getD (j + k) 0).testBit i = true
  | [], _, _, _, _, h => by simp at h
  | y :: ys, j, h, k, z, hz => by
    simp only [statOne, Bool.and_eq_true, Bool.or_eq_true] at h
    cases k with
    | zero => simp at hz; subst hz; exact h.1
    | succ k => have := statOne_spec ys (j + 1) h.2 k z (by simpa using hz); rwa [show j + 1 + k = j + (k + 1) by omega] at this
theorem statAll_spec {all : List Oper} {b : List Nat} : ∀ (xs : List Oper) (i : Nat), statAll all b i xs = true → ∀ (j k : Nat) (x y : Oper), xs[j]? = some x → xs[k]? = some y → j < k → slotFree all x y = true ∨ (b.getD (i + k) 0).testBit (i + j) = true
  | [], _, _, _, _, _, _, h, _, _ => by simp at h
  | z :: xs, i, h, j, k, x, y, hx, hy, hlt => by
    simp only [statAll, Bool.and_eq_true] at h
    cases k with
    | zero => omega
    | succ k =>
      cases j with
      | zero =>
        simp at hx
        subst hx
        have := statOne_spec xs (i + 1) h.1 k y (by simpa using hy)
        rwa [show i + 1 + k = i + (k + 1) by omega] at this
      | succ j =>
        have := statAll_spec xs (i + 1) h.2 j k x y (by simpa using hx) (by simpa using hy) (by omega)
        rwa [show i + 1 + k = i + (k + 1) by omega, show i + 1 + j = i + (j + 1) by omega] at this
theorem edgesOk_spec : ∀ (os : List Oper) (i : Nat), edgesOk i os = true → ∀ (j : Nat) (o : Oper), os[j]? = some o → ∀ e ∈ o.after, Region.binds .any e = true → e.on < i + j
  | [], _, _, _, _, h => by simp at h
  | o :: os, i, h, j, o', ho => by
    simp only [edgesOk, Bool.and_eq_true] at h
    cases j with
    | zero =>
      simp at ho
      subst ho
      intro e he hb
      have := List.all_eq_true.1 h.1 e (by simpa using he)
      simp [hb] at this
      omega
    | succ j => have := edgesOk_spec os (i + 1) h.2 j o' (by simpa using ho); rwa [show i + 1 + j = i + (j + 1) by omega] at this
theorem dynOne_spec {all : List Oper} {i : Nat} {r : Rec} : ∀ (ss : List Rec) (j : Nat), dynOne all i r j ss = true → ∀ (k : Nat) (s : Rec), ss[k]? = some s → r.free s = true ∨ befBit all (j + k) i = true
  | [], _, _, _, _, h => by simp at h
  | s :: ss, j, h, k, t, ht => by
    simp only [dynOne, Bool.and_eq_true] at h
    cases k with
    | zero =>
      simp at ht
      subst ht
      have h1 := h.1
      split at h1
      · rename_i hf; exact .inl hf
      · exact .inr h1
    | succ k => have := dynOne_spec ss (j + 1) h.2 k t (by simpa using ht); rwa [show j + 1 + k = j + (k + 1) by omega] at this
theorem dynOk_spec {all : List Oper} : ∀ (rs : List Rec) (i : Nat), dynOk all i rs = true → ∀ (j k : Nat) (r s : Rec), rs[j]? = some r → rs[k]? = some s → j < k → r.free s = true ∨ befBit all (i + k) (i + j) = true
  | [], _, _, _, _, _, _, h, _, _ => by simp at h
  | t :: rs, i, h, j, k, r, s, hr, hs, hlt => by
    simp only [dynOk, Bool.and_eq_true] at h
    cases k with
    | zero => omega
    | succ k =>
      cases j with
      | zero =>
        simp at hr
        subst hr
        have := dynOne_spec rs (i + 1) h.1 k s (by simpa using hs)
        rwa [show i + 1 + k = i + (k + 1) by omega] at this
      | succ j =>
        have := dynOk_spec rs (i + 1) h.2 j k r s (by simpa using hr) (by simpa using hs) (by omega)
        rwa [show i + 1 + k = i + (k + 1) by omega, show i + 1 + j = i + (j + 1) by omega] at this
end Vm
