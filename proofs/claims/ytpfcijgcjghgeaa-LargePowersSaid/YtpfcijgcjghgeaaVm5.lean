/- The machine over pure values and the model's world: a value made free of addresses stands for the same. (Own work of this repo.) -/
import Derived.Test.YtpfcijgcjghgeaaVm4
set_option linter.unusedVariables false
set_option linter.unusedSimpArgs false
namespace Vm
open Go

theorem rep_scal {C : Cx} {v : Value} {c : AV} (h : Rep C v c) (h1 : v.oneCell' = true) : c.cells = [c] := by
  cases h <;> first | rfl | simp [Value.oneCell'] at h1

/-- All of 'ids' frozen. -/
def Cx.fr (C : Cx) (ids : List Nat) : Cx := { C with H := C.H.upds (freezes C.H ids) }

theorem Cx.Ok.not_wr {C : Cx} (h : C.Ok) {ids : List Nat} {id : Nat} {b : Blk} (hb : C.H id = some b) (hi : id ∈ ids) : ¬ (C.fr ids).wr (C.at_ id) := by
  rintro (hF | ⟨i, b', h1, h2, h3⟩)
  · exact h.nF id b hb hF
  · have e : (C.fr ids).H id = (C.H id).map fun b => { b with fz := true } := freezes_in C.H ids C.H id (.inl hi)
    have e' : (C.fr ids).H id = some { b with fz := true } := by rw [e, hb]; rfl
    obtain rfl := (h.freeze ids).2.inj i id _ _ h1 e' h3
    rw [e'] at h1
    cases h1
    simp at h2

theorem purify_sound {C : Cx} (h : C.Ok) (S : List Nat) : ∀ (n : Nat) (v : AV) (v' : AV) (ids : List Nat) (u : Value), purify n C.H v = some (v', ids) → (∀ i ∈ ids, i ∈ S) → Rep C u v → Rep (C.fr S) u v' ∧ v'.pure = true
  | 0, v, v', ids, u, he, _, _ => by simp [purify] at he
  | n + 1, v, v', ids, u, he, hS, hr => by
    have le : C.Le (C.fr S) := (h.freeze S).1
    have dflt : ∀ x : AV, (if x.pure then some (x, ([] : List Nat)) else none) = some (v', ids) → Rep C u x → Rep (C.fr S) u v' ∧ v'.pure = true := by
      intro x hx hrx
      split at hx
      · rename_i hp; cases hx; exact ⟨hrx.le le, hp⟩
      · cases hx
    cases v with
    | ref id off len =>
      simp only [purify] at he
      split at he
      · rename_i b hb
        split at he
        · rename_i hc
          obtain ⟨hlen, hz, hag⟩ := hc
          split at he
          · rename_i cs is hm
            cases he
            obtain ⟨hl, hg⟩ := mapL_get hm
            have hcs : cs.length = len * b.esz := by rw [← hl]; simp; omega
            cases hr with
            | ref v id off len h1 hB hh =>
              obtain ⟨cap, rfl, hcap, cs0, t0, fz0, hh0, hcc⟩ := hh b hb
              obtain ⟨cc, t, hb1, hb2, hb3⟩ := h.blk id b hb
              -- cell k of the slice
              have cell : ∀ (k : Nat) (c : AV), cs[k]? = some c → ∃ v, C.w.cell? ⟨C.at_ id, off + k, none⟩ = some v ∧ Rep (C.fr S) v c ∧ c.pure = true ∧ v.oneCell' = true := by
                intro k c hk
                have hk' : k < len * b.esz := by rw [← hcs]; exact (List.getElem?_eq_some_iff.1 hk).1
                have hx : ((b.cells.drop off).take (len * b.esz))[k]? = some b.cells[off + k] := by
                  rw [List.getElem?_take_of_lt hk', List.getElem?_drop]
                  exact List.getElem?_eq_getElem (by omega)
                obtain ⟨is', hp, hsub⟩ := hg k _ _ hx hk
                obtain ⟨v, hv, hrv, h1⟩ := hb3 (off + k) _ (List.getElem?_eq_getElem (by omega))
                obtain ⟨r1, r2⟩ := purify_sound h S n _ _ _ v hp (fun i hi => hS i (by simp [hsub i hi])) hrv
                exact ⟨v, by simp only [World.cell?, hb1]; simpa using hv, r1, r2, h1⟩
              -- element i
              have elem : ∀ (i : Nat) (x : AV), (elems b.agg b.esz len cs)[i]? = some x → i < len ∧ x.cells.length = b.esz ∧ ∀ (j : Nat) (c : AV), x.cells[j]? = some c → cs[i * b.esz + j]? = some c := by
                intro i x hx
                have hi : i < len := by
                  have := (List.getElem?_eq_some_iff.1 hx).1
                  rwa [elems_length] at this
                refine ⟨hi, ?_⟩
                rw [elems_get _ _ _ _ _ hi] at hx
                have hmul : i * b.esz + b.esz ≤ len * b.esz := by
                  have : (i + 1) * b.esz ≤ len * b.esz := Nat.mul_le_mul_right _ hi
                  rwa [Nat.succ_mul] at this
                cases hagg : b.agg with
                | true =>
                  simp only [hagg, if_true, Option.some.injEq] at hx
                  subst hx
                  simp only [AV.cells]
                  refine ⟨by simp; omega, fun j c hj => ?_⟩
                  have hj' : j < b.esz := by
                    have := (List.getElem?_eq_some_iff.1 hj).1
                    simp at this
                    omega
                  rw [List.getElem?_take_of_lt hj', List.getElem?_drop] at hj
                  exact hj
                | false =>
                  have e1 : b.esz = 1 := by rcases hag with h' | h'; · rw [hagg] at h'; cases h'
                                            · exact h'
                  simp only [hagg, e1, Nat.mul_one, Bool.false_eq_true, if_false, Option.some.injEq] at hx
                  have hi' : i < cs.length := by rw [hcs, e1]; omega
                  have hd : (cs.drop i).headD undef = cs[i] := by
                    rw [List.drop_eq_getElem_cons hi']; rfl
                  rw [hd] at hx
                  obtain ⟨v, _, rv, _, ov⟩ := cell i cs[i] (List.getElem?_eq_getElem hi')
                  have hc1 := rep_scal rv ov
                  rw [← hx, hc1]
                  refine ⟨by simp [e1], fun j c hj => ?_⟩
                  cases j with
                  | zero => simp at hj; subst hj; simp [e1, List.getElem?_eq_getElem hi']
                  | succ j => simp at hj
              refine ⟨?_, ?_⟩
              · have hl2 : (elems b.agg b.esz len cs).length = len := elems_length _ _ _ _
                have := Rep.lst (C := C.fr S) ⟨C.at_ id, off, none⟩ cap b.esz (elems b.agg b.esz len cs) (fun i j => (C.w.cell? ⟨C.at_ id, off + (i * b.esz + j), none⟩).getD Go.undef)
                  (by rw [hl2]; exact hcap) (fun x hx => by obtain ⟨i, hi⟩ := List.getElem?_of_mem hx; exact (elem i x hi).2.1)
                  (fun _ => ⟨rfl, h.lt hb, h.not_wr hb (hS id (by simp))⟩)
                  (fun i x hx j c hj => by
                    obtain ⟨_, _, h3⟩ := elem i x hx
                    obtain ⟨v, hv, _⟩ := cell _ c (h3 j c hj)
                    show C.w.cell? _ = _
                    rw [hv]; rfl)
                  (fun i x hx j c hj => by
                    obtain ⟨_, _, h3⟩ := elem i x hx
                    obtain ⟨v, hv, _, _, ov⟩ := cell _ c (h3 j c hj)
                    rw [hv]; exact ov)
                  (fun i x hx j c hj => by
                    obtain ⟨_, _, h3⟩ := elem i x hx
                    obtain ⟨v, hv, rv, _⟩ := cell _ c (h3 j c hj)
                    rw [hv]; exact rv)
                rwa [hl2] at this
              · simp only [AV.pure]
                refine pureL_of fun x hx => ?_
                obtain ⟨i, hi⟩ := List.getElem?_of_mem hx
                obtain ⟨_, _, h3⟩ := elem i x hi
                have all : ∀ c ∈ x.cells, c.pure = true := by
                  intro c hc
                  obtain ⟨j, hj⟩ := List.getElem?_of_mem hc
                  obtain ⟨_, _, _, hp, _⟩ := cell _ c (h3 j c hj)
                  exact hp
                cases x with
                | agg ds => simp only [AV.pure]; exact pureL_of all
                | _ => exact all _ (by simp [AV.cells])
          · cases he
        · cases he
      · cases he
    | agg cs =>
      simp only [purify] at he
      split at he
      · rename_i ds is hm
        cases he
        obtain ⟨hl, hg⟩ := mapL_get hm
        cases hr with
        | agg vs _ hsz hrr =>
          have each : ∀ (j : Nat) (y : AV), ds[j]? = some y → ∃ v, vs[j]? = some v ∧ Rep (C.fr S) v y ∧ y.pure = true := by
            intro j y hy
            have hj : j < ds.length := (List.getElem?_eq_some_iff.1 hy).1
            obtain ⟨is', hp, hsub⟩ := hg j _ y (List.getElem?_eq_getElem (by omega)) hy
            have hv : vs[j]? = some vs[j] := Array.getElem?_eq_getElem (by omega)
            obtain ⟨r1, r2⟩ := purify_sound h S n _ _ _ _ hp (fun i hi => hS i (hsub i hi)) (hrr j _ _ hv (List.getElem?_eq_getElem (by omega)))
            exact ⟨_, hv, r1, r2⟩
          refine ⟨.agg vs ds (by omega) fun j v x hv hx => ?_, ?_⟩
          · obtain ⟨v', hv', r, _⟩ := each j x hx
            rw [hv] at hv'; cases hv'; exact r
          · simp only [AV.pure]
            refine pureL_of fun x hx => ?_
            obtain ⟨j, hj⟩ := List.getElem?_of_mem hx
            obtain ⟨_, _, _, hp⟩ := each j x hj
            exact hp
      · cases he
    | tup cs =>
      simp only [purify] at he
      split at he
      · rename_i ds is hm
        cases he
        obtain ⟨hl, hg⟩ := mapL_get hm
        cases hr with
        | tup vs _ hsz hrr =>
          have each : ∀ (j : Nat) (y : AV), ds[j]? = some y → ∃ v, vs[j]? = some v ∧ Rep (C.fr S) v y ∧ y.pure = true := by
            intro j y hy
            have hj : j < ds.length := (List.getElem?_eq_some_iff.1 hy).1
            obtain ⟨is', hp, hsub⟩ := hg j _ y (List.getElem?_eq_getElem (by omega)) hy
            have hv : vs[j]? = some vs[j] := Array.getElem?_eq_getElem (by omega)
            obtain ⟨r1, r2⟩ := purify_sound h S n _ _ _ _ hp (fun i hi => hS i (hsub i hi)) (hrr j _ _ hv (List.getElem?_eq_getElem (by omega)))
            exact ⟨_, hv, r1, r2⟩
          refine ⟨.tup vs ds (by omega) fun j v x hv hx => ?_, ?_⟩
          · obtain ⟨v', hv', r, _⟩ := each j x hx
            rw [hv] at hv'; cases hv'; exact r
          · simp only [AV.pure]
            refine pureL_of fun x hx => ?_
            obtain ⟨j, hj⟩ := List.getElem?_of_mem hx
            obtain ⟨_, _, _, hp⟩ := each j x hj
            exact hp
      · cases he
    | int k i => exact dflt (.int k i) he hr
    | bool b => exact dflt (.bool b) he hr
    | str s => exact dflt (.str s) he hr
    | lst nl xs => exact dflt (.lst nl xs) he hr
    | ptr id off => exact dflt (.ptr id off) he hr
    | imm cs => exact dflt (.imm cs) he hr
    | nilp => exact dflt (.nilp) he hr
    | fn f a b => exact dflt (.fn f a b) he hr
    | nilf => exact dflt (.nilf) he hr
    | iface t x => exact dflt (.iface t x) he hr
    | nili => exact dflt (.nili) he hr

theorem purifyL_sound {C : Cx} (h : C.Ok) {n : Nat} {l m : List AV} {ids : List Nat} {vs : List Value} (he : mapL (purify n C.H) l = some (m, ids)) (hr : RepL C vs l) : RepL (C.fr ids) vs m ∧ AV.pureL m = true := by
  obtain ⟨hl, hg⟩ := mapL_get he
  have hlen := hr.length
  have each : ∀ (j : Nat) (v : Value) (y : AV), vs[j]? = some v → m[j]? = some y → Rep (C.fr ids) v y ∧ y.pure = true := by
    intro j v y hv hy
    have hj : j < m.length := (List.getElem?_eq_some_iff.1 hy).1
    obtain ⟨is', hp, hsub⟩ := hg j _ y (List.getElem?_eq_getElem (by omega)) hy
    exact purify_sound h ids n _ _ _ _ hp hsub (hr.get j v _ hv (List.getElem?_eq_getElem (by omega)))
  refine ⟨RepL.of_get (by omega) fun j v x hv hx => (each j v x hv hx).1, pureL_of fun x hx => ?_⟩
  obtain ⟨j, hj⟩ := List.getElem?_of_mem hx
  have hj' : j < vs.length := by have := (List.getElem?_eq_some_iff.1 hj).1; omega
  exact (each j vs[j] x (List.getElem?_eq_getElem hj') hj).2
end Vm
