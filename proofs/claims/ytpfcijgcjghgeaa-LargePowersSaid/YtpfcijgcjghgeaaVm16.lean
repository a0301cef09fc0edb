/- The machine over pure values: an operation's effect hangs on its operands and on the rows that it reads, and on nothing else. (Own work of this repo.) -/
import Derived.Test.YtpfcijgcjghgeaaVm15
set_option linter.unusedVariables false
set_option linter.unusedSimpArgs false
namespace Vm
open Go

/-- The slots that an operation looks at. -/
def opTmps (op : Op) : List Nat := op.operands.toList.filterMap fun | .tmp t => some t | _ => none
/-- Two rows of slots agree on a slot. -/
def agree (s s' : List AV) (t : Nat) : Prop := s[t]? = s'[t]?

section
variable {E : Env} {s s' : List AV}

theorem ev_congr {x : Operand} (h : ∀ t, x = .tmp t → agree s s' t) : ev s x = ev s' x := by
  cases x with
  | tmp t => simp only [ev, List.getD_eq_getElem?_getD]; rw [h t rfl]
  | _ => rfl
theorem evs_congr : ∀ {l : List Operand}, (∀ x ∈ l, ∀ t, x = .tmp t → agree s s' t) → evs s l = evs s' l
  | [], _ => rfl
  | x :: l, h => by
    simp only [evs]
    rw [ev_congr (h x (by simp)), evs_congr (l := l) fun y hy => h y (by simp [hy])]
theorem evps_congr : ∀ {l : List (Nat × Operand)}, (∀ x ∈ l.map (·.2), ∀ t, x = .tmp t → agree s s' t) → evps s l = evps s' l
  | [], _ => rfl
  | (i, x) :: l, h => by
    simp only [evps]
    rw [ev_congr (h x (by simp)), evps_congr (l := l) fun y hy => h y (by simp only [List.map_cons, List.mem_cons]; exact .inr hy)]
theorem evo_congr {x : Option Operand} (h : ∀ y, x = some y → ∀ t, y = .tmp t → agree s s' t) : evo s x = evo s' x := by
  cases x with
  | none => rfl
  | some y => simp only [evo]; rw [ev_congr (h y rfl)]

theorem mem_opTmps {op : Op} (h : ∀ t ∈ opTmps op, agree s s' t) : ∀ x ∈ op.operands.toList, ∀ t, x = .tmp t → agree s s' t := by
  intro x hx t ht
  refine h t ?_
  subst ht
  exact List.mem_filterMap.2 ⟨_, hx, rfl⟩

theorem opEff_congr {op : Op} (h : ∀ t ∈ opTmps op, agree s s' t) (H : Heap) (nid : Nat) : opEff E H nid s op = opEff E H nid s' op := by
  have hm := mem_opTmps h
  cases op
  case move x => simp only [opEff]; rw [ev_congr (hm x (by simp [Op.operands]))]
  case assign x => simp only [opEff]; rw [ev_congr (hm x (by simp [Op.operands]))]
  case pick c x y =>
    simp only [opEff]
    rw [ev_congr (hm c (by simp [Op.operands]))]
    split
    · rename_i t _
      rw [ev_congr (x := if t then x else y) (by cases t; · exact hm y (by simp [Op.operands])
                                                 · exact hm x (by simp [Op.operands]))]
    · rfl
  case alloc t => rfl
  case box t x => simp only [opEff]; rw [ev_congr (hm x (by simp [Op.operands]))]
  case build t ps => simp only [opEff]; rw [evps_congr (l := ps.toList) (fun x hx => hm x (by simpa [Op.operands] using hx))]
  case buildSlice t n ps => simp only [opEff]; rw [evps_congr (l := ps.toList) (fun x hx => hm x (by simpa [Op.operands] using hx))]
  case load t x => simp only [opEff]; rw [ev_congr (hm x (by simp [Op.operands]))]
  case store t x y => simp only [opEff]; rw [ev_congr (hm x (by simp [Op.operands])), ev_congr (hm y (by simp [Op.operands]))]
  case nilCheck x => simp only [opEff]; rw [ev_congr (hm x (by simp [Op.operands]))]
  case binOp op t x y t' => simp only [opEff]; rw [ev_congr (hm x (by simp [Op.operands])), ev_congr (hm y (by simp [Op.operands]))]
  case unOp op t x => simp only [opEff]; rw [ev_congr (hm x (by simp [Op.operands]))]
  case convert t u x => simp only [opEff]; rw [ev_congr (hm x (by simp [Op.operands]))]
  case makeInterface t x => simp only [opEff]; rw [ev_congr (hm x (by simp [Op.operands]))]
  case makeFunc f x y =>
    cases f with
    | func g => simp only [opEff]; rw [evs_congr (l := x.toList) (fun z hz => hm z (by simp only [Op.operands, Array.toList_append, List.mem_append]; exact .inl hz)), evs_congr (l := y.toList) (fun z hz => hm z (by simp only [Op.operands, Array.toList_append, List.mem_append]; exact .inr hz))]
    | _ => rfl
  case makeSlice t x y => simp only [opEff]; rw [ev_congr (hm x (by simp [Op.operands])), ev_congr (hm y (by simp [Op.operands]))]
  case slice t x lo hi mx =>
    simp only [opEff]
    rw [ev_congr (hm x (by simp [Op.operands])), evo_congr (x := lo) (fun y hy => hm y (by simp [Op.operands, hy])), evo_congr (x := hi) (fun y hy => hm y (by simp [Op.operands, hy])), evo_congr (x := mx) (fun y hy => hm y (by simp [Op.operands, hy]))]
  case fieldAddr t x f => simp only [opEff]; rw [ev_congr (hm x (by simp [Op.operands]))]
  case field t x f => simp only [opEff]; rw [ev_congr (hm x (by simp [Op.operands]))]
  case indexAddr t x y => simp only [opEff]; rw [ev_congr (hm x (by simp [Op.operands])), ev_congr (hm y (by simp [Op.operands]))]
  case index t x y => simp only [opEff]; rw [ev_congr (hm x (by simp [Op.operands])), ev_congr (hm y (by simp [Op.operands]))]
  case typeAssert x t u ok => simp only [opEff]; rw [ev_congr (hm x (by simp [Op.operands]))]
  case extract x i => simp only [opEff]; rw [ev_congr (hm x (by simp [Op.operands]))]
  case call c =>
    simp only [opEff]
    split
    · rw [evs_congr (l := c.args.toList) (fun z hz => hm z (by simp only [Op.operands, Call.operands, Array.toList_append, List.mem_append]; exact .inr hz))]
    · rfl
  case panic x => simp only [opEff]; rw [ev_congr (hm x (by simp [Op.operands]))]
  all_goals rfl
theorem target_congr {op : Op} (h : ∀ t ∈ opTmps op, agree s s' t) : target s op = target s' op := by
  have hm := mem_opTmps h
  cases op
  case call c =>
    simp only [target]
    split
    · rename_i f hc
      rw [ev_congr (hm f (by simp [Op.operands, Call.operands, hc])), evs_congr (l := c.args.toList) (fun z hz => hm z (by simp only [Op.operands, Call.operands, Array.toList_append, List.mem_append]; exact .inr hz))]
    · rfl
  all_goals rfl
end

section
variable {E : Env} {H H' : Heap} {nid : Nat} {s : List AV}

theorem src_local {x : AV} {cs : List AV} {n : Nat} {rd : List Nat} (h : srcCells H x = some (cs, n, rd)) (hr : ∀ i ∈ rd, H' i = H i) : srcCells H' x = some (cs, n, rd) := by
  cases x <;> simp only [srcCells] at h ⊢ <;> try exact h
  rename_i id off len
  split at h <;> try cases h
  rename_i b hb
  split at h <;> cases h
  rename_i hl
  rw [hr _ (by simp), hb]
  simp [hl]

/-- An effect hangs on the rows that it reads. -/
theorem opEff_local {op : Op} {e : Eff} (h : opEff E H nid s op = some e) (hr : ∀ i ∈ e.rds, H' i = H i) : opEff E H' nid s op = some e := by
  cases op
  case makeFunc f x y => cases f <;> exact h
  all_goals simp only [opEff] at h ⊢
  all_goals try exact h
  case load t x =>
    split at h <;> try cases h
    rename_i y hy
    unfold loadEff at h ⊢
    split at h
    · rename_i id off
      split at h <;> try cases h
      rename_i ti b ht hb
      have hid : H' id = H id := hr id (by split at h <;> (try split at h) <;> cases h <;> simp)
      simp only [ht, hid, hb]
      exact h
    · exact h
    · cases h
  case store t x y =>
    split at h <;> try cases h
    rename_i y v hy hv
    unfold storeEff at h ⊢
    split at h
    · rename_i id off
      split at h <;> try cases h
      rename_i ti b ht hb
      have hid : H' id = H id := hr id (by split at h <;> cases h; simp)
      simp only [ht, hid, hb]
      exact h
    · cases h
  case nilCheck x =>
    split at h
    · rename_i id off hv
      split at h <;> cases h
      rename_i b hb
      rw [hr id (by simp), hb]
    · exact h
    · exact h
    · cases h
  case slice t x lo hi mx =>
    split at h <;> try cases h
    rename_i ti v l hh m ht hv hl hhi hmx
    split at h
    · exact h
    · exact h
    · rename_i el id off len hd
      split at h <;> try cases h
      rename_i blk te p q hb hte hcut
      have hid : H' id = H id := hr id (by (repeat' split at h) <;> cases h <;> simp)
      simp only [hte, hid, hb, hcut]
      exact h
    · cases h
  case fieldAddr t x f =>
    split at h <;> try cases h
    rename_i ti v ht hv
    split at h <;> try cases h
    rename_i fs hd
    split at h <;> try cases h
    rename_i off u hf
    split at h
    · rename_i tu id o2 hu
      split at h <;> try cases h
      rename_i hz
      split at h <;> cases h
      rename_i b hb
      rw [if_neg hz, hr id (by simp), hb]
    · exact h
    · cases h
  case indexAddr t x y =>
    split at h <;> try cases h
    rename_i ti v k n ht hv hi
    split at h
    · rename_i el hd
      split at h
      · exact h
      · rename_i te id off len hte
        split at h <;> try cases h
        rename_i hn
        split at h <;> try cases h
        rename_i b hb
        have hid : H' id = H id := hr id (by split at h <;> cases h; simp)
        simp only [hid, hb, if_pos hn]
        exact h
      · cases h
    · rename_i len el hd
      split at h
      · rename_i te id off hte
        split at h <;> try cases h
        rename_i hn
        split at h <;> cases h
        rename_i b hb
        rw [if_pos hn, hr id (by simp), hb]
      · exact h
      · cases h
    · cases h
  case call c =>
    split at h <;> try cases h
    rename_i b hc
    split at h <;> try cases h
    rename_i l hl
    generalize c.argTypes.toList = ts at h ⊢
    unfold builtinEff at h ⊢
    split at h
    · rename_i t x
      split at h <;> try cases h
      split at h
      · exact h
      · rename_i el id off n hd
        split at h <;> cases h
        rename_i b hb
        rw [hr id (by simp), hb]
      · exact h
      · exact h
      · cases h
    · rename_i t u s x
      have facts : srcCells H' x = srcCells H x ∧ ∀ id off len, s = .ref id off len → H' id = H id := by
        unfold appendEff at h
        split at h <;> try cases h
        rename_i ti tj ht htj
        split at h <;> try cases h
        rename_i el hd hnint
        split at h <;> try cases h
        rename_i te cs n rd hte hsrc
        split at h <;> try cases h
        rename_i hcond
        have hsub : ∀ i ∈ rd, i ∈ e.rds := by
          intro i hi
          (repeat' split at h) <;> cases h <;> simp [hi]
        refine ⟨by rw [src_local hsrc (fun i hi => hr i (hsub i hi)), hsrc], ?_⟩
        intro id off len hs
        subst hs
        dsimp only at h
        refine hr id ?_
        (repeat' split at h) <;> cases h <;> simp
      rw [← h]
      unfold appendEff
      rw [facts.1]
      cases s
      case ref id off len => simp only [facts.2 id off len rfl]
      case lst nl xs => cases nl <;> rfl
      all_goals rfl
    · rename_i t ts d x
      unfold copyEff at h ⊢
      split at h <;> try cases h
      split at h <;> try cases h
      split at h <;> try cases h
      rename_i te cs n rd id off len hte hsrc
      split at h <;> try cases h
      rename_i b hb
      split at h <;> cases h
      rename_i hcb
      have hsrc' := src_local hsrc (fun i hi => hr i (by simp [hi]))
      simp only [hte, hsrc', hr id (by simp), hb, if_pos hcb]
    · exact h
    · exact h
    · cases h

theorem purify_local : ∀ (n : Nat) (v v' : AV) (ids : List Nat), purify n H v = some (v', ids) → (∀ i ∈ ids, H' i = H i) → purify n H' v = some (v', ids)
  | 0, v, v', ids, h, _ => by simp [purify] at h
  | n + 1, v, v', ids, h, hr => by
    have ml : ∀ (l m : List AV) (is : List Nat), mapL (purify n H) l = some (m, is) → (∀ i ∈ is, H' i = H i) → mapL (purify n H') l = some (m, is) := by
      intro l
      induction l with
      | nil => intro m is h _; exact h
      | cons x xs ih =>
        intro m is h hr
        simp only [mapL] at h ⊢
        split at h <;> cases h
        rename_i y i ys j hy hys
        rw [purify_local n x y i hy fun k hk => hr k (by simp [hk]), ih _ _ hys fun k hk => hr k (by simp [hk])]
    cases v
    case ref id off len =>
      simp only [purify] at h ⊢
      split at h <;> try cases h
      rename_i b hb
      split at h <;> try cases h
      rename_i hc
      split at h <;> cases h
      rename_i cs is hm
      simp only [hr id (by simp), hb, if_pos hc]
      rw [ml _ _ _ hm fun i hi => hr i (by simp [hi])]
    case agg cs =>
      simp only [purify] at h ⊢
      split at h <;> cases h
      rename_i ds is hm
      rw [ml _ _ _ hm hr]
    case tup cs =>
      simp only [purify] at h ⊢
      split at h <;> cases h
      rename_i ds is hm
      rw [ml _ _ _ hm hr]
    all_goals exact h
theorem mapL_local {n : Nat} : ∀ (l m : List AV) (is : List Nat), mapL (purify n H) l = some (m, is) → (∀ i ∈ is, H' i = H i) → mapL (purify n H') l = some (m, is)
  | [], m, is, h, _ => h
  | x :: xs, m, is, h, hr => by
    simp only [mapL] at h ⊢
    split at h <;> cases h
    rename_i y i ys j hy hys
    rw [purify_local n x y i hy fun k hk => hr k (by simp [hk]), mapL_local _ _ _ hys fun k hk => hr k (by simp [hk])]
theorem freezes_local : ∀ (ids : List Nat), (∀ i ∈ ids, H' i = H i) → freezes H' ids = freezes H ids
  | [], _ => rfl
  | i :: is, h => by simp only [freezes]; rw [h i (by simp), freezes_local is fun j hj => h j (by simp [hj])]
theorem anyEff_local {dp : FuncId → List AV → Option Res} {op : Op} {e : Eff} (h : anyEff E dp H nid s op = some e) (hr : ∀ i ∈ e.rds, H' i = H i) : anyEff E dp H' nid s op = some e := by
  unfold anyEff at h ⊢
  split at h
  · rename_i g l ht
    unfold pcallEff at h ⊢
    split at h <;> try cases h
    rename_i l' ids hl
    have hids : ∀ i ∈ ids, H' i = H i := fun i hi => hr i (by split at h <;> cases h <;> exact hi)
    simp only [mapL_local _ _ _ hl hids, freezes_local _ hids]
    exact h
  · exact opEff_local h hr
theorem anyEff_congr {dp : FuncId → List AV → Option Res} {op : Op} {s' : List AV} (h : ∀ t ∈ opTmps op, agree s s' t) : anyEff E dp H nid s op = anyEff E dp H nid s' op := by
  unfold anyEff
  rw [target_congr h, opEff_congr h]
end
end Vm
