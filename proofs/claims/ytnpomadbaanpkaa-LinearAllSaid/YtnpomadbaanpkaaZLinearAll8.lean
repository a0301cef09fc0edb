/- Part 8 of a proof about this seat: Slv, Lat1, Lwk, Lsz, Slo, Exs, Ex5, Ex6, Exp5, Exo, Sum. (Own work of this repo.) -/
import Derived.Test.YtnpomadbaanpkaaZLinearAll7
set_option linter.unusedVariables false
set_option linter.unusedSimpArgs false
/- Walks: a system solved. (Own work of this repo.) -/
namespace Go.Proofs.Ytnpomadbaanpkaa
open Vm
set_option maxRecDepth 10000

/-- What is left of row r behind k columns. -/
def rst (cf : Nat → Nat → Bool × Int) (b t : Nat → Int) (r : Nat) : Nat → Int
  | 0 => b r
  | k + 1 => rst cf b t r k - (cf k r).2 * t k
/-- The list t, as a value. -/
def TV (h : Heap) (N nx : Nat) (v : AV) (p : Nat) (t : Nat → Int) : Prop :=
  (p = 0 ∧ v = .lst true []) ∨ (0 < p ∧ ∃ (T : Nat) (fl : Nat → Bool), v = .ref T 0 p ∧ N ≤ T ∧ T < nx ∧ h T = some ⟨fr (rl p fun k => (fl k, t k)), true, 2, false⟩)
theorem rl_succ (n : Nat) (f : Nat → Bool × Int) : rl (n + 1) f = rl n f ++ [rz (f n)] := by
  unfold rl; rw [List.range_succ, List.map_append]; rfl
theorem rl_congr {n : Nat} {f g : Nat → Bool × Int} (h : ∀ i, i < n → f i = g i) : rl n f = rl n g :=
  List.map_congr_left fun i hi => by rw [h i (List.mem_range.1 hi)]
abbrev fits (z : Int) : Prop := (dg z).length ≤ 4096
/-- So many pivots lie before row r. -/
def Cnt (ps : List Nat) (r p : Nat) : Prop := p ≤ ps.length ∧ (∀ k, k < p → ps.getD k 0 < r) ∧ ∀ k, p ≤ k → k < ps.length → r ≤ ps.getD k 0
/-- What solving forward needs: t are the multiples, rows before R can be met. -/
structure Fwd (m n : Nat) (ps : List Nat) (cf : Nat → Nat → Bool × Int) (b t : Nat → Int) (R : Nat) : Prop where
  pl : ps.length ≤ n
  srt : ∀ i j, i < j → j < ps.length → ps.getD i 0 < ps.getD j 0
  top : ∀ k, k < ps.length → ps.getD k 0 < m
  piv : ∀ k, k < ps.length → (cf k (ps.getD k 0)).2 ≠ 0
  Rm : R ≤ m
  fc : ∀ k r, k < ps.length → r < m → fits (cf k r).2
  fr : ∀ r p, r < m → r ≤ R → Cnt ps r p → ∀ k, k ≤ p → fits (rst cf b t r k)
  fp : ∀ r p, r < m → r ≤ R → Cnt ps r p → ∀ k, k < p → fits ((cf k r).2 * t k) ∧ fits (t k)
  ok1 : ∀ r p, r < R → Cnt ps r p → p < ps.length → ps.getD p 0 = r → rst cf b t r p = (cf p r).2 * t p
  ok2 : ∀ r p, r < R → Cnt ps r p → (p < ps.length → ps.getD p 0 ≠ r) → rst cf b t r p = 0
  no1 : ∀ p, R < m → Cnt ps R p → p < ps.length → ps.getD p 0 = R → rst cf b t R p % (cf p R).2 ≠ 0
  no2 : ∀ p, R < m → Cnt ps R p → (p < ps.length → ps.getD p 0 ≠ R) → rst cf b t R p ≠ 0
theorem openK_val {Q : Ex → St → Prop} {σ : St} {all os : List Go.Oper} {dst : Option Nat} {x : Option (Res × Heap × Nat)} (P : AV → Heap → Nat → Prop) (hx : ∃ v H' N', x = some (.ret v, H', N') ∧ P v H' N') (k : ∀ v H' N', P v H' N' → Rg E all os ⟨put σ.sl dst v, H', N'⟩ Q) : openK E all os dst Q σ x := by
  obtain ⟨v, H', N', rfl, h1⟩ := hx
  exact k v H' N' h1
theorem cutK {Q : Ex → St → Prop} {G : Prop} (K : Ex → St → Prop) (hm : (∀ ex τ, Q ex τ → K ex τ) → G) (hr : ∀ ex τ, Q ex τ → K ex τ) : G := hm hr
abbrev h00 : Heap := Heap.empty.upd 0 (some ⟨[.bool false, .lst true [], .lst true [], .lst true [], .bool false, .lst true []], true, 6, false⟩)
/-- The sums X. -/
def xs (uf : Nat → Nat → Bool × Int) (t : Nat → Int) : Nat → Nat → Bool × Int
  | 0, _ => (true, 0)
  | k + 1, j => (false, (xs uf t k j).2 + t k * (uf k j).2)
/-- A copied list. -/
def cpf (f : Nat → Bool × Int) : Nat → Bool × Int := fun i => (decide ((f i).2 = 0), (f i).2)
/-- The basis, as a list of lists. -/
def basM (n p : Nat) (uf : Nat → Nat → Bool × Int) : Mat := (List.range (n - p)).map fun k => (false, rl n (cpf (uf (p + k))))
def XFit (n p : Nat) (uf : Nat → Nat → Bool × Int) (t : Nat → Int) : Prop := (∀ k j, k < p → j < n → fits (xs uf t k j).2 ∧ fits (xs uf t (k + 1) j).2 ∧ fits (uf k j).2 ∧ fits (t k * (uf k j).2) ∧ fits (t k)) ∧ ∀ k j, k < n → j < n → fits (uf k j).2
/-- Rows that are frozen change nothing of the work. -/
theorem WS.frz {h h' : Heap} {lo nx nx' W C U p : Nat} {pv : AV} {m n : Nat} {cv uv : Nat → AV} {cf uf : Nat → Nat → Bool × Int} (hS : WS h lo nx W C U p pv m n cv uv cf uf) (hn : nx ≤ nx') (id : Nat) (hid : id ∉ [W, C, U, p]) (hh : ∀ i, i < nx → i ≠ id → h' i = h i)
    (hf : ∀ cs a e fz, h id = some ⟨cs, a, e, fz⟩ → h' id = some ⟨cs, a, e, true⟩) : WS h' lo nx' W C U p pv m n cv uv cf uf := by
  obtain ⟨l1, l2, l3, l4, l5, l6, l7, l8, l9⟩ := hS.lt
  have hid' := hid
  simp only [List.mem_cons, List.not_mem_nil, or_false, not_or] at hid'
  obtain ⟨i1, i2, i3, i4⟩ := hid'
  have conv : ∀ (v : AV) (m : Nat) (f : Nat → Bool × Int), ColV h lo nx [W, C, U, p] v m f → ColV h' lo nx' [W, C, U, p] v m f := fun v m f hv => by
    rcases hv with hv | ⟨id', fz, hv, k1, k2, k3, k4⟩
    · exact .inl hv
    · by_cases e : id' = id
      · subst e
        exact .inr ⟨id', true, hv, k1, by omega, k3, hf _ _ _ _ k4⟩
      · exact .inr ⟨id', fz, hv, k1, by omega, k3, (hh id' k2 e).trans k4⟩
  exact ⟨(hh W l4 fun e => i1 e.symm).trans hS.w, (hh C l5 fun e => i2 e.symm).trans hS.c, (hh U l6 fun e => i3 e.symm).trans hS.u, by omega, fun k hk => conv _ _ _ (hS.cc k hk), fun k hk => conv _ _ _ (hS.uu k hk), hS.fc, hS.fu⟩
theorem cpf_rl (n : Nat) (f : Nat → Bool × Int) : (rl n f).map cpq = rl n (cpf f) := by
  unfold rl
  rw [List.map_map]
  refine List.map_congr_left fun i _ => ?_
  show cpq (rz (f i)) = rz (cpf f i)
  unfold cpq cpf
  simp only [rz, dg_len0]
/-- The row of a lattice that is solvable. -/
abbrev lrow (x b : AV) : Blk := ⟨[.bool true, x, b, .lst true [], .bool false, .lst true []], true, 6, false⟩
/-- The sums, in the heap. -/
def XVal (h : Heap) (n O : Nat) (uf : Nat → Nat → Bool × Int) (t : Nat → Int) (k : Nat) (v : AV) : Prop :=
  v = lraw false (rl n (xs uf t k)) ∨ (k = 0 ∧ v = .ref O 0 n ∧ ∃ fz, h O = some ⟨fr (rl n (xs uf t k)), true, 2, fz⟩)
/-- The basis, in the heap. -/
def basP (n p : Nat) (uf : Nat → Nat → Bool × Int) (j : Nat) : Mat := (List.range j).map fun k => (false, rl n (cpf (uf (p + k))))
def BVal (h : Heap) (n p lo nx : Nat) (uf : Nat → Nat → Bool × Int) (j : Nat) (v : AV) : Prop :=
  (j = 0 ∧ v = .lst true []) ∨ (0 < j ∧ ∃ id, v = .ref id 0 j ∧ lo < id ∧ id < nx ∧ h id = some ⟨(basP n p uf j).map lr, false, 1, false⟩)
theorem each_sum (n : Nat) (hn : n ≤ 100) (uf : Nat → Nat → Bool × Int) (t : Nat → Int) (fl : Bool) (k : Nat) (hf : ∀ j, j < n → fits (xs uf t k j).2 ∧ fits (xs uf t (k + 1) j).2 ∧ fits (uf k j).2 ∧ fits (t k * (uf k j).2) ∧ fits (t k)) :
    denP E 63 [lraw false (rl n (xs uf t k)), lraw false (rl n (uf k)), .fn 64 [] [.imm [.bool (ng (t k)), .lst fl ((dg (t k)).map wd)]]] = some (.ret (lraw false (rl n (xs uf t (k + 1))))) := by
  have h := each_imm 64 rfl (ng (t k)) fl (dg (t k)) false (rl n (xs uf t k)) false (rl n (uf k)) (fun i => (xs uf t k i).2 + t k * (uf k i).2) (by rw [rl_len, rl_len]; exact Nat.le_refl _) (by rw [rl_len]; exact hn) (fun i hi => by
    rw [rl_len] at hi
    rw [rl_get hi, rl_get hi]
    obtain ⟨h1, h2, h3, h4, h5⟩ := hf i hi
    exact solve1_spec (xs uf t k i).1 (uf k i).1 fl (xs uf t k i).2 (uf k i).2 (t k) h1 h3 h5 h4 h2)
  rw [rl_len] at h
  exact h
abbrev lat (so : Bool) (x b y : AV) (mn mf : Bool) (mw : List AV) : AV := .agg [.bool so, x, b, y, .bool mn, .lst mf mw]
/-- What the reason's walk has to give. -/
def ReasonOk (m n : Nat) (ps : List Nat) (cf uf : Nat → Nat → Bool × Int) (R p : Nat) (Q : AV → Prop) : Prop :=
  ∀ (h : Heap) (nx W C U pp : Nat) (pv : AV) (cv uv : Nat → AV), WS h 1 nx W C U pp pv m n cv uv cf uf → PV h 1 nx W C U pv ps pp →
    ∃ (Y : Nat) (L : List Raw) (fz mn mf : Bool) (mw : List AV) (H : Heap) (N : Nat), denO E 62 [.ptr W 0, .int .i64 (m : Int), .int .i64 (p : Int), .int .i64 (R : Int)] h nx = some (.ret (lat false (.lst true []) (.lst true []) (.ref Y 0 m) mn mf mw), H, N) ∧ H 0 = h 0 ∧ 0 < Y ∧ H Y = some ⟨fr L, true, 2, fz⟩ ∧ L.length = m ∧ AV.pureL mw = true ∧ Q (lat false (.lst true []) (.lst true []) (lraw false L) mn mf mw)
set_option maxHeartbeats 8000000 in
theorem solve_gen (na : Bool) (A : Mat) (n : Nat) (hA : MatV A n) (hnil : ∀ i, i < A.length → ∀ k, k < n → (cf0 A k i).1 = true → (cf0 A k i).2 = 0) (h1 : 1 ≤ A.length) (hAm : A.length ≤ 100) (hn1 : 1 ≤ n) (hn : n ≤ 100)
    (nb : Bool) (B : List Raw) (hB : AllV B) (hBl : B.length = A.length) (hnb : ∀ i, i < A.length → (B.getD i default).2.1 = true → zg B i = 0)
    (J : Nat → List Nat → (Nat → Nat → Bool × Int) → (Nat → Nat → Bool × Int) → Prop) (hJ0 : J 0 [] (cf0 A) uf0) (hR : RowHyp A.length n J) (Q : AV → Prop)
    (hF : ∀ ps cf uf, J A.length ps cf uf → ∃ t R, Fwd A.length n ps cf (zg B) t R ∧ (∀ p, R < A.length → Cnt ps R p → ReasonOk A.length n ps cf uf R p Q) ∧
      (R = A.length → XFit n ps.length uf t ∧ Q (lat true (lraw false (rl n (xs uf t ps.length))) (if n = ps.length then .lst true [] else mraw false (basM n ps.length uf)) (.lst true []) false true []))) :
    ∃ v, denP E 30 [mraw na A, lraw nb B] = some (.ret v) ∧ Q v := by
  refine denP_ex (F := fun v : AV => v) E30 rfl (by simp [AV.pureL, AV.pure, pure_ivr, pure_lr]) ?_
  obtain ⟨_, H2, N2, d1, d2, d3, W, C, U, pp, pv, ps, cv, uv, cf, uf, rfl, hS, hP, hJ⟩ := reduced_open na A n hA hnil h1 hAm hn1 hn h00 1 J hJ0 hR
  have e0 : H2 0 = some ⟨[.bool false, .lst true [], .lst true [], .lst true [], .bool false, .lst true []], true, 6, false⟩ := (d2 0 (by omega)).trans (if_pos rfl)
  obtain ⟨t, R, hf, hrea, hend⟩ := hF ps cf uf hJ
  clear hF hJ hJ0 hR
  obtain ⟨l1, l2, l3, l4, l5, l6, l7, l8, l9⟩ := hS.lt
  have hw := hS.w
  have hc := hS.c
  have hu := hS.u
  simp (maxSteps := 4000000) only [go_sem, seval, ↓reduceIte, reduceCtorEq, Try.f30, places, fillAll, d1, openK_ret, hw, hc]
  clear d1 d2
  have hlc : ((List.range n).map cv).length = n := by simp
  refine W_loopS (fun rr sl h nx => ∃ (r p : Nat) (tv : AV), (∃ g : Nat → AV, sl = [mraw na A, lraw nb B, g 2, g 3, .ptr 0 0, .ptr W 0, .int .i64 (n : Int), tv, g 8, g 9, g 10, g 11, g 12, g 13, g 14, g 15, g 16, g 17, g 18, g 19, g 20, g 21, g 22, g 23, g 24, g 25, g 26, g 27, g 28, .int .i64 (A.length : Int), .int .i64 (r : Int), g 31, g 32, g 33, g 34, g 35, g 36, g 37, g 38, g 39, g 40, g 41, g 42, g 43, g 44, g 45, g 46, g 47, g 48, g 49, g 50, g 51, g 52, g 53, g 54, g 55, g 56, g 57, g 58, g 59, g 60, g 61, g 62, g 63, g 64, g 65, g 66, g 67, g 68, g 69, g 70, g 71, g 72, g 73, g 74, g 75, g 76, g 77, g 78, g 79, g 80, g 81, g 82, g 83, g 84, g 85, g 86, g 87, g 88, g 89, g 90, g 91, g 92, g 93, g 94, g 95, g 96, g 97, g 98, g 99, g 100, g 101, g 102, g 103, g 104, g 105, g 106, g 107, g 108, g 109, g 110, g 111, g 112, g 113, g 114, g 115, g 116, g 117, g 118, g 119, g 120, g 121, g 122, g 123, g 124, g 125, g 126, g 127, g 128, g 129, g 130, g 131, g 132, g 133, g 134, g 135, g 136, g 137, g 138, g 139, g 140, g 141, g 142, g 143, g 144, g 145, g 146, g 147, g 148, g 149, g 150, g 151, g 152, g 153, g 154, g 155, g 156, g 157, g 158, g 159, g 160, g 161, g 162, g 163, g 164, g 165]) ∧ r + rr = A.length ∧ r ≤ R ∧ Cnt ps r p ∧ TV h N2 nx tv p t ∧ N2 ≤ nx ∧ (∀ i, i < N2 → h i = H2 i)) A.length ⟨0, 0, .lst true [], garb rfl, by omega, Nat.zero_le _, ⟨Nat.zero_le _, fun k hk => absurd hk (Nat.not_lt_zero k), fun k _ _ => Nat.zero_le _⟩, .inl ⟨rfl, rfl⟩, Nat.le_refl _, fun i hi => rfl⟩ ?_
  rintro rr _ h nx ⟨r, p, tv, ⟨g, rfl⟩, hrr, hrR, hcnt, hT, hnx, hfr⟩
  have hw2 := (hfr W l4).trans hw
  have hc2 := (hfr C l5).trans hc
  have hu2 := (hfr U l6).trans hu
  have e02 := (hfr 0 (by omega)).trans e0
  by_cases hrm : r = A.length
  · have z1 : ((r : Int) < (A.length : Int)) = False := eq_false (by omega)
    have hpl : p = ps.length := by
      have h1 := hcnt.1
      rcases Nat.lt_or_ge p ps.length with h2 | h2
      · have h3 := hcnt.2.2 p (Nat.le_refl _) h2
        have h4 := hf.top p h2
        omega
      · omega
    obtain ⟨⟨hx, hx2⟩, hQ⟩ := hend (by have := hf.Rm; omega)
    have hpn : p ≤ n := by rw [hpl]; exact hf.pl
    rw [← hpl] at hx hQ
    have hS2 : WS h 1 N2 W C U pp pv A.length n cv uv cf uf := hS.mono (Nat.le_refl _) fun i hi => hfr i hi
    have hP2 : PV h 1 N2 W C U pv ps pp := hP.mono (Nat.le_refl _) fun q1 _ _ _ => hfr pp q1
    have zn0 : ((0 : Int) ≤ (n : Int)) = True := eq_true (by omega)
    have zn1 : ((n : Int) * 32 ≤ 281474976710656) = True := eq_true (by omega)
    have zn2 : ((n : Int) ≤ 9223372036854775807) = True := eq_true (by omega)
    clear hS hP hw hc hu e0 hfr hend hrea hf hcnt hA hB hnil hnb
    obtain ⟨QX, hQX⟩ : ∃ QX : Ex → St → Prop, QX = fun ex τ => ex = .exit 4 ∧ (∃ g : Nat → AV, τ.sl = [g 0, g 1, g 2, g 3, .ptr 0 0, .ptr W 0, g 6, g 7, g 8, g 9, g 10, g 11, g 12, g 13, g 14, .ptr (nx + 1) 0, g 16, g 17, g 18, g 19, g 20, g 21, g 22, g 23, g 24, g 25, g 26, g 27, g 28, g 29, g 30, g 31, g 32, g 33, g 34, g 35, g 36, g 37, g 38, g 39, g 40, g 41, g 42, g 43, g 44, g 45, g 46, g 47, g 48, g 49, g 50, g 51, g 52, g 53, g 54, g 55, g 56, g 57, g 58, g 59, g 60, g 61, g 62, g 63, g 64, g 65, g 66, g 67, g 68, g 69, g 70, g 71, g 72, g 73, g 74, g 75, g 76, g 77, g 78, g 79, g 80, g 81, g 82, g 83, g 84, g 85, g 86, g 87, g 88, g 89, g 90, g 91, g 92, g 93, g 94, g 95, g 96, g 97, g 98, g 99, g 100, g 101, g 102, g 103, g 104, g 105, g 106, g 107, g 108, g 109, g 110, g 111, g 112, g 113, g 114, g 115, g 116, g 117, g 118, g 119, g 120, g 121, g 122, g 123, g 124, g 125, g 126, g 127, g 128, g 129, g 130, g 131, g 132, g 133, g 134, g 135, g 136, g 137, g 138, g 139, g 140, g 141, g 142, g 143, g 144, g 145, g 146, g 147, g 148, g 149, g 150, g 151, g 152, g 153, g 154, g 155, g 156, g 157, g 158, g 159, g 160, g 161, g 162, g 163, g 164, g 165]) ∧ nx + 2 ≤ τ.nx ∧ (∃ Xv, τ.h (nx + 1) = some (lrow Xv (.lst true [])) ∧ XVal τ.h n nx uf t p Xv) ∧ WS τ.h 1 N2 W C U pp pv A.length n cv uv cf uf ∧ PV τ.h 1 N2 W C U pv ps pp ∧ τ.h 0 = some ⟨[.bool false, .lst true [], .lst true [], .lst true [], .bool false, .lst true []], true, 6, false⟩ := ⟨_, rfl⟩
    have hzero : XVal (((h.upd nx (some ⟨reps n [.bool false, .lst true []], true, 2, false⟩)).upd (nx + 1) (some ⟨[.bool false, .lst true [], .lst true [], .lst true [], .bool false, .lst true []], true, 6, false⟩)).upd (nx + 1) (some (lrow (.ref nx 0 n) (.lst true [])))) n nx uf t 0 (.ref nx 0 n) := .inr ⟨rfl, rfl, false, by
      rw [upd_ne (by omega), upd_ne (by omega)]
      rw [show (Heap.upd h nx (some ⟨reps n [.bool false, .lst true []], true, 2, false⟩)) nx = some ⟨reps n [.bool false, .lst true []], true, 2, false⟩ from if_pos rfl, reps_fr]
      rfl⟩
    have hold : ∀ i, i < nx → (((h.upd nx (some ⟨reps n [.bool false, .lst true []], true, 2, false⟩)).upd (nx + 1) (some ⟨[.bool false, .lst true [], .lst true [], .lst true [], .bool false, .lst true []], true, 6, false⟩)).upd (nx + 1) (some (lrow (.ref nx 0 n) (.lst true [])))) i = h i := fun i hi => by
      rw [upd_ne (by omega), upd_ne (by omega), upd_ne (by omega)]
    have hrow0 : (((h.upd nx (some ⟨reps n [.bool false, .lst true []], true, 2, false⟩)).upd (nx + 1) (some ⟨[.bool false, .lst true [], .lst true [], .lst true [], .bool false, .lst true []], true, 6, false⟩)).upd (nx + 1) (some (lrow (.ref nx 0 n) (.lst true [])))) (nx + 1) = some (lrow (.ref nx 0 n) (.lst true [])) := if_pos rfl
    apply cutK (Q := QX)
    · intro hrest
      rcases hT with ⟨hp0, rfl⟩ | ⟨hp0, T, fl, rfl, hT1, hT2, hT3⟩
      · simp (maxSteps := 4000000) only [go_sem, seval, ↓reduceIte, reduceCtorEq, z1, zn0, zn1, zn2, Int.le_refl, Int.toNat_natCast, reps, places, fillAll]
        refine W_mono (Q := QX) ?_ hrest
        generalize hH3 : (((h.upd nx (some ⟨reps n [.bool false, .lst true []], true, 2, false⟩)).upd (nx + 1) (some ⟨[.bool false, .lst true [], .lst true [], .lst true [], .bool false, .lst true []], true, 6, false⟩)).upd (nx + 1) (some (lrow (.ref nx 0 n) (.lst true [])))) = h3 at *
        refine W_loopS (fun kk sl h' nx' => (∃ g : Nat → AV, sl = [g 0, g 1, g 2, g 3, .ptr 0 0, .ptr W 0, g 6, g 7, g 8, g 9, g 10, g 11, g 12, g 13, g 14, .ptr (nx + 1) 0, g 16, g 17, g 18, g 19, g 20, g 21, g 22, g 23, g 24, g 25, g 26, g 27, g 28, g 29, g 30, g 31, g 32, g 33, g 34, g 35, g 36, g 37, g 38, g 39, g 40, g 41, g 42, g 43, g 44, g 45, g 46, g 47, g 48, g 49, g 50, g 51, g 52, g 53, g 54, g 55, g 56, g 57, g 58, g 59, g 60, g 61, g 62, g 63, g 64, g 65, g 66, g 67, g 68, g 69, g 70, g 71, g 72, g 73, g 74, g 75, g 76, g 77, g 78, g 79, g 80, g 81, g 82, g 83, g 84, g 85, g 86, g 87, g 88, g 89, g 90, g 91, g 92, g 93, g 94, g 95, g 96, g 97, g 98, g 99, g 100, g 101, g 102, g 103, g 104, g 105, g 106, g 107, g 108, g 109, g 110, g 111, g 112, g 113, g 114, g 115, g 116, g 117, g 118, g 119, g 120, g 121, .lst true [], .int .i64 0, .int .i64 0, g 125, g 126, g 127, g 128, g 129, g 130, g 131, g 132, g 133, g 134, g 135, g 136, g 137, g 138, g 139, g 140, g 141, g 142, g 143, g 144, g 145, g 146, g 147, g 148, g 149, g 150, g 151, g 152, g 153, g 154, g 155, g 156, g 157, g 158, g 159, g 160, g 161, g 162, g 163, g 164, g 165]) ∧ nx + 1 + 1 ≤ nx' ∧ h' = h3) 0 ⟨garb rfl, Nat.le_refl _, rfl⟩ ?_
        rintro kk _ h' nx' ⟨⟨g2, rfl⟩, hnx', rfl⟩
        simp (maxSteps := 4000000) only [go_sem, seval, ↓reduceIte, reduceCtorEq]
        rw [hQX]
        refine ⟨rfl, ?_, hnx', ⟨_, hrow0, by rw [hp0]; exact hzero⟩, hS2.mono (Nat.le_refl _) fun i hi => hold i (by omega), hP2.mono (Nat.le_refl _) fun q1 _ _ _ => hold pp (by omega), (hold 0 (by omega)).trans e02⟩
        refine garb ?_
        rfl
      · have t1 : (T = nx) = False := eq_false (by omega)
        have t2 : (T = nx + 1) = False := eq_false (by omega)
        simp (maxSteps := 4000000) only [go_sem, seval, ↓reduceIte, reduceCtorEq, z1, zn0, zn1, zn2, hT3, t1, t2, Int.le_refl, Int.toNat_natCast, reps, places, fillAll]
        refine W_mono (Q := QX) ?_ hrest
        generalize hH3 : (((h.upd nx (some ⟨reps n [.bool false, .lst true []], true, 2, false⟩)).upd (nx + 1) (some ⟨[.bool false, .lst true [], .lst true [], .lst true [], .bool false, .lst true []], true, 6, false⟩)).upd (nx + 1) (some (lrow (.ref nx 0 n) (.lst true [])))) = h3 at *
        have hS3 : WS h3 1 N2 W C U pp pv A.length n cv uv cf uf := hS2.mono (Nat.le_refl _) fun i hi => hold i (by omega)
        have hP3 : PV h3 1 N2 W C U pv ps pp := hP2.mono (Nat.le_refl _) fun q1 _ _ _ => hold pp (by omega)
        have e03 := (hold 0 (by omega)).trans e02
        have hT4 := (hold T hT2).trans hT3
        clear hrest hS2 hP2 e02 hT3 hold hH3 hw2 hc2 hu2
        refine W_loopS (fun kk sl h' nx' => ∃ (k : Nat) (Xv : AV), (∃ g : Nat → AV, sl = [g 0, g 1, g 2, g 3, .ptr 0 0, .ptr W 0, g 6, g 7, g 8, g 9, g 10, g 11, g 12, g 13, g 14, .ptr (nx + 1) 0, g 16, g 17, g 18, g 19, g 20, g 21, g 22, g 23, g 24, g 25, g 26, g 27, g 28, g 29, g 30, g 31, g 32, g 33, g 34, g 35, g 36, g 37, g 38, g 39, g 40, g 41, g 42, g 43, g 44, g 45, g 46, g 47, g 48, g 49, g 50, g 51, g 52, g 53, g 54, g 55, g 56, g 57, g 58, g 59, g 60, g 61, g 62, g 63, g 64, g 65, g 66, g 67, g 68, g 69, g 70, g 71, g 72, g 73, g 74, g 75, g 76, g 77, g 78, g 79, g 80, g 81, g 82, g 83, g 84, g 85, g 86, g 87, g 88, g 89, g 90, g 91, g 92, g 93, g 94, g 95, g 96, g 97, g 98, g 99, g 100, g 101, g 102, g 103, g 104, g 105, g 106, g 107, g 108, g 109, g 110, g 111, g 112, g 113, g 114, g 115, g 116, g 117, g 118, g 119, g 120, g 121, .ref T 0 p, .int .i64 (p : Int), .int .i64 (k : Int), g 125, g 126, g 127, g 128, g 129, g 130, g 131, g 132, g 133, g 134, g 135, g 136, g 137, g 138, g 139, g 140, g 141, g 142, g 143, g 144, g 145, g 146, g 147, g 148, g 149, g 150, g 151, g 152, g 153, g 154, g 155, g 156, g 157, g 158, g 159, g 160, g 161, g 162, g 163, g 164, g 165]) ∧ k + kk = p ∧ nx + 1 + 1 ≤ nx' ∧ h' (nx + 1) = some (lrow Xv (.lst true [])) ∧ XVal h' n nx uf t k Xv ∧ WS h' 1 N2 W C U pp pv A.length n cv uv cf uf ∧ PV h' 1 N2 W C U pv ps pp ∧ h' 0 = some ⟨[.bool false, .lst true [], .lst true [], .lst true [], .bool false, .lst true []], true, 6, false⟩ ∧ h' T = some ⟨fr (rl p fun k => (fl k, t k)), true, 2, false⟩) p ⟨0, .ref nx 0 n, garb rfl, by omega, Nat.le_refl _, hrow0, hzero, hS3, hP3, e03, hT4⟩ ?_
        clear hS3 hP3 e03 hT4 hrow0 hzero
        rintro kk _ h' nx' ⟨k, Xv, ⟨g2, rfl⟩, hkk, hnx', hrow, hX, hS, hP, h0', hT4⟩
        by_cases hkp : k = p
        · have q1 : ((k : Int) < (p : Int)) = False := eq_false (by omega)
          simp (maxSteps := 4000000) only [go_sem, seval, ↓reduceIte, reduceCtorEq, q1]
          rw [hQX]
          refine ⟨rfl, ?_, hnx', ⟨_, hrow, by rw [← hkp]; exact hX⟩, hS, hP, h0'⟩
          refine garb ?_
          rfl
        · have q1 : ((k : Int) < (p : Int)) = True := eq_true (by omega)
          have q0 : ((0 : Int) ≤ (k : Int)) = True := eq_true (by omega)
          have w1 : IntKind.i64.wrap ((k + 1 : Nat) : Int) = ((k + 1 : Nat) : Int) := wrap64 (by omega) (by omega)
          have hgT := fr_get (L := rl p fun k => (fl k, t k)) (i := k) (by rw [rl_len]; omega)
          rw [rl_get (show k < p by omega)] at hgT
          have hgT2 : (k * 2 + 2 ≤ (fr (rl p fun k => (fl k, t k))).length) = True := eq_true (by rw [fr_len, rl_len]; omega)
          have g1 := range_get (f := uv) (show k < n by omega)
          have qn : ((k : Int) < (n : Int)) = True := eq_true (by omega)
          have hlu : ((List.range n).map uv).length = n := by simp
          have e1 := each_sum n hn uf t (fl k) k (fun j hj => hx k j (by omega) hj)
          have hw := hS.w
          have hu := hS.u
          have x1 : (T = nx') = False := eq_false (by omega)
          have x2 : (nx' = T) = False := eq_false (by omega)
          have x3 : (nx + 1 = nx') = False := eq_false (by omega)
          have x4 : (nx' = nx + 1) = False := eq_false (by omega)
          have x5 : (W = nx') = False := eq_false (by omega)
          have x6 : (nx' = W) = False := eq_false (by omega)
          have x7 : (U = nx') = False := eq_false (by omega)
          have x8 : (nx' = U) = False := eq_false (by omega)
          have x9 : (W = nx + 1) = False := eq_false (by omega)
          have x10 : (nx + 1 = W) = False := eq_false (by omega)
          have x11 : (U = nx + 1) = False := eq_false (by omega)
          have x12 : (nx + 1 = U) = False := eq_false (by omega)
          have x13 : (nx = nx + 1) = False := eq_false (by omega)
          have x14 : (nx + 1 = nx) = False := eq_false (by omega)
          have x15 : (nx = nx') = False := eq_false (by omega)
          have x16 : (nx' = nx) = False := eq_false (by omega)
          have x17 : (W = nx) = False := eq_false (by omega)
          have x18 : (nx = W) = False := eq_false (by omega)
          have x19 : (U = nx) = False := eq_false (by omega)
          have x20 : (nx = U) = False := eq_false (by omega)
          have x21 : (W = U) = False := eq_false l8
          have x22 : (U = W) = False := eq_false fun e => l8 e.symm
          have hcl : ∀ (m : Nat) (H : Heap), purify (m + 1) H (.fn 64 [] [.ptr nx' 0]) = fn1P 64 (capP m H nx' 0 (H nx')) := fun m H => purify_fn1 rfl
          have hfin : ∀ (hh : Heap) (nn : Nat) (sl : List AV), (∃ g : Nat → AV, sl = [g 0, g 1, g 2, g 3, .ptr 0 0, .ptr W 0, g 6, g 7, g 8, g 9, g 10, g 11, g 12, g 13, g 14, .ptr (nx + 1) 0, g 16, g 17, g 18, g 19, g 20, g 21, g 22, g 23, g 24, g 25, g 26, g 27, g 28, g 29, g 30, g 31, g 32, g 33, g 34, g 35, g 36, g 37, g 38, g 39, g 40, g 41, g 42, g 43, g 44, g 45, g 46, g 47, g 48, g 49, g 50, g 51, g 52, g 53, g 54, g 55, g 56, g 57, g 58, g 59, g 60, g 61, g 62, g 63, g 64, g 65, g 66, g 67, g 68, g 69, g 70, g 71, g 72, g 73, g 74, g 75, g 76, g 77, g 78, g 79, g 80, g 81, g 82, g 83, g 84, g 85, g 86, g 87, g 88, g 89, g 90, g 91, g 92, g 93, g 94, g 95, g 96, g 97, g 98, g 99, g 100, g 101, g 102, g 103, g 104, g 105, g 106, g 107, g 108, g 109, g 110, g 111, g 112, g 113, g 114, g 115, g 116, g 117, g 118, g 119, g 120, g 121, .ref T 0 p, .int .i64 (p : Int), .int .i64 ((k + 1 : Nat) : Int), g 125, g 126, g 127, g 128, g 129, g 130, g 131, g 132, g 133, g 134, g 135, g 136, g 137, g 138, g 139, g 140, g 141, g 142, g 143, g 144, g 145, g 146, g 147, g 148, g 149, g 150, g 151, g 152, g 153, g 154, g 155, g 156, g 157, g 158, g 159, g 160, g 161, g 162, g 163, g 164, g 165]) → nx' ≤ nn → hh (nx + 1) = some (lrow (lraw false (rl n (xs uf t (k + 1)))) (.lst true [])) → (∃ id, id ∉ [W, C, U, pp, 0, T] ∧ (∀ i, i < N2 ∨ i = T → i ≠ id → hh i = h' i) ∧ ∀ cs a e fz, id < N2 → h' id = some ⟨cs, a, e, fz⟩ → hh id = some ⟨cs, a, e, true⟩) →
              ∃ kk', kk' < kk ∧ ∃ (k : Nat) (Xv : AV), (∃ g : Nat → AV, sl = [g 0, g 1, g 2, g 3, .ptr 0 0, .ptr W 0, g 6, g 7, g 8, g 9, g 10, g 11, g 12, g 13, g 14, .ptr (nx + 1) 0, g 16, g 17, g 18, g 19, g 20, g 21, g 22, g 23, g 24, g 25, g 26, g 27, g 28, g 29, g 30, g 31, g 32, g 33, g 34, g 35, g 36, g 37, g 38, g 39, g 40, g 41, g 42, g 43, g 44, g 45, g 46, g 47, g 48, g 49, g 50, g 51, g 52, g 53, g 54, g 55, g 56, g 57, g 58, g 59, g 60, g 61, g 62, g 63, g 64, g 65, g 66, g 67, g 68, g 69, g 70, g 71, g 72, g 73, g 74, g 75, g 76, g 77, g 78, g 79, g 80, g 81, g 82, g 83, g 84, g 85, g 86, g 87, g 88, g 89, g 90, g 91, g 92, g 93, g 94, g 95, g 96, g 97, g 98, g 99, g 100, g 101, g 102, g 103, g 104, g 105, g 106, g 107, g 108, g 109, g 110, g 111, g 112, g 113, g 114, g 115, g 116, g 117, g 118, g 119, g 120, g 121, .ref T 0 p, .int .i64 (p : Int), .int .i64 (k : Int), g 125, g 126, g 127, g 128, g 129, g 130, g 131, g 132, g 133, g 134, g 135, g 136, g 137, g 138, g 139, g 140, g 141, g 142, g 143, g 144, g 145, g 146, g 147, g 148, g 149, g 150, g 151, g 152, g 153, g 154, g 155, g 156, g 157, g 158, g 159, g 160, g 161, g 162, g 163, g 164, g 165]) ∧ k + kk' = p ∧ nx + 1 + 1 ≤ nn ∧ hh (nx + 1) = some (lrow Xv (.lst true [])) ∧ XVal hh n nx uf t k Xv ∧ WS hh 1 N2 W C U pp pv A.length n cv uv cf uf ∧ PV hh 1 N2 W C U pv ps pp ∧ hh 0 = some ⟨[.bool false, .lst true [], .lst true [], .lst true [], .bool false, .lst true []], true, 6, false⟩ ∧ hh T = some ⟨fr (rl p fun k => (fl k, t k)), true, 2, false⟩ := fun hh nn sl c0 c1 c2 ⟨id, c3, c4, c5⟩ => by
            simp only [List.mem_cons, List.not_mem_nil, or_false, not_or] at c3
            obtain ⟨i1, i2, i3, i4, i5, i6⟩ := c3
            refine ⟨kk - 1, by omega, k + 1, _, c0, by omega, by omega, c2, .inl rfl, ?_, hP.mono (Nat.le_refl _) fun q1 _ _ _ => c4 pp (.inl q1) (fun e => i4 e.symm), (c4 0 (.inl (by omega)) (fun e => i5 e.symm)).trans h0', (c4 T (.inr rfl) (fun e => i6 e.symm)).trans hT4⟩
            by_cases hlt : id < N2
            · exact hS.frz (Nat.le_refl _) id (by simp only [List.mem_cons, List.not_mem_nil, or_false, not_or]; exact ⟨i1, i2, i3, i4⟩) (fun i j1 j2 => c4 i (.inl j1) j2) fun cs a e fz q => c5 cs a e fz hlt q
            · exact hS.mono (Nat.le_refl _) fun i hi => c4 i (.inl hi) (by omega)
          have hP' := hP
          have hS' := hS
          have hpp : pp < N2 ∨ pp = W := by
            rcases hP with ⟨_, _, q⟩ | ⟨_, _, _, q, _⟩
            · exact .inr q
            · exact .inl q
          generalize hIQ : (fun (kk : Nat) (σ : St) => ∃ (k : Nat) (Xv : AV), (∃ g : Nat → AV, σ.sl = [g 0, g 1, g 2, g 3, .ptr 0 0, .ptr W 0, g 6, g 7, g 8, g 9, g 10, g 11, g 12, g 13, g 14, .ptr (nx + 1) 0, g 16, g 17, g 18, g 19, g 20, g 21, g 22, g 23, g 24, g 25, g 26, g 27, g 28, g 29, g 30, g 31, g 32, g 33, g 34, g 35, g 36, g 37, g 38, g 39, g 40, g 41, g 42, g 43, g 44, g 45, g 46, g 47, g 48, g 49, g 50, g 51, g 52, g 53, g 54, g 55, g 56, g 57, g 58, g 59, g 60, g 61, g 62, g 63, g 64, g 65, g 66, g 67, g 68, g 69, g 70, g 71, g 72, g 73, g 74, g 75, g 76, g 77, g 78, g 79, g 80, g 81, g 82, g 83, g 84, g 85, g 86, g 87, g 88, g 89, g 90, g 91, g 92, g 93, g 94, g 95, g 96, g 97, g 98, g 99, g 100, g 101, g 102, g 103, g 104, g 105, g 106, g 107, g 108, g 109, g 110, g 111, g 112, g 113, g 114, g 115, g 116, g 117, g 118, g 119, g 120, g 121, .ref T 0 p, .int .i64 (p : Int), .int .i64 (k : Int), g 125, g 126, g 127, g 128, g 129, g 130, g 131, g 132, g 133, g 134, g 135, g 136, g 137, g 138, g 139, g 140, g 141, g 142, g 143, g 144, g 145, g 146, g 147, g 148, g 149, g 150, g 151, g 152, g 153, g 154, g 155, g 156, g 157, g 158, g 159, g 160, g 161, g 162, g 163, g 164, g 165]) ∧ k + kk = p ∧ nx + 1 + 1 ≤ σ.nx ∧ σ.h (nx + 1) = some (lrow Xv (.lst true [])) ∧ XVal σ.h n nx uf t k Xv ∧ WS σ.h 1 N2 W C U pp pv A.length n cv uv cf uf ∧ PV σ.h 1 N2 W C U pv ps pp ∧ σ.h 0 = some ⟨[.bool false, .lst true [], .lst true [], .lst true [], .bool false, .lst true []], true, 6, false⟩ ∧ σ.h T = some ⟨fr (rl p fun k => (fl k, t k)), true, 2, false⟩) = IQ
          have huk := hS.uu k (by omega)
          clear hS hP hS' hP' hx hx2 hQ
          generalize t k = tk at *
          generalize rl n (xs uf t (k + 1)) = R' at *
          simp (maxSteps := 4000000) only [go_sem, seval, ↓reduceIte, reduceCtorEq, q0, q1, hT4, hgT, hgT2, places, fillAll]
          refine W_drawn ?_
          have qn0 : ((0 : Int) < (n : Int)) = True := eq_true (by omega)
          have w10 : IntKind.i64.wrap (1 : Int) = (1 : Int) := wrap64 (by decide) (by decide)
          rcases hX with rfl | ⟨rfl, rfl, fzX, hX0⟩ <;> rcases huk with hv1 | ⟨id1, fz1, hv1, hlo1, hlt1, hb1, hh1⟩
          · simp (maxSteps := 4000000) only [go_sem, seval, ↓reduceIte, reduceCtorEq, q0, q1, qn, qn0, hT4, hgT, hgT2, hrow, hw, hu, g1, hlu, x1, x2, x3, x4, x5, x6, x7, x8, x9, x10, x11, x12, x13, x14, x15, x16, x17, x18, x19, x20, x21, x22, e1, hcl, capP, fn1P_some, purify_lraw, places, fillAll, hv1]
            refine ⟨by refine okR_pairs ?_; (repeat ((with_unfolding_all refine And.intro ?_ ?_); (focus (rw [free_mk] <;> (try simp) <;> (try omega))))); (with_unfolding_all exact True.intro), ?_⟩
            rw [w1, ← hIQ]
            refine hfin _ _ _ ?_ (by dsimp only; omega) ?_ ⟨nx', ?_, fun i i1 i2 => ?_, fun cs a e fz i1 i2 => ?_⟩
            · refine garb ?_
              rfl
            · simp only [upd_apply, ↓reduceIte, Nat.reduceEqDiff, if_pos, x1, x2, x3, x4, x5, x6, x7, x8, x9, x10, x11, x12, x13, x14, x15, x16, x17, x18, x19, x20, x21, x22]
            · simp only [List.mem_cons, List.not_mem_nil, or_false, not_or]
              omega
            · simp only [upd_apply]
              (repeat rw [if_neg (by omega)])
            · omega
          · simp only [List.mem_cons, List.not_mem_nil, or_false, not_or] at hb1
            obtain ⟨hb11, hb12, hb13, hb14⟩ := hb1
            have hp1 : ∀ (m : Nat) (H : Heap) (f : Bool), refP (m + 1) H id1 0 n (some ⟨fr (rl n (uf k)), true, 2, f⟩) = some (.lst false ((rl n (uf k)).map ivr), [id1]) := fun m H f => refP_fr (rl_len _ _)
            have y0 : (id1 = nx') = False := eq_false (by omega)
            have y1 : (nx' = id1) = False := eq_false (by omega)
            have y2 : (id1 = nx + 1) = False := eq_false (by omega)
            have y3 : (nx + 1 = id1) = False := eq_false (by omega)
            have y4 : (id1 = nx) = False := eq_false (by omega)
            have y5 : (nx = id1) = False := eq_false (by omega)
            have y6 : (id1 = W) = False := eq_false (by omega)
            have y7 : (W = id1) = False := eq_false (by omega)
            have y8 : (id1 = U) = False := eq_false (by omega)
            have y9 : (U = id1) = False := eq_false (by omega)
            have y10 : (id1 = T) = False := eq_false (by omega)
            have y11 : (T = id1) = False := eq_false (by omega)
            simp (maxSteps := 4000000) only [go_sem, seval, ↓reduceIte, reduceCtorEq, q0, q1, qn, qn0, hT4, hgT, hgT2, hrow, hw, hu, g1, hlu, x1, x2, x3, x4, x5, x6, x7, x8, x9, x10, x11, x12, x13, x14, x15, x16, x17, x18, x19, x20, x21, x22, e1, hcl, capP, fn1P_some, purify_lraw, places, fillAll, hv1, hh1, hp1, y0, y1, y2, y3, y4, y5, y6, y7, y8, y9, y10, y11]
            refine ⟨by refine okR_pairs ?_; (repeat ((with_unfolding_all refine And.intro ?_ ?_); (focus (rw [free_mk] <;> (try simp) <;> (try omega))))); (with_unfolding_all exact True.intro), ?_⟩
            rw [w1, ← hIQ]
            refine hfin _ _ _ ?_ (by dsimp only; omega) ?_ ⟨id1, ?_, fun i i1 i2 => ?_, fun cs a e fz i1 i2 => ?_⟩
            · refine garb ?_
              rfl
            · simp only [upd_apply, ↓reduceIte, Nat.reduceEqDiff, if_pos, x1, x2, x3, x4, x5, x6, x7, x8, x9, x10, x11, x12, x13, x14, x15, x16, x17, x18, x19, x20, x21, x22, y0, y1, y2, y3, y4, y5, y6, y7, y8, y9, y10, y11]
            · simp only [List.mem_cons, List.not_mem_nil, or_false, not_or]
              omega
            · simp only [upd_apply]
              (repeat rw [if_neg (by omega)])
            · rw [hh1] at i2
              cases i2
              simp only [upd_apply, ↓reduceIte, Nat.reduceEqDiff, if_pos, x1, x2, x3, x4, x5, x6, x7, x8, x9, x10, x11, x12, x13, x14, x15, x16, x17, x18, x19, x20, x21, x22, y0, y1, y2, y3, y4, y5, y6, y7, y8, y9, y10, y11]
          · have hpX : ∀ (m : Nat) (H : Heap) (f : Bool), refP (m + 1) H nx 0 n (some ⟨fr (rl n (xs uf t 0)), true, 2, f⟩) = some (.lst false ((rl n (xs uf t 0)).map ivr), [nx]) := fun m H f => refP_fr (rl_len _ _)
            simp (maxSteps := 4000000) only [go_sem, seval, ↓reduceIte, reduceCtorEq, q0, q1, qn, qn0, hT4, hgT, hgT2, hrow, hw, hu, g1, hlu, x1, x2, x3, x4, x5, x6, x7, x8, x9, x10, x11, x12, x13, x14, x15, x16, x17, x18, x19, x20, x21, x22, e1, w10, hcl, capP, fn1P_some, purify_lraw, places, fillAll, hX0, hpX, hv1]
            refine ⟨by refine okR_pairs ?_; (repeat ((with_unfolding_all refine And.intro ?_ ?_); (focus (rw [free_mk] <;> (try simp) <;> (try omega))))); (with_unfolding_all exact True.intro), ?_⟩
            rw [← hIQ]
            refine hfin _ _ _ ?_ (by dsimp only; omega) ?_ ⟨nx', ?_, fun i i1 i2 => ?_, fun cs a e fz i1 i2 => ?_⟩
            · refine garb ?_
              rfl
            · simp only [upd_apply, ↓reduceIte, Nat.reduceEqDiff, if_pos, x1, x2, x3, x4, x5, x6, x7, x8, x9, x10, x11, x12, x13, x14, x15, x16, x17, x18, x19, x20, x21, x22]
            · simp only [List.mem_cons, List.not_mem_nil, or_false, not_or]
              omega
            · simp only [upd_apply]
              (repeat rw [if_neg (by omega)])
            · omega
          · have hpX : ∀ (m : Nat) (H : Heap) (f : Bool), refP (m + 1) H nx 0 n (some ⟨fr (rl n (xs uf t 0)), true, 2, f⟩) = some (.lst false ((rl n (xs uf t 0)).map ivr), [nx]) := fun m H f => refP_fr (rl_len _ _)
            simp only [List.mem_cons, List.not_mem_nil, or_false, not_or] at hb1
            obtain ⟨hb11, hb12, hb13, hb14⟩ := hb1
            have hp1 : ∀ (m : Nat) (H : Heap) (f : Bool), refP (m + 1) H id1 0 n (some ⟨fr (rl n (uf 0)), true, 2, f⟩) = some (.lst false ((rl n (uf 0)).map ivr), [id1]) := fun m H f => refP_fr (rl_len _ _)
            have y0 : (id1 = nx') = False := eq_false (by omega)
            have y1 : (nx' = id1) = False := eq_false (by omega)
            have y2 : (id1 = nx + 1) = False := eq_false (by omega)
            have y3 : (nx + 1 = id1) = False := eq_false (by omega)
            have y4 : (id1 = nx) = False := eq_false (by omega)
            have y5 : (nx = id1) = False := eq_false (by omega)
            have y6 : (id1 = W) = False := eq_false (by omega)
            have y7 : (W = id1) = False := eq_false (by omega)
            have y8 : (id1 = U) = False := eq_false (by omega)
            have y9 : (U = id1) = False := eq_false (by omega)
            have y10 : (id1 = T) = False := eq_false (by omega)
            have y11 : (T = id1) = False := eq_false (by omega)
            simp (maxSteps := 4000000) only [go_sem, seval, ↓reduceIte, reduceCtorEq, q0, q1, qn, qn0, hT4, hgT, hgT2, hrow, hw, hu, g1, hlu, x1, x2, x3, x4, x5, x6, x7, x8, x9, x10, x11, x12, x13, x14, x15, x16, x17, x18, x19, x20, x21, x22, e1, w10, hcl, capP, fn1P_some, purify_lraw, places, fillAll, hX0, hpX, hv1, hh1, hp1, y0, y1, y2, y3, y4, y5, y6, y7, y8, y9, y10, y11]
            refine ⟨by refine okR_pairs ?_; (repeat ((with_unfolding_all refine And.intro ?_ ?_); (focus (rw [free_mk] <;> (try simp) <;> (try omega))))); (with_unfolding_all exact True.intro), ?_⟩
            rw [← hIQ]
            refine hfin _ _ _ ?_ (by dsimp only; omega) ?_ ⟨id1, ?_, fun i i1 i2 => ?_, fun cs a e fz i1 i2 => ?_⟩
            · refine garb ?_
              rfl
            · simp only [upd_apply, ↓reduceIte, Nat.reduceEqDiff, if_pos, x1, x2, x3, x4, x5, x6, x7, x8, x9, x10, x11, x12, x13, x14, x15, x16, x17, x18, x19, x20, x21, x22, y0, y1, y2, y3, y4, y5, y6, y7, y8, y9, y10, y11]
            · simp only [List.mem_cons, List.not_mem_nil, or_false, not_or]
              omega
            · simp only [upd_apply]
              (repeat rw [if_neg (by omega)])
            · rw [hh1] at i2
              cases i2
              simp only [upd_apply, ↓reduceIte, Nat.reduceEqDiff, if_pos, x1, x2, x3, x4, x5, x6, x7, x8, x9, x10, x11, x12, x13, x14, x15, x16, x17, x18, x19, x20, x21, x22, y0, y1, y2, y3, y4, y5, y6, y7, y8, y9, y10, y11]
    rw [hQX]
    clear hQX QX hT hold hrow0 hzero hS2 hP2 e02 hw2 hc2 hu2 hx
    rintro ex ⟨sl, h5, nx5⟩ ⟨rfl, ⟨g5, rfl⟩, hnx5, ⟨Xv, hrow, hX⟩, hS, hP, h0'⟩
    dsimp only at hnx5 hrow hX hS hP h0'
    have hw := hS.w
    have hu := hS.u
    have hlu : ((List.range n).map uv).length = n := by simp
    have zpn : ((p : Int) ≤ (n : Int)) = True := eq_true (by omega)
    have zp0 : ((0 : Int) ≤ (p : Int)) = True := eq_true (by omega)
    have zpl : ((ps.length : Nat) : Int) = (p : Int) := by rw [hpl]
    have hcb : cutBounds n (some (.int .i64 (p : Int))) none none = some (p, n) := by
      simp [cutBounds, inRange]
      omega
    have hcb0 : cutBounds n (some (.int .i64 0)) none none = some (0, n) := by
      simp [cutBounds, inRange]
    have z0n : (0 = n) = False := eq_false (by omega)
    have zp1 : p = n ∨ p < n := by omega
    have hln : (((n : Nat) : Int) - ((p : Nat) : Int)) = ((n - p : Nat) : Int) := by omega
    obtain ⟨QY, hQY⟩ : ∃ QY : Ex → St → Prop, QY = fun ex τ => ex = .norm ∧ (∃ (g : Nat → AV) (v : AV), τ.sl = [g 0, g 1, g 2, g 3, .ptr 0 0, g 5, g 6, g 7, g 8, g 9, g 10, g 11, g 12, g 13, g 14, .ptr (nx + 1) 0, g 16, g 17, g 18, g 19, g 20, g 21, g 22, g 23, g 24, g 25, g 26, g 27, g 28, g 29, g 30, g 31, g 32, g 33, g 34, g 35, g 36, g 37, g 38, g 39, g 40, g 41, g 42, g 43, g 44, g 45, g 46, g 47, g 48, g 49, g 50, g 51, g 52, g 53, g 54, g 55, g 56, g 57, g 58, g 59, g 60, g 61, g 62, g 63, g 64, g 65, g 66, g 67, g 68, g 69, g 70, g 71, g 72, g 73, g 74, g 75, g 76, g 77, g 78, g 79, g 80, g 81, g 82, g 83, g 84, g 85, g 86, g 87, g 88, g 89, g 90, g 91, g 92, g 93, g 94, g 95, g 96, g 97, g 98, g 99, g 100, g 101, g 102, g 103, g 104, g 105, g 106, g 107, g 108, g 109, g 110, g 111, g 112, g 113, g 114, g 115, g 116, g 117, g 118, g 119, g 120, g 121, g 122, g 123, g 124, g 125, g 126, g 127, g 128, g 129, g 130, g 131, g 132, g 133, g 134, g 135, g 136, g 137, g 138, g 139, g 140, g 141, g 142, g 143, g 144, g 145, g 146, g 147, g 148, g 149, g 150, v, .int .i64 ((n - p : Nat) : Int), .int .i64 0, g 154, g 155, g 156, g 157, g 158, g 159, g 160, g 161, g 162, g 163, g 164, g 165] ∧ (p < n → v = .ref U p (n - p))) ∧ τ.nx = nx5 ∧ τ.h = h5 := ⟨_, rfl⟩
    have hgar : ∀ (v : AV) (sl : List AV), (∃ g : Nat → AV, sl = [g 0, g 1, g 2, g 3, .ptr 0 0, g 5, g 6, g 7, g 8, g 9, g 10, g 11, g 12, g 13, g 14, .ptr (nx + 1) 0, g 16, g 17, g 18, g 19, g 20, g 21, g 22, g 23, g 24, g 25, g 26, g 27, g 28, g 29, g 30, g 31, g 32, g 33, g 34, g 35, g 36, g 37, g 38, g 39, g 40, g 41, g 42, g 43, g 44, g 45, g 46, g 47, g 48, g 49, g 50, g 51, g 52, g 53, g 54, g 55, g 56, g 57, g 58, g 59, g 60, g 61, g 62, g 63, g 64, g 65, g 66, g 67, g 68, g 69, g 70, g 71, g 72, g 73, g 74, g 75, g 76, g 77, g 78, g 79, g 80, g 81, g 82, g 83, g 84, g 85, g 86, g 87, g 88, g 89, g 90, g 91, g 92, g 93, g 94, g 95, g 96, g 97, g 98, g 99, g 100, g 101, g 102, g 103, g 104, g 105, g 106, g 107, g 108, g 109, g 110, g 111, g 112, g 113, g 114, g 115, g 116, g 117, g 118, g 119, g 120, g 121, g 122, g 123, g 124, g 125, g 126, g 127, g 128, g 129, g 130, g 131, g 132, g 133, g 134, g 135, g 136, g 137, g 138, g 139, g 140, g 141, g 142, g 143, g 144, g 145, g 146, g 147, g 148, g 149, g 150, v, .int .i64 ((n - p : Nat) : Int), .int .i64 0, g 154, g 155, g 156, g 157, g 158, g 159, g 160, g 161, g 162, g 163, g 164, g 165]) → (p < n → v = .ref U p (n - p)) → ∃ (g : Nat → AV) (v : AV), sl = [g 0, g 1, g 2, g 3, .ptr 0 0, g 5, g 6, g 7, g 8, g 9, g 10, g 11, g 12, g 13, g 14, .ptr (nx + 1) 0, g 16, g 17, g 18, g 19, g 20, g 21, g 22, g 23, g 24, g 25, g 26, g 27, g 28, g 29, g 30, g 31, g 32, g 33, g 34, g 35, g 36, g 37, g 38, g 39, g 40, g 41, g 42, g 43, g 44, g 45, g 46, g 47, g 48, g 49, g 50, g 51, g 52, g 53, g 54, g 55, g 56, g 57, g 58, g 59, g 60, g 61, g 62, g 63, g 64, g 65, g 66, g 67, g 68, g 69, g 70, g 71, g 72, g 73, g 74, g 75, g 76, g 77, g 78, g 79, g 80, g 81, g 82, g 83, g 84, g 85, g 86, g 87, g 88, g 89, g 90, g 91, g 92, g 93, g 94, g 95, g 96, g 97, g 98, g 99, g 100, g 101, g 102, g 103, g 104, g 105, g 106, g 107, g 108, g 109, g 110, g 111, g 112, g 113, g 114, g 115, g 116, g 117, g 118, g 119, g 120, g 121, g 122, g 123, g 124, g 125, g 126, g 127, g 128, g 129, g 130, g 131, g 132, g 133, g 134, g 135, g 136, g 137, g 138, g 139, g 140, g 141, g 142, g 143, g 144, g 145, g 146, g 147, g 148, g 149, g 150, v, .int .i64 ((n - p : Nat) : Int), .int .i64 0, g 154, g 155, g 156, g 157, g 158, g 159, g 160, g 161, g 162, g 163, g 164, g 165] ∧ (p < n → v = .ref U p (n - p)) := fun v sl ⟨g, e⟩ e2 => ⟨g, v, e, e2⟩
    simp (maxSteps := 4000000) only [go_sem, seval, ↓reduceIte, reduceCtorEq]
    apply cutK (Q := QY)
    · intro hrest
      rcases hP with ⟨k1, rfl, k2⟩ | ⟨k1, rfl, k2, k3, k4, k5, k6, k7⟩
      · have hp0 : p = 0 := by rw [hpl, k1]; rfl
        subst hp0
        refine W_mono (Q := QY) ?_ hrest
        refine W_drawn ?_
        simp (maxSteps := 4000000) only [go_sem, seval, ↓reduceIte, reduceCtorEq, hw, hu, hlu, zpn, zp0, hcb0, z0n, Nat.sub_zero]
        refine ⟨by rfl, ?_⟩
        rw [hQY]
        refine ⟨rfl, hgar (.ref U 0 n) _ ?_ (fun _ => rfl), rfl, rfl⟩
        refine garb ?_
        rfl
      · refine W_mono (Q := QY) ?_ hrest
        refine W_drawn ?_
        have hml : (ps.map fun (r : Nat) => AV.int .i64 r).length = ps.length := List.length_map _
        rw [← hpl] at hml
        rcases zp1 with e | e
        · have zpe : (p = n) = True := eq_true e
          have zp0' : (p = 0) = False := eq_false (by omega)
          have zn0' : (n = 0) = False := eq_false (by omega)
          simp (maxSteps := 4000000) only [go_sem, seval, ↓reduceIte, reduceCtorEq, hw, hu, k7, hlu, hml, zpl, zpn, zp0, hcb, zpe, zp0', zn0']
          refine ⟨by rfl, ?_⟩
          rw [hQY]
          refine ⟨rfl, hgar (.lst false []) _ ?_ (fun e2 => by omega), rfl, rfl⟩
          rw [show n - p = 0 by omega]
          refine garb ?_
          rfl
        · have zpe : (p = n) = False := eq_false (by omega)
          simp (maxSteps := 4000000) only [go_sem, seval, ↓reduceIte, reduceCtorEq, hw, hu, k7, hlu, hml, zpl, zpn, zp0, hcb, zpe]
          refine ⟨by rfl, ?_⟩
          rw [hQY]
          refine ⟨rfl, hgar (.ref U p (n - p)) _ ?_ (fun _ => rfl), rfl, rfl⟩
          refine garb ?_
          rfl
    rw [hQY]
    clear hQY QY
    rintro ex ⟨sl, h6, nx6⟩ ⟨rfl, ⟨g6, v, rfl, hv⟩, hn6, hh6⟩
    dsimp only at hn6 hh6
    subst hn6
    subst hh6
    have hS0 := hS
    have hppp : pp < N2 ∨ pp = W := by
      rcases hP with ⟨_, _, q⟩ | ⟨_, _, _, q, _⟩
      · exact .inr q
      · exact .inl q
    clear hP
    simp (maxSteps := 4000000) only [go_sem, seval, ↓reduceIte, reduceCtorEq]
    refine W_loopS (fun kk sl h' nx' => ∃ (j : Nat) (Bv : AV), (∃ g : Nat → AV, sl = [g 0, g 1, g 2, g 3, .ptr 0 0, g 5, g 6, g 7, g 8, g 9, g 10, g 11, g 12, g 13, g 14, .ptr (nx + 1) 0, g 16, g 17, g 18, g 19, g 20, g 21, g 22, g 23, g 24, g 25, g 26, g 27, g 28, g 29, g 30, g 31, g 32, g 33, g 34, g 35, g 36, g 37, g 38, g 39, g 40, g 41, g 42, g 43, g 44, g 45, g 46, g 47, g 48, g 49, g 50, g 51, g 52, g 53, g 54, g 55, g 56, g 57, g 58, g 59, g 60, g 61, g 62, g 63, g 64, g 65, g 66, g 67, g 68, g 69, g 70, g 71, g 72, g 73, g 74, g 75, g 76, g 77, g 78, g 79, g 80, g 81, g 82, g 83, g 84, g 85, g 86, g 87, g 88, g 89, g 90, g 91, g 92, g 93, g 94, g 95, g 96, g 97, g 98, g 99, g 100, g 101, g 102, g 103, g 104, g 105, g 106, g 107, g 108, g 109, g 110, g 111, g 112, g 113, g 114, g 115, g 116, g 117, g 118, g 119, g 120, g 121, g 122, g 123, g 124, g 125, g 126, g 127, g 128, g 129, g 130, g 131, g 132, g 133, g 134, g 135, g 136, g 137, g 138, g 139, g 140, g 141, g 142, g 143, g 144, g 145, g 146, g 147, g 148, g 149, g 150, v, .int .i64 ((n - p : Nat) : Int), .int .i64 (j : Int), g 154, g 155, g 156, g 157, g 158, g 159, g 160, g 161, g 162, g 163, g 164, g 165]) ∧ j + kk = n - p ∧ nx + 2 ≤ nx' ∧ h' (nx + 1) = some (lrow Xv Bv) ∧ XVal h' n nx uf t p Xv ∧ BVal h' n p (nx + 1) nx' uf j Bv ∧ WS h' 1 N2 W C U pp pv A.length n cv uv cf uf ∧ h' 0 = some ⟨[.bool false, .lst true [], .lst true [], .lst true [], .bool false, .lst true []], true, 6, false⟩) (n - p) ⟨0, .lst true [], garb rfl, by omega, hnx5, hrow, hX, .inl ⟨rfl, rfl⟩, hS, h0'⟩ ?_
    clear hrow hX hS h0' hw hu hcb hcb0 z0n hln hgar zpl zp1
    rintro kk _ h' nx' ⟨j, Bv, ⟨g7, rfl⟩, hkk, hnx', hrow, hX, hB, hS, h0'⟩
    have x13 : (nx = nx + 1) = False := eq_false (by omega)
    have x14 : (nx + 1 = nx) = False := eq_false (by omega)
    by_cases hjn : j = n - p
    · have q1 : ((j : Int) < ((n - p : Nat) : Int)) = False := eq_false (by omega)
      have y1 : (0 = nx + 1) = False := eq_false (by omega)
      have y2 : (nx + 1 = 0) = False := eq_false (by omega)
      have y3 : (nx = 0) = False := eq_false (by omega)
      have y4 : (0 = nx) = False := eq_false (by omega)
      subst hjn
      rcases hX with rfl | ⟨hp0, rfl, fzX, hX0⟩ <;> rcases hB with ⟨b0, rfl⟩ | ⟨b0, Bid, rfl, b1, b2, b3⟩
      · rw [if_pos (by omega)] at hQ
        simp (maxSteps := 4000000) only [go_sem, seval, ↓reduceIte, reduceCtorEq, q1, hrow, h0', y1, y2, y3, y4, purify_lraw]
        exact ⟨_, rfl, hQ⟩
      · rw [if_neg (by omega)] at hQ
        have hpB := fun (m : Nat) (H : Heap) => refP_lr (n := m) (H := H) (id := Bid) (len := n - p) (A := basP n p uf (n - p)) (fz := false) (by unfold basP; simp)
        have y5 : (Bid = 0) = False := eq_false (by omega)
        have y6 : (0 = Bid) = False := eq_false (by omega)
        simp (maxSteps := 4000000) only [go_sem, seval, ↓reduceIte, reduceCtorEq, q1, hrow, h0', y1, y2, y3, y4, y5, y6, b3, hpB, purify_lraw]
        exact ⟨_, rfl, hQ⟩
      · omega
      · rw [if_neg (by omega)] at hQ
        have hpB := fun (m : Nat) (H : Heap) => refP_lr (n := m) (H := H) (id := Bid) (len := n - p) (A := basP n p uf (n - p)) (fz := false) (by unfold basP; simp)
        have hpX := fun (m : Nat) (H : Heap) => refP_fr (n := m) (H := H) (id := nx) (len := n) (L := rl n (xs uf t p)) (fz := fzX) (rl_len _ _)
        have y5 : (Bid = 0) = False := eq_false (by omega)
        have y6 : (0 = Bid) = False := eq_false (by omega)
        have y7 : (Bid = nx) = False := eq_false (by omega)
        have y8 : (nx = Bid) = False := eq_false (by omega)
        simp (maxSteps := 4000000) only [go_sem, seval, ↓reduceIte, reduceCtorEq, q1, hrow, h0', y1, y2, y3, y4, y5, y6, y7, y8, b3, hX0, hpB, hpX]
        exact ⟨_, rfl, hQ⟩
    · have q1 : ((j : Int) < ((n - p : Nat) : Int)) = True := eq_true (by omega)
      have q0 : ((0 : Int) ≤ (j : Int)) = True := eq_true (by omega)
      have w1 : IntKind.i64.wrap ((j + 1 : Nat) : Int) = ((j + 1 : Nat) : Int) := wrap64 (by omega) (by omega)
      have hv' := hv (by omega)
      subst hv'
      have hu := hS.u
      have g1 := range_get (f := uv) (show p + j < n by omega)
      have c1 := copy_spec false (rl n (uf (p + j))) (by rw [rl_len]; exact hn) (fun q hq => by
        obtain ⟨i, hi, rfl⟩ := List.mem_map.1 hq
        have := hx2 (p + j) i (by omega) (List.mem_range.1 hi)
        show (dg (uf (p + j) i).2).length ≤ 1000000
        omega)
      rw [cpf_rl] at c1
      have huk := hS.uu (p + j) (by omega)
      have hpp : pp < N2 ∨ pp = W := hppp
      have a1 : (nx' = nx + 1) = False := eq_false (by omega)
      have a2 : (nx + 1 = nx') = False := eq_false (by omega)
      have a3 : (nx' + 1 = nx + 1) = False := eq_false (by omega)
      have a4 : (nx + 1 = nx' + 1) = False := eq_false (by omega)
      have a5 : (U = nx') = False := eq_false (by omega)
      have a6 : (nx' = U) = False := eq_false (by omega)
      have a7 : (nx' = nx' + 1) = False := eq_false (by omega)
      have a8 : (nx' + 1 = nx') = False := eq_false (by omega)
      have a9 : (U = nx + 1) = False := eq_false (by omega)
      have a10 : (nx + 1 = U) = False := eq_false (by omega)
      have hfin : ∀ (hh : Heap) (nn : Nat) (sl : List AV), (∃ g : Nat → AV, sl = [g 0, g 1, g 2, g 3, .ptr 0 0, g 5, g 6, g 7, g 8, g 9, g 10, g 11, g 12, g 13, g 14, .ptr (nx + 1) 0, g 16, g 17, g 18, g 19, g 20, g 21, g 22, g 23, g 24, g 25, g 26, g 27, g 28, g 29, g 30, g 31, g 32, g 33, g 34, g 35, g 36, g 37, g 38, g 39, g 40, g 41, g 42, g 43, g 44, g 45, g 46, g 47, g 48, g 49, g 50, g 51, g 52, g 53, g 54, g 55, g 56, g 57, g 58, g 59, g 60, g 61, g 62, g 63, g 64, g 65, g 66, g 67, g 68, g 69, g 70, g 71, g 72, g 73, g 74, g 75, g 76, g 77, g 78, g 79, g 80, g 81, g 82, g 83, g 84, g 85, g 86, g 87, g 88, g 89, g 90, g 91, g 92, g 93, g 94, g 95, g 96, g 97, g 98, g 99, g 100, g 101, g 102, g 103, g 104, g 105, g 106, g 107, g 108, g 109, g 110, g 111, g 112, g 113, g 114, g 115, g 116, g 117, g 118, g 119, g 120, g 121, g 122, g 123, g 124, g 125, g 126, g 127, g 128, g 129, g 130, g 131, g 132, g 133, g 134, g 135, g 136, g 137, g 138, g 139, g 140, g 141, g 142, g 143, g 144, g 145, g 146, g 147, g 148, g 149, g 150, .ref U p (n - p), .int .i64 ((n - p : Nat) : Int), .int .i64 ((j + 1 : Nat) : Int), g 154, g 155, g 156, g 157, g 158, g 159, g 160, g 161, g 162, g 163, g 164, g 165]) → nx' + 1 < nn → hh (nx + 1) = some (lrow Xv (.ref (nx' + 1) 0 (j + 1))) → hh (nx' + 1) = some ⟨(basP n p uf j).map lr ++ [lraw false (rl n (cpf (uf (p + j))))], false, 1, false⟩ → (∃ id, id ∉ [W, C, U, pp, 0, nx] ∧ (∀ i, i < N2 ∨ i = nx → i ≠ id → hh i = h' i) ∧ ∀ cs a e fz, id < N2 → h' id = some ⟨cs, a, e, fz⟩ → hh id = some ⟨cs, a, e, true⟩) →
          ∃ kk', kk' < kk ∧ ∃ (j : Nat) (Bv : AV), (∃ g : Nat → AV, sl = [g 0, g 1, g 2, g 3, .ptr 0 0, g 5, g 6, g 7, g 8, g 9, g 10, g 11, g 12, g 13, g 14, .ptr (nx + 1) 0, g 16, g 17, g 18, g 19, g 20, g 21, g 22, g 23, g 24, g 25, g 26, g 27, g 28, g 29, g 30, g 31, g 32, g 33, g 34, g 35, g 36, g 37, g 38, g 39, g 40, g 41, g 42, g 43, g 44, g 45, g 46, g 47, g 48, g 49, g 50, g 51, g 52, g 53, g 54, g 55, g 56, g 57, g 58, g 59, g 60, g 61, g 62, g 63, g 64, g 65, g 66, g 67, g 68, g 69, g 70, g 71, g 72, g 73, g 74, g 75, g 76, g 77, g 78, g 79, g 80, g 81, g 82, g 83, g 84, g 85, g 86, g 87, g 88, g 89, g 90, g 91, g 92, g 93, g 94, g 95, g 96, g 97, g 98, g 99, g 100, g 101, g 102, g 103, g 104, g 105, g 106, g 107, g 108, g 109, g 110, g 111, g 112, g 113, g 114, g 115, g 116, g 117, g 118, g 119, g 120, g 121, g 122, g 123, g 124, g 125, g 126, g 127, g 128, g 129, g 130, g 131, g 132, g 133, g 134, g 135, g 136, g 137, g 138, g 139, g 140, g 141, g 142, g 143, g 144, g 145, g 146, g 147, g 148, g 149, g 150, .ref U p (n - p), .int .i64 ((n - p : Nat) : Int), .int .i64 (j : Int), g 154, g 155, g 156, g 157, g 158, g 159, g 160, g 161, g 162, g 163, g 164, g 165]) ∧ j + kk' = n - p ∧ nx + 2 ≤ nn ∧ hh (nx + 1) = some (lrow Xv Bv) ∧ XVal hh n nx uf t p Xv ∧ BVal hh n p (nx + 1) nn uf j Bv ∧ WS hh 1 N2 W C U pp pv A.length n cv uv cf uf ∧ hh 0 = some ⟨[.bool false, .lst true [], .lst true [], .lst true [], .bool false, .lst true []], true, 6, false⟩ := fun hh nn sl c0 c1 c2 c3 ⟨id, c4, c5, c6⟩ => by
        simp only [List.mem_cons, List.not_mem_nil, or_false, not_or] at c4
        obtain ⟨i1, i2, i3, i4, i5, i6⟩ := c4
        refine ⟨kk - 1, by omega, j + 1, _, c0, by omega, by omega, c2, ?_, .inr ⟨by omega, nx' + 1, rfl, by omega, by omega, ?_⟩, ?_, (c5 0 (.inl (by omega)) (fun e => i5 e.symm)).trans h0'⟩
        · rcases hX with e | ⟨e1, e2, fzX, e3⟩
          · exact .inl e
          · exact .inr ⟨e1, e2, fzX, (c5 nx (.inr rfl) (fun e => i6 e.symm)).trans e3⟩
        · rw [c3]
          unfold basP
          rw [List.range_succ, List.map_append, List.map_append]
          rfl
        · by_cases hlt : id < N2
          · exact hS.frz (Nat.le_refl _) id (by simp only [List.mem_cons, List.not_mem_nil, or_false, not_or]; exact ⟨i1, i2, i3, i4⟩) (fun i j1 j2 => c5 i (.inl j1) j2) fun cs a e fz q => c6 cs a e fz hlt q
          · exact hS.mono (Nat.le_refl _) fun i hi => c5 i (.inl hi) (by omega)
      generalize hIQ : (fun (kk : Nat) (σ : St) => ∃ (j : Nat) (Bv : AV), (∃ g : Nat → AV, σ.sl = [g 0, g 1, g 2, g 3, .ptr 0 0, g 5, g 6, g 7, g 8, g 9, g 10, g 11, g 12, g 13, g 14, .ptr (nx + 1) 0, g 16, g 17, g 18, g 19, g 20, g 21, g 22, g 23, g 24, g 25, g 26, g 27, g 28, g 29, g 30, g 31, g 32, g 33, g 34, g 35, g 36, g 37, g 38, g 39, g 40, g 41, g 42, g 43, g 44, g 45, g 46, g 47, g 48, g 49, g 50, g 51, g 52, g 53, g 54, g 55, g 56, g 57, g 58, g 59, g 60, g 61, g 62, g 63, g 64, g 65, g 66, g 67, g 68, g 69, g 70, g 71, g 72, g 73, g 74, g 75, g 76, g 77, g 78, g 79, g 80, g 81, g 82, g 83, g 84, g 85, g 86, g 87, g 88, g 89, g 90, g 91, g 92, g 93, g 94, g 95, g 96, g 97, g 98, g 99, g 100, g 101, g 102, g 103, g 104, g 105, g 106, g 107, g 108, g 109, g 110, g 111, g 112, g 113, g 114, g 115, g 116, g 117, g 118, g 119, g 120, g 121, g 122, g 123, g 124, g 125, g 126, g 127, g 128, g 129, g 130, g 131, g 132, g 133, g 134, g 135, g 136, g 137, g 138, g 139, g 140, g 141, g 142, g 143, g 144, g 145, g 146, g 147, g 148, g 149, g 150, .ref U p (n - p), .int .i64 ((n - p : Nat) : Int), .int .i64 (j : Int), g 154, g 155, g 156, g 157, g 158, g 159, g 160, g 161, g 162, g 163, g 164, g 165]) ∧ j + kk = n - p ∧ nx + 2 ≤ σ.nx ∧ σ.h (nx + 1) = some (lrow Xv Bv) ∧ XVal σ.h n nx uf t p Xv ∧ BVal σ.h n p (nx + 1) σ.nx uf j Bv ∧ WS σ.h 1 N2 W C U pp pv A.length n cv uv cf uf ∧ σ.h 0 = some ⟨[.bool false, .lst true [], .lst true [], .lst true [], .bool false, .lst true []], true, 6, false⟩) = IQ
      have hmem1 : ((2 * 1 + 1000) * 24 ≤ 281474976710656) = True := eq_true (by omega)
      have hmem : ((2 * (j + 1) + 1000) * 24 ≤ 281474976710656) = True := eq_true (by omega)
      clear hQ hX hx2 hS hS0 hv
      generalize rl n (cpf (uf (p + j))) = R' at *
      have hbl : (basP n p uf j).length = j := by unfold basP; simp
      have hbl2 : (j = (basP n p uf j).length) = True := eq_true hbl.symm
      simp (maxSteps := 4000000) only [go_sem, seval, ↓reduceIte, reduceCtorEq, q0, q1, hu, g1, places, fillAll]
      refine W_drawn ?_
      rcases huk with hv1 | ⟨id1, fz1, hv1, hlo1, hlt1, hb1, hh1⟩ <;> rcases hB with ⟨b0, rfl⟩ | ⟨b0, Bid, rfl, b1, b2, b3⟩
      · simp (maxSteps := 4000000) only [go_sem, seval, ↓reduceIte, reduceCtorEq, hrow, hu, g1, c1, a1, a2, a3, a4, a5, a6, a7, a8, a9, a10, purify_lraw, reps, places, fillAll, appendEff, srcCells, flat, hv1, hmem1]
        refine ⟨by refine okR_pairs ?_; (repeat ((with_unfolding_all refine And.intro ?_ ?_); (focus (rw [free_mk] <;> (try simp) <;> (try omega))))); (with_unfolding_all exact True.intro), ?_⟩
        rw [w1, ← hIQ]
        have hM0 : basP n p uf j = [] := List.eq_nil_of_length_eq_zero (by omega)
        rw [hM0] at hfin
        subst b0
        refine hfin _ _ _ ?_ (by dsimp only; omega) ?_ ?_ ⟨nx', ?_, fun i i1 i2 => ?_, fun cs a e fz i1 i2 => ?_⟩
        · refine garb ?_
          rfl
        · simp only [upd_apply, ↓reduceIte, Nat.reduceEqDiff, if_pos, a1, a2, a3, a4, a5, a6, a7, a8, a9, a10]
        · simp only [upd_apply, ↓reduceIte, Nat.reduceEqDiff, if_pos, a1, a2, a3, a4, a5, a6, a7, a8, a9, a10]; rfl
        · simp only [List.mem_cons, List.not_mem_nil, or_false, not_or]
          omega
        · simp only [upd_apply]
          (repeat rw [if_neg (by omega)])
        · omega
      · have z0 : (Bid = nx') = False := eq_false (by omega)
        have z1 : (nx' = Bid) = False := eq_false (by omega)
        have z2 : (Bid = nx' + 1) = False := eq_false (by omega)
        have z3 : (nx' + 1 = Bid) = False := eq_false (by omega)
        have z4 : (Bid = nx + 1) = False := eq_false (by omega)
        have z5 : (nx + 1 = Bid) = False := eq_false (by omega)
        have z6 : (Bid = U) = False := eq_false (by omega)
        have z7 : (U = Bid) = False := eq_false (by omega)
        simp (maxSteps := 4000000) only [go_sem, seval, ↓reduceIte, reduceCtorEq, hrow, hu, g1, c1, a1, a2, a3, a4, a5, a6, a7, a8, a9, a10, purify_lraw, reps, places, fillAll, appendEff, srcCells, flat, hv1, b3, hbl2, hmem, z0, z1, z2, z3, z4, z5, z6, z7]
        refine ⟨by refine okR_pairs ?_; (repeat ((with_unfolding_all refine And.intro ?_ ?_); (focus (rw [free_mk] <;> (try simp) <;> (try omega))))); (with_unfolding_all exact True.intro), ?_⟩
        rw [w1, ← hIQ]
        refine hfin _ _ _ ?_ (by dsimp only; omega) ?_ ?_ ⟨nx', ?_, fun i i1 i2 => ?_, fun cs a e fz i1 i2 => ?_⟩
        · refine garb ?_
          rfl
        · simp only [upd_apply, ↓reduceIte, Nat.reduceEqDiff, if_pos, a1, a2, a3, a4, a5, a6, a7, a8, a9, a10, z0, z1, z2, z3, z4, z5, z6, z7]
        · simp only [upd_apply, ↓reduceIte, Nat.reduceEqDiff, if_pos, a1, a2, a3, a4, a5, a6, a7, a8, a9, a10, z0, z1, z2, z3, z4, z5, z6, z7]
        · simp only [List.mem_cons, List.not_mem_nil, or_false, not_or]
          omega
        · simp only [upd_apply]
          (repeat rw [if_neg (by omega)])
        · omega
      · simp only [List.mem_cons, List.not_mem_nil, or_false, not_or] at hb1
        obtain ⟨hb11, hb12, hb13, hb14⟩ := hb1
        have hp1 : ∀ (m : Nat) (H : Heap) (f : Bool), refP (m + 1) H id1 0 n (some ⟨fr (rl n (uf (p + j))), true, 2, f⟩) = some (.lst false ((rl n (uf (p + j))).map ivr), [id1]) := fun m H f => refP_fr (rl_len _ _)
        have y0 : (id1 = nx') = False := eq_false (by omega)
        have y1 : (nx' = id1) = False := eq_false (by omega)
        have y2 : (id1 = nx' + 1) = False := eq_false (by omega)
        have y3 : (nx' + 1 = id1) = False := eq_false (by omega)
        have y4 : (id1 = nx + 1) = False := eq_false (by omega)
        have y5 : (nx + 1 = id1) = False := eq_false (by omega)
        have y6 : (id1 = U) = False := eq_false (by omega)
        have y7 : (U = id1) = False := eq_false (by omega)
        simp (maxSteps := 4000000) only [go_sem, seval, ↓reduceIte, reduceCtorEq, hrow, hu, g1, c1, a1, a2, a3, a4, a5, a6, a7, a8, a9, a10, purify_lraw, reps, places, fillAll, appendEff, srcCells, flat, hv1, hh1, hp1, y0, y1, y2, y3, y4, y5, y6, y7, hmem1]
        refine ⟨by refine okR_pairs ?_; (repeat ((with_unfolding_all refine And.intro ?_ ?_); (focus (rw [free_mk] <;> (try simp) <;> (try omega))))); (with_unfolding_all exact True.intro), ?_⟩
        rw [w1, ← hIQ]
        have hM0 : basP n p uf j = [] := List.eq_nil_of_length_eq_zero (by omega)
        rw [hM0] at hfin
        subst b0
        refine hfin _ _ _ ?_ (by dsimp only; omega) ?_ ?_ ⟨id1, ?_, fun i i1 i2 => ?_, fun cs a e fz i1 i2 => ?_⟩
        · refine garb ?_
          rfl
        · simp only [upd_apply, ↓reduceIte, Nat.reduceEqDiff, if_pos, a1, a2, a3, a4, a5, a6, a7, a8, a9, a10, y0, y1, y2, y3, y4, y5, y6, y7]
        · simp only [upd_apply, ↓reduceIte, Nat.reduceEqDiff, if_pos, a1, a2, a3, a4, a5, a6, a7, a8, a9, a10, y0, y1, y2, y3, y4, y5, y6, y7]; rfl
        · simp only [List.mem_cons, List.not_mem_nil, or_false, not_or]
          omega
        · simp only [upd_apply]
          (repeat rw [if_neg (by omega)])
        · rw [hh1] at i2
          cases i2
          simp only [upd_apply, ↓reduceIte, Nat.reduceEqDiff, if_pos, a1, a2, a3, a4, a5, a6, a7, a8, a9, a10, y0, y1, y2, y3, y4, y5, y6, y7]
      · simp only [List.mem_cons, List.not_mem_nil, or_false, not_or] at hb1
        obtain ⟨hb11, hb12, hb13, hb14⟩ := hb1
        have hp1 : ∀ (m : Nat) (H : Heap) (f : Bool), refP (m + 1) H id1 0 n (some ⟨fr (rl n (uf (p + j))), true, 2, f⟩) = some (.lst false ((rl n (uf (p + j))).map ivr), [id1]) := fun m H f => refP_fr (rl_len _ _)
        have y0 : (id1 = nx') = False := eq_false (by omega)
        have y1 : (nx' = id1) = False := eq_false (by omega)
        have y2 : (id1 = nx' + 1) = False := eq_false (by omega)
        have y3 : (nx' + 1 = id1) = False := eq_false (by omega)
        have y4 : (id1 = nx + 1) = False := eq_false (by omega)
        have y5 : (nx + 1 = id1) = False := eq_false (by omega)
        have y6 : (id1 = U) = False := eq_false (by omega)
        have y7 : (U = id1) = False := eq_false (by omega)
        have y8 : (id1 = Bid) = False := eq_false (by omega)
        have y9 : (Bid = id1) = False := eq_false (by omega)
        have z0 : (Bid = nx') = False := eq_false (by omega)
        have z1 : (nx' = Bid) = False := eq_false (by omega)
        have z2 : (Bid = nx' + 1) = False := eq_false (by omega)
        have z3 : (nx' + 1 = Bid) = False := eq_false (by omega)
        have z4 : (Bid = nx + 1) = False := eq_false (by omega)
        have z5 : (nx + 1 = Bid) = False := eq_false (by omega)
        have z6 : (Bid = U) = False := eq_false (by omega)
        have z7 : (U = Bid) = False := eq_false (by omega)
        simp (maxSteps := 4000000) only [go_sem, seval, ↓reduceIte, reduceCtorEq, hrow, hu, g1, c1, a1, a2, a3, a4, a5, a6, a7, a8, a9, a10, purify_lraw, reps, places, fillAll, appendEff, srcCells, flat, hv1, hh1, hp1, y0, y1, y2, y3, y4, y5, y6, y7, y8, y9, b3, hbl2, hmem, z0, z1, z2, z3, z4, z5, z6, z7]
        refine ⟨by refine okR_pairs ?_; (repeat ((with_unfolding_all refine And.intro ?_ ?_); (focus (rw [free_mk] <;> (try simp) <;> (try omega))))); (with_unfolding_all exact True.intro), ?_⟩
        rw [w1, ← hIQ]
        refine hfin _ _ _ ?_ (by dsimp only; omega) ?_ ?_ ⟨id1, ?_, fun i i1 i2 => ?_, fun cs a e fz i1 i2 => ?_⟩
        · refine garb ?_
          rfl
        · simp only [upd_apply, ↓reduceIte, Nat.reduceEqDiff, if_pos, a1, a2, a3, a4, a5, a6, a7, a8, a9, a10, y0, y1, y2, y3, y4, y5, y6, y7, y8, y9, z0, z1, z2, z3, z4, z5, z6, z7]
        · simp only [upd_apply, ↓reduceIte, Nat.reduceEqDiff, if_pos, a1, a2, a3, a4, a5, a6, a7, a8, a9, a10, y0, y1, y2, y3, y4, y5, y6, y7, y8, y9, z0, z1, z2, z3, z4, z5, z6, z7]
        · simp only [List.mem_cons, List.not_mem_nil, or_false, not_or]
          omega
        · simp only [upd_apply]
          (repeat rw [if_neg (by omega)])
        · rw [hh1] at i2
          cases i2
          simp only [upd_apply, ↓reduceIte, Nat.reduceEqDiff, if_pos, a1, a2, a3, a4, a5, a6, a7, a8, a9, a10, y0, y1, y2, y3, y4, y5, y6, y7, y8, y9, z0, z1, z2, z3, z4, z5, z6, z7]
  · have z1 : ((r : Int) < (A.length : Int)) = True := eq_true (by omega)
    have z0 : ((0 : Int) ≤ (r : Int)) = True := eq_true (by omega)
    have zb : ((r : Int) < (B.length : Int)) = True := eq_true (by omega)
    have hgb := get_ivr (L := B) (i := r) (by omega)
    obtain ⟨b1, b2, b3, b4, b5⟩ := zv_spec (hB.get (show r < B.length by omega)).1 (hB.get (show r < B.length by omega)).2
    rw [← b4, ← b5] at hgb
    have hmlb : (B.map ivr).length = B.length := List.length_map _
    have ezb : zv (B.getD r default) = zg B r := rfl
    rw [ezb] at hgb
    have w0 : IntKind.i64.wrap ((r + 1 : Nat) : Int) = ((r + 1 : Nat) : Int) := wrap64 (by omega) (by omega)
    have y1 : ((r : Int) < (A.length : Int)) = True := z1
    obtain ⟨QS, hQS⟩ : ∃ QS : Ex → St → Prop, QS = fun ex τ => ex = .exit 2 ∧ (∃ g : Nat → AV, τ.sl = [mraw na A, lraw nb B, g 2, g 3, .ptr 0 0, .ptr W 0, .int .i64 (n : Int), tv, .int .i64 (r : Int), .ptr nx 0, g 10, g 11, g 12, g 13, g 14, g 15, g 16, g 17, g 18, g 19, g 20, g 21, g 22, g 23, g 24, g 25, g 26, g 27, g 28, .int .i64 (A.length : Int), .int .i64 (r : Int), g 31, g 32, g 33, g 34, g 35, g 36, g 37, g 38, g 39, g 40, g 41, g 42, g 43, g 44, g 45, g 46, g 47, g 48, g 49, g 50, g 51, g 52, g 53, g 54, g 55, g 56, g 57, g 58, g 59, g 60, g 61, g 62, g 63, g 64, g 65, g 66, g 67, g 68, g 69, g 70, g 71, g 72, g 73, g 74, g 75, g 76, g 77, g 78, g 79, g 80, g 81, g 82, g 83, g 84, g 85, g 86, g 87, g 88, g 89, g 90, g 91, g 92, g 93, g 94, g 95, g 96, g 97, g 98, g 99, g 100, g 101, g 102, g 103, g 104, g 105, g 106, g 107, g 108, g 109, g 110, g 111, g 112, g 113, g 114, g 115, g 116, g 117, g 118, g 119, g 120, g 121, g 122, g 123, g 124, g 125, g 126, g 127, g 128, g 129, g 130, g 131, g 132, g 133, g 134, g 135, g 136, g 137, g 138, g 139, g 140, g 141, g 142, g 143, g 144, g 145, g 146, g 147, g 148, g 149, g 150, g 151, g 152, g 153, g 154, g 155, g 156, g 157, g 158, g 159, g 160, g 161, g 162, g 163, g 164, g 165]) ∧ nx + 1 ≤ τ.nx ∧ (∃ f : Bool, (f = true → rst cf (zg B) t r p = 0) ∧ τ.h nx = some ⟨[.bool (ng (rst cf (zg B) t r p)), .lst f ((dg (rst cf (zg B) t r p)).map wd)], true, 2, false⟩) ∧ ∀ i, i < nx → τ.h i = h i := ⟨_, rfl⟩
    have hpn : p ≤ n := Nat.le_trans hcnt.1 hf.pl
    apply cutK (Q := QS)
    · intro hrest
      rcases hT with ⟨hp0, rfl⟩ | ⟨hp0, T, fl, rfl, hT1, hT2, hT3⟩
      · simp (maxSteps := 4000000) only [go_sem, seval, ↓reduceIte, reduceCtorEq, z0, z1, zb, hgb, hmlb, reps, places, fillAll]
        refine W_mono (Q := QS) ?_ hrest
        subst hp0
        refine W_loopS (fun kk sl h' nx' => (∃ g : Nat → AV, sl = [mraw na A, lraw nb B, g 2, g 3, .ptr 0 0, .ptr W 0, .int .i64 (n : Int), .lst true [], .int .i64 (r : Int), .ptr nx 0, g 10, g 11, g 12, g 13, g 14, g 15, g 16, g 17, g 18, g 19, g 20, g 21, g 22, g 23, g 24, g 25, g 26, g 27, g 28, .int .i64 (A.length : Int), .int .i64 (r : Int), g 31, g 32, g 33, g 34, g 35, g 36, .lst true [], .int .i64 0, .int .i64 0, g 40, g 41, g 42, g 43, g 44, g 45, g 46, g 47, g 48, g 49, g 50, g 51, g 52, g 53, g 54, g 55, g 56, g 57, g 58, g 59, g 60, g 61, g 62, g 63, g 64, g 65, g 66, g 67, g 68, g 69, g 70, g 71, g 72, g 73, g 74, g 75, g 76, g 77, g 78, g 79, g 80, g 81, g 82, g 83, g 84, g 85, g 86, g 87, g 88, g 89, g 90, g 91, g 92, g 93, g 94, g 95, g 96, g 97, g 98, g 99, g 100, g 101, g 102, g 103, g 104, g 105, g 106, g 107, g 108, g 109, g 110, g 111, g 112, g 113, g 114, g 115, g 116, g 117, g 118, g 119, g 120, g 121, g 122, g 123, g 124, g 125, g 126, g 127, g 128, g 129, g 130, g 131, g 132, g 133, g 134, g 135, g 136, g 137, g 138, g 139, g 140, g 141, g 142, g 143, g 144, g 145, g 146, g 147, g 148, g 149, g 150, g 151, g 152, g 153, g 154, g 155, g 156, g 157, g 158, g 159, g 160, g 161, g 162, g 163, g 164, g 165]) ∧ nx + 1 ≤ nx' ∧ h' nx = some ⟨[.bool (ng (zg B r)), .lst (B.getD r default).2.1 ((dg (zg B r)).map wd)], true, 2, false⟩ ∧ ∀ i, i < nx → h' i = h i) 0 ⟨garb rfl, Nat.le_refl _, ?_, fun i hi => ?_⟩ ?_
        · simp only [upd_apply, ↓reduceIte, Nat.reduceEqDiff, if_pos]
        · exact (upd_ne (by omega)).trans (upd_ne (by omega))
        rintro kk _ h' nx' ⟨⟨g2, rfl⟩, hnx', hr', hfr'⟩
        simp (maxSteps := 4000000) only [go_sem, seval, ↓reduceIte, reduceCtorEq]
        rw [hQS]
        exact ⟨rfl, garb rfl, hnx', ⟨_, hnb r (by omega), hr'⟩, hfr'⟩
      · have y2 : (T = nx) = False := eq_false (by omega)
        simp (maxSteps := 4000000) only [go_sem, seval, ↓reduceIte, reduceCtorEq, z0, z1, zb, hgb, hmlb, hT3, y2, reps, places, fillAll]
        refine W_mono (Q := QS) ?_ hrest
        refine W_loopS (fun kk sl h' nx' => ∃ (k : Nat), (∃ g : Nat → AV, sl = [mraw na A, lraw nb B, g 2, g 3, .ptr 0 0, .ptr W 0, .int .i64 (n : Int), .ref T 0 p, .int .i64 (r : Int), .ptr nx 0, g 10, g 11, g 12, g 13, g 14, g 15, g 16, g 17, g 18, g 19, g 20, g 21, g 22, g 23, g 24, g 25, g 26, g 27, g 28, .int .i64 (A.length : Int), .int .i64 (r : Int), g 31, g 32, g 33, g 34, g 35, g 36, .ref T 0 p, .int .i64 (p : Int), .int .i64 (k : Int), g 40, g 41, g 42, g 43, g 44, g 45, g 46, g 47, g 48, g 49, g 50, g 51, g 52, g 53, g 54, g 55, g 56, g 57, g 58, g 59, g 60, g 61, g 62, g 63, g 64, g 65, g 66, g 67, g 68, g 69, g 70, g 71, g 72, g 73, g 74, g 75, g 76, g 77, g 78, g 79, g 80, g 81, g 82, g 83, g 84, g 85, g 86, g 87, g 88, g 89, g 90, g 91, g 92, g 93, g 94, g 95, g 96, g 97, g 98, g 99, g 100, g 101, g 102, g 103, g 104, g 105, g 106, g 107, g 108, g 109, g 110, g 111, g 112, g 113, g 114, g 115, g 116, g 117, g 118, g 119, g 120, g 121, g 122, g 123, g 124, g 125, g 126, g 127, g 128, g 129, g 130, g 131, g 132, g 133, g 134, g 135, g 136, g 137, g 138, g 139, g 140, g 141, g 142, g 143, g 144, g 145, g 146, g 147, g 148, g 149, g 150, g 151, g 152, g 153, g 154, g 155, g 156, g 157, g 158, g 159, g 160, g 161, g 162, g 163, g 164, g 165]) ∧ k + kk = p ∧ nx + 1 ≤ nx' ∧ (∃ f : Bool, (f = true → rst cf (zg B) t r k = 0) ∧ h' nx = some ⟨[.bool (ng (rst cf (zg B) t r k)), .lst f ((dg (rst cf (zg B) t r k)).map wd)], true, 2, false⟩) ∧ ∀ i, i < nx → h' i = h i) p ⟨0, garb rfl, by omega, Nat.le_refl _, ⟨_, hnb r (by omega), by simp only [upd_apply, ↓reduceIte, Nat.reduceEqDiff, if_pos]; rfl⟩, fun i hi => (upd_ne (by omega)).trans (upd_ne (by omega))⟩ ?_
        rintro kk _ h' nx' ⟨k, ⟨g2, rfl⟩, hkk, hnx', ⟨f, hff, hr'⟩, hfr'⟩
        by_cases hkp : k = p
        · have q1 : ((k : Int) < (p : Int)) = False := eq_false (by omega)
          subst hkp
          simp (maxSteps := 4000000) only [go_sem, seval, ↓reduceIte, reduceCtorEq, q1]
          rw [hQS]
          exact ⟨rfl, garb rfl, hnx', ⟨f, hff, hr'⟩, hfr'⟩
        · have q1 : ((k : Int) < (p : Int)) = True := eq_true (by omega)
          have q0 : ((0 : Int) ≤ (k : Int)) = True := eq_true (by omega)
          have hT4 := (hfr' T hT2).trans hT3
          have hw3 := (hfr' W (by omega)).trans hw2
          have hc3 := (hfr' C (by omega)).trans hc2
          have hgT := fr_get (L := rl p fun k => (fl k, t k)) (i := k) (by rw [rl_len]; omega)
          rw [rl_get (show k < p by omega)] at hgT
          have hgT2 : (k * 2 + 2 ≤ (fr (rl p fun k => (fl k, t k))).length) = True := eq_true (by rw [fr_len, rl_len]; omega)
          have g1 := range_get (f := cv) (show k < n by omega)
          have qn : ((k : Int) < (n : Int)) = True := eq_true (by omega)
          have w1 : IntKind.i64.wrap ((k + 1 : Nat) : Int) = ((k + 1 : Nat) : Int) := wrap64 (by omega) (by omega)
          have hlc := hlc
          have cl1a := cell_lst (f := cf k) (show r < A.length by omega)
          have cl1b := cell_ref (f := cf k) (show r < A.length by omega)
          have hrl1 : ((rl A.length (cf k)).map ivr).length = A.length := by rw [List.length_map, rl_len]
          have hrd1 : (r * 2 + 2 ≤ (fr (rl A.length (cf k))).length) = True := eq_true (by rw [fr_len, rl_len]; omega)
          have hrc1 : ((rl A.length (cf k)).length : Int) = (A.length : Int) := by rw [rl_len]
          have hkl : k < ps.length := by have := hcnt.1; omega
          have f1 := hf.fc k r hkl (by omega)
          obtain ⟨f2, f3⟩ := hf.fp r p (by omega) hrR hcnt k (by omega)
          have f4 := hf.fr r p (by omega) hrR hcnt k (by omega)
          have f5 := hf.fr r p (by omega) hrR hcnt (k + 1) (by omega)
          have er : rst cf (zg B) t r (k + 1) = rst cf (zg B) t r k - (cf k r).2 * t k := rfl
          rw [er] at f5
          have m1 := exMul_ret (cf k r).1 (fl k) (cf k r).2 (t k) f1 f3 f2
          have s1 := exSub_ret f (mz (cf k r).2 (t k)) (rst cf (zg B) t r k) ((cf k r).2 * t k) f4 f2 f5
          have y3 : (nx = T) = False := eq_false (by omega)
          have x1 : (T = nx') = False := eq_false (by omega)
          have x2 : (nx' = T) = False := eq_false (by omega)
          have x3 : (nx = nx') = False := eq_false (by omega)
          have x4 : (nx' = nx) = False := eq_false (by omega)
          have x5 : (W = nx') = False := eq_false (by omega)
          have x6 : (C = nx') = False := eq_false (by omega)
          have x7 : (W = C) = False := eq_false l7
          have hfin : ∀ (hh : Heap) (nn : Nat) (sl : List AV), (∃ g : Nat → AV, sl = [mraw na A, lraw nb B, g 2, g 3, .ptr 0 0, .ptr W 0, .int .i64 (n : Int), .ref T 0 p, .int .i64 (r : Int), .ptr nx 0, g 10, g 11, g 12, g 13, g 14, g 15, g 16, g 17, g 18, g 19, g 20, g 21, g 22, g 23, g 24, g 25, g 26, g 27, g 28, .int .i64 (A.length : Int), .int .i64 (r : Int), g 31, g 32, g 33, g 34, g 35, g 36, .ref T 0 p, .int .i64 (p : Int), .int .i64 ((k + 1 : Nat) : Int), g 40, g 41, g 42, g 43, g 44, g 45, g 46, g 47, g 48, g 49, g 50, g 51, g 52, g 53, g 54, g 55, g 56, g 57, g 58, g 59, g 60, g 61, g 62, g 63, g 64, g 65, g 66, g 67, g 68, g 69, g 70, g 71, g 72, g 73, g 74, g 75, g 76, g 77, g 78, g 79, g 80, g 81, g 82, g 83, g 84, g 85, g 86, g 87, g 88, g 89, g 90, g 91, g 92, g 93, g 94, g 95, g 96, g 97, g 98, g 99, g 100, g 101, g 102, g 103, g 104, g 105, g 106, g 107, g 108, g 109, g 110, g 111, g 112, g 113, g 114, g 115, g 116, g 117, g 118, g 119, g 120, g 121, g 122, g 123, g 124, g 125, g 126, g 127, g 128, g 129, g 130, g 131, g 132, g 133, g 134, g 135, g 136, g 137, g 138, g 139, g 140, g 141, g 142, g 143, g 144, g 145, g 146, g 147, g 148, g 149, g 150, g 151, g 152, g 153, g 154, g 155, g 156, g 157, g 158, g 159, g 160, g 161, g 162, g 163, g 164, g 165]) → nx + 1 ≤ nn → (∃ f : Bool, (f = true → rst cf (zg B) t r k - (cf k r).2 * t k = 0) ∧ hh nx = some ⟨[.bool (ng (rst cf (zg B) t r k - (cf k r).2 * t k)), .lst f ((dg (rst cf (zg B) t r k - (cf k r).2 * t k)).map wd)], true, 2, false⟩) → (∀ i, i < nx → hh i = h i) →
              ∃ kk', kk' < kk ∧ ∃ (k : Nat), (∃ g : Nat → AV, sl = [mraw na A, lraw nb B, g 2, g 3, .ptr 0 0, .ptr W 0, .int .i64 (n : Int), .ref T 0 p, .int .i64 (r : Int), .ptr nx 0, g 10, g 11, g 12, g 13, g 14, g 15, g 16, g 17, g 18, g 19, g 20, g 21, g 22, g 23, g 24, g 25, g 26, g 27, g 28, .int .i64 (A.length : Int), .int .i64 (r : Int), g 31, g 32, g 33, g 34, g 35, g 36, .ref T 0 p, .int .i64 (p : Int), .int .i64 (k : Int), g 40, g 41, g 42, g 43, g 44, g 45, g 46, g 47, g 48, g 49, g 50, g 51, g 52, g 53, g 54, g 55, g 56, g 57, g 58, g 59, g 60, g 61, g 62, g 63, g 64, g 65, g 66, g 67, g 68, g 69, g 70, g 71, g 72, g 73, g 74, g 75, g 76, g 77, g 78, g 79, g 80, g 81, g 82, g 83, g 84, g 85, g 86, g 87, g 88, g 89, g 90, g 91, g 92, g 93, g 94, g 95, g 96, g 97, g 98, g 99, g 100, g 101, g 102, g 103, g 104, g 105, g 106, g 107, g 108, g 109, g 110, g 111, g 112, g 113, g 114, g 115, g 116, g 117, g 118, g 119, g 120, g 121, g 122, g 123, g 124, g 125, g 126, g 127, g 128, g 129, g 130, g 131, g 132, g 133, g 134, g 135, g 136, g 137, g 138, g 139, g 140, g 141, g 142, g 143, g 144, g 145, g 146, g 147, g 148, g 149, g 150, g 151, g 152, g 153, g 154, g 155, g 156, g 157, g 158, g 159, g 160, g 161, g 162, g 163, g 164, g 165]) ∧ k + kk' = p ∧ nx + 1 ≤ nn ∧ (∃ f : Bool, (f = true → rst cf (zg B) t r k = 0) ∧ hh nx = some ⟨[.bool (ng (rst cf (zg B) t r k)), .lst f ((dg (rst cf (zg B) t r k)).map wd)], true, 2, false⟩) ∧ ∀ i, i < nx → hh i = h i := fun hh nn sl c0 c1 c2 c3 => ⟨kk - 1, by omega, k + 1, c0, by omega, c1, c2, c3⟩
          generalize hIQ : (fun (kk : Nat) (σ : St) => ∃ (k : Nat), (∃ g : Nat → AV, σ.sl = [mraw na A, lraw nb B, g 2, g 3, .ptr 0 0, .ptr W 0, .int .i64 (n : Int), .ref T 0 p, .int .i64 (r : Int), .ptr nx 0, g 10, g 11, g 12, g 13, g 14, g 15, g 16, g 17, g 18, g 19, g 20, g 21, g 22, g 23, g 24, g 25, g 26, g 27, g 28, .int .i64 (A.length : Int), .int .i64 (r : Int), g 31, g 32, g 33, g 34, g 35, g 36, .ref T 0 p, .int .i64 (p : Int), .int .i64 (k : Int), g 40, g 41, g 42, g 43, g 44, g 45, g 46, g 47, g 48, g 49, g 50, g 51, g 52, g 53, g 54, g 55, g 56, g 57, g 58, g 59, g 60, g 61, g 62, g 63, g 64, g 65, g 66, g 67, g 68, g 69, g 70, g 71, g 72, g 73, g 74, g 75, g 76, g 77, g 78, g 79, g 80, g 81, g 82, g 83, g 84, g 85, g 86, g 87, g 88, g 89, g 90, g 91, g 92, g 93, g 94, g 95, g 96, g 97, g 98, g 99, g 100, g 101, g 102, g 103, g 104, g 105, g 106, g 107, g 108, g 109, g 110, g 111, g 112, g 113, g 114, g 115, g 116, g 117, g 118, g 119, g 120, g 121, g 122, g 123, g 124, g 125, g 126, g 127, g 128, g 129, g 130, g 131, g 132, g 133, g 134, g 135, g 136, g 137, g 138, g 139, g 140, g 141, g 142, g 143, g 144, g 145, g 146, g 147, g 148, g 149, g 150, g 151, g 152, g 153, g 154, g 155, g 156, g 157, g 158, g 159, g 160, g 161, g 162, g 163, g 164, g 165]) ∧ k + kk = p ∧ nx + 1 ≤ σ.nx ∧ (∃ f : Bool, (f = true → rst cf (zg B) t r k = 0) ∧ σ.h nx = some ⟨[.bool (ng (rst cf (zg B) t r k)), .lst f ((dg (rst cf (zg B) t r k)).map wd)], true, 2, false⟩) ∧ ∀ i, i < nx → σ.h i = h i) = IQ
          have hkk1 := hS.cc k (by omega)
          clear hrest hT1 hf hcnt hS hP hA hB hnil
          generalize rst cf (zg B) t r k - (cf k r).2 * t k = z' at *
          generalize rst cf (zg B) t r k = zz at *
          generalize t k = tk at *
          rcases hkk1 with hv1 | ⟨id1, fz1, hv1, hlo1, hlt1, hb1, hh1⟩
          · simp (maxSteps := 4000000) only [go_sem, seval, ↓reduceIte, reduceCtorEq, z0, z1, q0, q1, qn, y1, hT4, hgT, hgT2, y2, y3, hr', hw3, hc3, g1, hlc, x1, x2, x3, x4, x5, x6, x7, w1, hv1, cl1a, hrl1, hrc1, reps, places, fillAll]
            refine W_drawn ?_
            simp (maxSteps := 4000000) only [go_sem, seval, ↓reduceIte, reduceCtorEq, z0, z1, q0, q1, qn, y1, hT4, hgT, hgT2, y2, y3, hr', hw3, hc3, g1, hlc, x1, x2, x3, x4, x5, x6, x7, m1, s1, w1, hv1, cl1a, hrl1, hrc1, reps, places, fillAll]
            refine ⟨by refine okR_pairs ?_; (repeat ((with_unfolding_all refine And.intro ?_ ?_); (focus (rw [free_mk] <;> (try simp) <;> (try omega))))); (with_unfolding_all exact True.intro), ?_⟩
            rw [← hIQ]
            refine hfin _ _ _ ?_ (by dsimp only; omega) ⟨false, (fun e => by cases e), ?_⟩ fun i hi => ?_
            · refine garb ?_
              rfl
            · simp only [upd_apply, ↓reduceIte, Nat.reduceEqDiff, if_pos]
            · simp only [upd_apply]
              rw [if_neg (by omega), if_neg (by omega), if_neg (by omega)]
              exact hfr' i hi
          · simp only [List.mem_cons, List.not_mem_nil, or_false, not_or] at hb1
            obtain ⟨hb11, hb12, hb13, hb14⟩ := hb1
            have hh12 := (hfr' id1 (by omega)).trans ((hfr id1 hlt1).trans hh1)
            have yx11 : (id1 = nx') = False := eq_false (by omega)
            have yx12 : (nx' = id1) = False := eq_false (by omega)
            have yx13 : (id1 = nx) = False := eq_false (by omega)
            have yx14 : (nx = id1) = False := eq_false (by omega)
            simp (maxSteps := 4000000) only [go_sem, seval, ↓reduceIte, reduceCtorEq, z0, z1, q0, q1, qn, y1, hT4, hgT, hgT2, y2, y3, hr', hw3, hc3, g1, hlc, x1, x2, x3, x4, x5, x6, x7, w1, hv1, hh12, cl1b, hrd1, yx11, yx12, yx13, yx14, reps, places, fillAll]
            refine W_drawn ?_
            simp (maxSteps := 4000000) only [go_sem, seval, ↓reduceIte, reduceCtorEq, z0, z1, q0, q1, qn, y1, hT4, hgT, hgT2, y2, y3, hr', hw3, hc3, g1, hlc, x1, x2, x3, x4, x5, x6, x7, m1, s1, w1, hv1, hh12, cl1b, hrd1, yx11, yx12, yx13, yx14, reps, places, fillAll]
            refine ⟨by refine okR_pairs ?_; (repeat ((with_unfolding_all refine And.intro ?_ ?_); (focus (rw [free_mk] <;> (try simp) <;> (try omega))))); (with_unfolding_all exact True.intro), ?_⟩
            rw [← hIQ]
            refine hfin _ _ _ ?_ (by dsimp only; omega) ⟨false, (fun e => by cases e), ?_⟩ fun i hi => ?_
            · refine garb ?_
              rfl
            · simp only [upd_apply, ↓reduceIte, Nat.reduceEqDiff, if_pos]
            · simp only [upd_apply]
              rw [if_neg (by omega), if_neg (by omega), if_neg (by omega)]
              exact hfr' i hi
    rw [hQS]
    clear hQS QS
    rintro ex ⟨sl, h', nx'⟩ ⟨rfl, ⟨g2, rfl⟩, hnx', ⟨f, hff, hr'⟩, hfr'⟩
    dsimp only at hnx' hr' hfr'
    have w0 : IntKind.i64.wrap ((r + 1 : Nat) : Int) = ((r + 1 : Nat) : Int) := wrap64 (by omega) (by omega)
    have hw4 := (hfr' W (by omega)).trans hw2
    have hc4 := (hfr' C (by omega)).trans hc2
    have u1 : (W = nx) = False := eq_false (by omega)
    have u2 : (nx = W) = False := eq_false (by omega)
    have u3 : (C = nx) = False := eq_false (by omega)
    have u4 : (W = C) = False := eq_false l7
    generalize hrz : rst cf (zg B) t r p = z at *
    have hS4 : WS h' 1 nx' W C U pp pv A.length n cv uv cf uf := hS.mono (by omega) fun i hi => (hfr' i (by omega)).trans (hfr i hi)
    have hP4 : PV h' 1 nx' W C U pv ps pp := hP.mono (by omega) fun i1 _ _ _ => (hfr' pp (by omega)).trans (hfr pp i1)
    have e04 := (hfr' 0 (by omega)).trans e02
    have hrlt : r < A.length := by omega
    have hpln := hf.pl
    have hfz : fits z := by rw [← hrz]; exact hf.fr r p hrlt hrR hcnt p (Nat.le_refl _)
    have hnext : ∀ (hh : Heap) (nn : Nat) (sl : List AV) (p' : Nat) (tv' : AV), (∃ g : Nat → AV, sl = [mraw na A, lraw nb B, g 2, g 3, .ptr 0 0, .ptr W 0, .int .i64 (n : Int), tv', g 8, g 9, g 10, g 11, g 12, g 13, g 14, g 15, g 16, g 17, g 18, g 19, g 20, g 21, g 22, g 23, g 24, g 25, g 26, g 27, g 28, .int .i64 (A.length : Int), .int .i64 ((r + 1 : Nat) : Int), g 31, g 32, g 33, g 34, g 35, g 36, g 37, g 38, g 39, g 40, g 41, g 42, g 43, g 44, g 45, g 46, g 47, g 48, g 49, g 50, g 51, g 52, g 53, g 54, g 55, g 56, g 57, g 58, g 59, g 60, g 61, g 62, g 63, g 64, g 65, g 66, g 67, g 68, g 69, g 70, g 71, g 72, g 73, g 74, g 75, g 76, g 77, g 78, g 79, g 80, g 81, g 82, g 83, g 84, g 85, g 86, g 87, g 88, g 89, g 90, g 91, g 92, g 93, g 94, g 95, g 96, g 97, g 98, g 99, g 100, g 101, g 102, g 103, g 104, g 105, g 106, g 107, g 108, g 109, g 110, g 111, g 112, g 113, g 114, g 115, g 116, g 117, g 118, g 119, g 120, g 121, g 122, g 123, g 124, g 125, g 126, g 127, g 128, g 129, g 130, g 131, g 132, g 133, g 134, g 135, g 136, g 137, g 138, g 139, g 140, g 141, g 142, g 143, g 144, g 145, g 146, g 147, g 148, g 149, g 150, g 151, g 152, g 153, g 154, g 155, g 156, g 157, g 158, g 159, g 160, g 161, g 162, g 163, g 164, g 165]) → r < R → Cnt ps (r + 1) p' → TV hh N2 nn tv' p' t → N2 ≤ nn → (∀ i, i < N2 → hh i = H2 i) →
        ∃ rr', rr' < rr ∧ ∃ (r p : Nat) (tv : AV), (∃ g : Nat → AV, sl = [mraw na A, lraw nb B, g 2, g 3, .ptr 0 0, .ptr W 0, .int .i64 (n : Int), tv, g 8, g 9, g 10, g 11, g 12, g 13, g 14, g 15, g 16, g 17, g 18, g 19, g 20, g 21, g 22, g 23, g 24, g 25, g 26, g 27, g 28, .int .i64 (A.length : Int), .int .i64 (r : Int), g 31, g 32, g 33, g 34, g 35, g 36, g 37, g 38, g 39, g 40, g 41, g 42, g 43, g 44, g 45, g 46, g 47, g 48, g 49, g 50, g 51, g 52, g 53, g 54, g 55, g 56, g 57, g 58, g 59, g 60, g 61, g 62, g 63, g 64, g 65, g 66, g 67, g 68, g 69, g 70, g 71, g 72, g 73, g 74, g 75, g 76, g 77, g 78, g 79, g 80, g 81, g 82, g 83, g 84, g 85, g 86, g 87, g 88, g 89, g 90, g 91, g 92, g 93, g 94, g 95, g 96, g 97, g 98, g 99, g 100, g 101, g 102, g 103, g 104, g 105, g 106, g 107, g 108, g 109, g 110, g 111, g 112, g 113, g 114, g 115, g 116, g 117, g 118, g 119, g 120, g 121, g 122, g 123, g 124, g 125, g 126, g 127, g 128, g 129, g 130, g 131, g 132, g 133, g 134, g 135, g 136, g 137, g 138, g 139, g 140, g 141, g 142, g 143, g 144, g 145, g 146, g 147, g 148, g 149, g 150, g 151, g 152, g 153, g 154, g 155, g 156, g 157, g 158, g 159, g 160, g 161, g 162, g 163, g 164, g 165]) ∧ r + rr' = A.length ∧ r ≤ R ∧ Cnt ps r p ∧ TV hh N2 nn tv p t ∧ N2 ≤ nn ∧ (∀ i, i < N2 → hh i = H2 i) := fun hh nn sl p' tv' c0 cR c1 c2 c3 c4 => ⟨rr - 1, by omega, r + 1, p', tv', c0, by omega, by omega, c1, c2, c3, c4⟩
    generalize hIQ : (fun (rr : Nat) (σ : St) => ∃ (r p : Nat) (tv : AV), (∃ g : Nat → AV, σ.sl = [mraw na A, lraw nb B, g 2, g 3, .ptr 0 0, .ptr W 0, .int .i64 (n : Int), tv, g 8, g 9, g 10, g 11, g 12, g 13, g 14, g 15, g 16, g 17, g 18, g 19, g 20, g 21, g 22, g 23, g 24, g 25, g 26, g 27, g 28, .int .i64 (A.length : Int), .int .i64 (r : Int), g 31, g 32, g 33, g 34, g 35, g 36, g 37, g 38, g 39, g 40, g 41, g 42, g 43, g 44, g 45, g 46, g 47, g 48, g 49, g 50, g 51, g 52, g 53, g 54, g 55, g 56, g 57, g 58, g 59, g 60, g 61, g 62, g 63, g 64, g 65, g 66, g 67, g 68, g 69, g 70, g 71, g 72, g 73, g 74, g 75, g 76, g 77, g 78, g 79, g 80, g 81, g 82, g 83, g 84, g 85, g 86, g 87, g 88, g 89, g 90, g 91, g 92, g 93, g 94, g 95, g 96, g 97, g 98, g 99, g 100, g 101, g 102, g 103, g 104, g 105, g 106, g 107, g 108, g 109, g 110, g 111, g 112, g 113, g 114, g 115, g 116, g 117, g 118, g 119, g 120, g 121, g 122, g 123, g 124, g 125, g 126, g 127, g 128, g 129, g 130, g 131, g 132, g 133, g 134, g 135, g 136, g 137, g 138, g 139, g 140, g 141, g 142, g 143, g 144, g 145, g 146, g 147, g 148, g 149, g 150, g 151, g 152, g 153, g 154, g 155, g 156, g 157, g 158, g 159, g 160, g 161, g 162, g 163, g 164, g 165]) ∧ r + rr = A.length ∧ r ≤ R ∧ Cnt ps r p ∧ TV σ.h N2 σ.nx tv p t ∧ N2 ≤ σ.nx ∧ (∀ i, i < N2 → σ.h i = H2 i)) = IQ
    have hz := exZero f z
    by_cases hpl : p < ps.length
    · have hpg : (ps.map fun (r : Nat) => AV.int .i64 r)[p]? = some (.int .i64 ((ps.getD p 0 : Nat) : Int)) := by
        rw [List.getElem?_map, List.getD_eq_getElem?_getD, List.getElem?_eq_getElem hpl]; rfl
      have zpl : ((p : Int) < (ps.length : Int)) = True := eq_true (by omega)
      have zp0 : ((0 : Int) ≤ (p : Int)) = True := eq_true (by omega)
      have hrr := fun e : r = R => hrea p (e ▸ hrlt) (by rw [← e]; exact hcnt) h' nx' W C U pp pv cv uv hS4 hP4
      have hP0 := hP
      rcases hP with ⟨q1, rfl, q2⟩ | ⟨q1, rfl, q2, q3, q4, q5, q6, q7⟩
      · exact absurd hpl (by rw [q1]; simp)
      have hq4 := (hfr' pp (by omega)).trans ((hfr pp q3).trans q7)
      have hq5 : (pp = nx) = False := eq_false (by omega)
      have hml : (ps.map fun (r : Nat) => AV.int .i64 r).length = ps.length := List.length_map _
      by_cases hpr : ps.getD p 0 = r
      · have zpe : (((ps.getD p 0 : Nat) : Int) = (r : Int)) = True := eq_true (by omega)
        have hc5 : Cnt ps (r + 1) (p + 1) := ⟨hpl, fun k hk => by
          by_cases e : k = p
          · rw [e, hpr]; exact Nat.lt_succ_self r
          · exact Nat.lt_succ_of_lt (hcnt.2.1 k (Nat.lt_of_le_of_ne (Nat.le_of_lt_succ hk) e)), fun k h1 h2 => by have := hf.srt p k h1 h2; omega⟩
        have hpiv := hf.piv p hpl
        rw [hpr] at hpiv
        have hok := fun e : r < R => hf.ok1 r p e hcnt hpl hpr
        have hno : r = R → z % (cf p r).2 ≠ 0 := fun e => by
          subst e
          have := hf.no1 p hrlt hcnt hpl hpr
          rwa [hrz] at this
        rw [hrz] at hok
        obtain ⟨fq, dv, dv1, dv2⟩ := exDiv_ret f (cf p r).1 z (cf p r).2 hfz (hf.fc p r hpl hrlt) hpiv hff
        have g1 := range_get (f := cv) (show p < n by omega)
        have qn : ((p : Int) < (n : Int)) = True := eq_true (by omega)
        have u5 : (C = W) = False := eq_false fun e => l7 e.symm
        have cl1a := cell_lst (f := cf p) (show r < A.length by omega)
        have cl1b := cell_ref (f := cf p) (show r < A.length by omega)
        have hrl1 : ((rl A.length (cf p)).map ivr).length = A.length := by rw [List.length_map, rl_len]
        have hrd1 : (r * 2 + 2 ≤ (fr (rl A.length (cf p))).length) = True := eq_true (by rw [fr_len, rl_len]; omega)
        have hrc1 : ((rl A.length (cf p)).length : Int) = (A.length : Int) := by rw [rl_len]
        have hkk1 := hS.cc p (by omega)
        have xs1 : (nx' + 1 = nx') = False := eq_false (by omega)
        have xs2 : (nx' = nx' + 1) = False := eq_false (by omega)
        have hqt : r < R → z / (cf p r).2 = t p := fun e => by rw [hok e]; exact Int.mul_ediv_cancel_left _ hpiv
        have hl0 : r < R → z % (cf p r).2 = 0 := fun e => by rw [hok e]; exact Int.mul_emod_right _ _
        have hz := exZero fq.2 (z % (cf p r).2)
        obtain ⟨PP, hPP⟩ : ∃ PP : AV → Heap → Nat → Prop, PP = fun v H' _ => ∃ (Y : Nat) (L : List Raw) (fz mn mf : Bool) (mw : List AV), v = lat false (.lst true []) (.lst true []) (.ref Y 0 A.length) mn mf mw ∧ H' 0 = some ⟨[.bool false, .lst true [], .lst true [], .lst true [], .bool false, .lst true []], true, 6, false⟩ ∧ 0 < Y ∧ H' Y = some ⟨fr L, true, 2, fz⟩ ∧ L.length = A.length ∧ AV.pureL mw = true ∧ Q (lat false (.lst true []) (.lst true []) (lraw false L) mn mf mw) := ⟨_, rfl⟩
        have conv : ∀ (h5 : Heap) (n5 : Nat), r = R → N2 ≤ n5 → (∀ i, i < N2 → h5 i = H2 i) → ∃ v H' N', denO E 62 [.ptr W 0, .int .i64 (A.length : Int), .int .i64 (p : Int), .int .i64 (r : Int)] h5 n5 = some (.ret v, H', N') ∧ PP v H' N' := fun h5 n5 e e4 e5 => by
          obtain ⟨Y, L, fz, mn, mf, mw, H, N, k1, k2, k3, k4, k5, k6, k7⟩ := hrea p (e ▸ hrlt) (by rw [← e]; exact hcnt) h5 n5 W C U pp _ cv uv (hS.mono e4 e5) (hP0.mono e4 fun i1 _ _ _ => e5 pp i1)
          rw [← e] at k1
          rw [e5 0 (by omega), e0] at k2
          rw [hPP]
          exact ⟨_, _, _, k1, Y, L, fz, mn, mf, mw, rfl, k2, k3, k4, k5, k6, k7⟩
        rcases hkk1 with hv1 | ⟨id1, fz1, hv1, hlo1, hlt1, hb1, hh1⟩ <;> rcases hT with ⟨hp0, rfl⟩ | ⟨hp0, T, fl, rfl, hT1, hT2, hT3⟩
        · subst hp0
          rw [show ((0 : Nat) : Int) = 0 from rfl] at zpl zp0 qn
          simp (maxSteps := 4000000) only [go_sem, seval, ↓reduceIte, reduceCtorEq, z0, z1, hw4, hc4, hr', u1, u2, u3, u4, u5, w0, g1, hlc, qn, dv, hq4, hq5, hml, hpg, zpl, zp0, zpe, hv1, cl1a, hrl1, hrc1, xs1, xs2, reps, places, fillAll]
          refine W_drawn ?_
          simp (maxSteps := 4000000) only [go_sem, seval, ↓reduceIte, reduceCtorEq, z0, z1, hw4, hc4, hr', u1, u2, u3, u4, u5, w0, g1, hlc, qn, dv, hq4, hq5, hml, hpg, zpl, zp0, zpe, hv1, cl1a, hrl1, hrc1, xs1, xs2, reps, places, fillAll]
          refine ⟨by refine okR_pairs ?_; (repeat ((with_unfolding_all refine And.intro ?_ ?_); (focus (rw [free_mk] <;> (try simp) <;> (try omega))))); (with_unfolding_all exact True.intro), ?_⟩
          by_cases hrR2 : r < R
          · rw [decide_eq_true (hl0 hrR2)] at hz
            have hqt := hqt hrR2
            generalize z / (cf 0 r).2 = q at *
            generalize z % (cf 0 r).2 = le at *
            simp (maxSteps := 4000000) only [go_sem, seval, ↓reduceIte, reduceCtorEq, z0, z1, hw4, hc4, hr', u1, u2, u3, u4, u5, w0, g1, hlc, qn, dv, hq4, hq5, hml, hpg, zpl, zp0, zpe, hv1, cl1a, hrl1, hrc1, xs1, xs2, hz, reps, places, fillAll, appendEff, srcCells]
            rw [← hIQ]
            refine hnext _ _ _ 1 _ ?_ hrR2 hc5 (.inr ⟨Nat.one_pos, nx' + 1 + 1 + 1, (fun _ => fq.1), rfl, ?_, ?_, ?_⟩) ?_ fun i hi => ?_
            · refine garb ?_
              rfl
            · omega
            · dsimp only; omega
            · simp only [upd_apply, ↓reduceIte, Nat.reduceEqDiff, if_pos]
              rw [hqt]
              rfl
            · dsimp only; omega
            · simp only [upd_apply]
              (repeat rw [if_neg (by omega)])
              exact (hfr' i (by omega)).trans (hfr i hi)
          · have hrq : r = R := by omega
            rw [decide_eq_false (hno hrq)] at hz
            rw [show ((0 : Nat) : Int) = 0 from rfl] at conv
            generalize z / (cf 0 r).2 = q at *
            generalize z % (cf 0 r).2 = le at *
            simp (maxSteps := 4000000) only [go_sem, seval, ↓reduceIte, reduceCtorEq, z0, z1, hw4, hc4, hr', u1, u2, u3, u4, u5, w0, g1, hlc, qn, dv, hq4, hq5, hml, hpg, zpl, zp0, zpe, hv1, cl1a, hrl1, hrc1, xs1, xs2, hz, reps, places, fillAll]
            refine openK_val PP (conv _ _ hrq (by omega) fun i hi => ?_) ?_
            · simp only [upd_apply]
              (repeat rw [if_neg (by omega)])
              exact (hfr' i (by omega)).trans (hfr i hi)
            rw [hPP]
            rintro _ H6 N6 ⟨Y, L, fz, mn, mf, mw, rfl, k2, k3, k4, k5, k6, k7⟩
            have hrf := fun (n : Nat) (H : Heap) => refP_fr (n := n) (H := H) (id := Y) (fz := fz) k5
            have hrm := fun (n : Nat) (H : Heap) => purify_lst (n := n) (H := H) (nl := mf) k6
            have hYk : (Y = 0) = False := eq_false (by omega)
            simp (maxSteps := 4000000) only [go_sem, seval, ↓reduceIte, reduceCtorEq, k2, k4, hYk, hrf, hrm]
            exact ⟨_, rfl, k7⟩
        · have hT4 := (hfr' T hT2).trans hT3
          have hT5 : (T = nx) = False := eq_false (by omega)
          simp (maxSteps := 4000000) only [go_sem, seval, ↓reduceIte, reduceCtorEq, z0, z1, hw4, hc4, hr', u1, u2, u3, u4, u5, w0, g1, hlc, qn, dv, hq4, hq5, hml, hpg, zpl, zp0, zpe, hv1, cl1a, hrl1, hrc1, xs1, xs2, hT4, hT5, reps, places, fillAll]
          refine W_drawn ?_
          simp (maxSteps := 4000000) only [go_sem, seval, ↓reduceIte, reduceCtorEq, z0, z1, hw4, hc4, hr', u1, u2, u3, u4, u5, w0, g1, hlc, qn, dv, hq4, hq5, hml, hpg, zpl, zp0, zpe, hv1, cl1a, hrl1, hrc1, xs1, xs2, hT4, hT5, reps, places, fillAll]
          refine ⟨by refine okR_pairs ?_; (repeat ((with_unfolding_all refine And.intro ?_ ?_); (focus (rw [free_mk] <;> (try simp) <;> (try omega))))); (with_unfolding_all exact True.intro), ?_⟩
          have t1 : (T = nx') = False := eq_false (by omega)
          have t2 : (nx' = T) = False := eq_false (by omega)
          have t3 : (T = nx' + 1) = False := eq_false (by omega)
          have t4 : (nx' + 1 = T) = False := eq_false (by omega)
          have t5 : (T = nx' + 1 + 1) = False := eq_false (by omega)
          have t6 : (nx' + 1 + 1 = T) = False := eq_false (by omega)
          by_cases hrR2 : r < R
          · rw [decide_eq_true (hl0 hrR2)] at hz
            have hqt := hqt hrR2
            generalize z / (cf p r).2 = q at *
            generalize z % (cf p r).2 = le at *
            have hmem : ((2 * (p + 1) + 1000) * 32 ≤ 281474976710656) = True := eq_true (by omega)
            have hfl : (fr (rl p fun k => (fl k, t k))).length = p * 2 := by rw [fr_len, rl_len]
            simp (maxSteps := 4000000) only [go_sem, seval, ↓reduceIte, reduceCtorEq, z0, z1, hw4, hc4, hr', u1, u2, u3, u4, u5, w0, g1, hlc, qn, dv, hq4, hq5, hml, hpg, zpl, zp0, zpe, hv1, cl1a, hrl1, hrc1, xs1, xs2, hT4, hT5, t1, t2, t3, t4, t5, t6, hz, hmem, hfl, reps, places, fillAll, appendEff, srcCells]
            rw [← hIQ]
            refine hnext _ _ _ (p + 1) _ ?_ hrR2 hc5 (.inr ⟨Nat.succ_pos _, nx' + 1 + 1 + 1, (fun k => if k = p then fq.1 else fl k), rfl, ?_, ?_, ?_⟩) ?_ fun i hi => ?_
            · refine garb ?_
              rfl
            · omega
            · dsimp only; omega
            · simp only [upd_apply, ↓reduceIte, Nat.reduceEqDiff, if_pos]
              rw [rl_succ, fr_app, hqt]
              have er : rl p (fun k => ((if k = p then fq.1 else fl k), t k)) = rl p fun k => (fl k, t k) := rl_congr fun k hk => by rw [if_neg (by omega)]
              rw [er, if_pos rfl]
              rfl
            · dsimp only; omega
            · simp only [upd_apply]
              (repeat rw [if_neg (by omega)])
              exact (hfr' i (by omega)).trans (hfr i hi)
          · have hrq : r = R := by omega
            rw [decide_eq_false (hno hrq)] at hz
            generalize z / (cf p r).2 = q at *
            generalize z % (cf p r).2 = le at *
            simp (maxSteps := 4000000) only [go_sem, seval, ↓reduceIte, reduceCtorEq, z0, z1, hw4, hc4, hr', u1, u2, u3, u4, u5, w0, g1, hlc, qn, dv, hq4, hq5, hml, hpg, zpl, zp0, zpe, hv1, cl1a, hrl1, hrc1, xs1, xs2, hT4, hT5, t1, t2, t3, t4, t5, t6, hz, reps, places, fillAll]
            refine openK_val PP (conv _ _ hrq (by omega) fun i hi => ?_) ?_
            · simp only [upd_apply]
              (repeat rw [if_neg (by omega)])
              exact (hfr' i (by omega)).trans (hfr i hi)
            rw [hPP]
            rintro _ H6 N6 ⟨Y, L, fz, mn, mf, mw, rfl, k2, k3, k4, k5, k6, k7⟩
            have hrf := fun (n : Nat) (H : Heap) => refP_fr (n := n) (H := H) (id := Y) (fz := fz) k5
            have hrm := fun (n : Nat) (H : Heap) => purify_lst (n := n) (H := H) (nl := mf) k6
            have hYk : (Y = 0) = False := eq_false (by omega)
            simp (maxSteps := 4000000) only [go_sem, seval, ↓reduceIte, reduceCtorEq, k2, k4, hYk, hrf, hrm]
            exact ⟨_, rfl, k7⟩
        · simp only [List.mem_cons, List.not_mem_nil, or_false, not_or] at hb1
          obtain ⟨hb11, hb12, hb13, hb14⟩ := hb1
          have hh12 := (hfr' id1 (by omega)).trans ((hfr id1 hlt1).trans hh1)
          have yx11 : (id1 = nx') = False := eq_false (by omega)
          have yx12 : (nx' = id1) = False := eq_false (by omega)
          have yx13 : (id1 = nx) = False := eq_false (by omega)
          have yx14 : (nx = id1) = False := eq_false (by omega)
          subst hp0
          rw [show ((0 : Nat) : Int) = 0 from rfl] at zpl zp0 qn
          simp (maxSteps := 4000000) only [go_sem, seval, ↓reduceIte, reduceCtorEq, z0, z1, hw4, hc4, hr', u1, u2, u3, u4, u5, w0, g1, hlc, qn, dv, hq4, hq5, hml, hpg, zpl, zp0, zpe, hv1, hh12, cl1b, hrd1, yx11, yx12, yx13, yx14, xs1, xs2, reps, places, fillAll]
          refine W_drawn ?_
          simp (maxSteps := 4000000) only [go_sem, seval, ↓reduceIte, reduceCtorEq, z0, z1, hw4, hc4, hr', u1, u2, u3, u4, u5, w0, g1, hlc, qn, dv, hq4, hq5, hml, hpg, zpl, zp0, zpe, hv1, hh12, cl1b, hrd1, yx11, yx12, yx13, yx14, xs1, xs2, reps, places, fillAll]
          refine ⟨by refine okR_pairs ?_; (repeat ((with_unfolding_all refine And.intro ?_ ?_); (focus (rw [free_mk] <;> (try simp) <;> (try omega))))); (with_unfolding_all exact True.intro), ?_⟩
          by_cases hrR2 : r < R
          · rw [decide_eq_true (hl0 hrR2)] at hz
            have hqt := hqt hrR2
            generalize z / (cf 0 r).2 = q at *
            generalize z % (cf 0 r).2 = le at *
            simp (maxSteps := 4000000) only [go_sem, seval, ↓reduceIte, reduceCtorEq, z0, z1, hw4, hc4, hr', u1, u2, u3, u4, u5, w0, g1, hlc, qn, dv, hq4, hq5, hml, hpg, zpl, zp0, zpe, hv1, hh12, cl1b, hrd1, yx11, yx12, yx13, yx14, xs1, xs2, hz, reps, places, fillAll, appendEff, srcCells]
            rw [← hIQ]
            refine hnext _ _ _ 1 _ ?_ hrR2 hc5 (.inr ⟨Nat.one_pos, nx' + 1 + 1 + 1, (fun _ => fq.1), rfl, ?_, ?_, ?_⟩) ?_ fun i hi => ?_
            · refine garb ?_
              rfl
            · omega
            · dsimp only; omega
            · simp only [upd_apply, ↓reduceIte, Nat.reduceEqDiff, if_pos]
              rw [hqt]
              rfl
            · dsimp only; omega
            · simp only [upd_apply]
              (repeat rw [if_neg (by omega)])
              exact (hfr' i (by omega)).trans (hfr i hi)
          · have hrq : r = R := by omega
            rw [decide_eq_false (hno hrq)] at hz
            rw [show ((0 : Nat) : Int) = 0 from rfl] at conv
            generalize z / (cf 0 r).2 = q at *
            generalize z % (cf 0 r).2 = le at *
            simp (maxSteps := 4000000) only [go_sem, seval, ↓reduceIte, reduceCtorEq, z0, z1, hw4, hc4, hr', u1, u2, u3, u4, u5, w0, g1, hlc, qn, dv, hq4, hq5, hml, hpg, zpl, zp0, zpe, hv1, hh12, cl1b, hrd1, yx11, yx12, yx13, yx14, xs1, xs2, hz, reps, places, fillAll]
            refine openK_val PP (conv _ _ hrq (by omega) fun i hi => ?_) ?_
            · simp only [upd_apply]
              (repeat rw [if_neg (by omega)])
              exact (hfr' i (by omega)).trans (hfr i hi)
            rw [hPP]
            rintro _ H6 N6 ⟨Y, L, fz, mn, mf, mw, rfl, k2, k3, k4, k5, k6, k7⟩
            have hrf := fun (n : Nat) (H : Heap) => refP_fr (n := n) (H := H) (id := Y) (fz := fz) k5
            have hrm := fun (n : Nat) (H : Heap) => purify_lst (n := n) (H := H) (nl := mf) k6
            have hYk : (Y = 0) = False := eq_false (by omega)
            simp (maxSteps := 4000000) only [go_sem, seval, ↓reduceIte, reduceCtorEq, k2, k4, hYk, hrf, hrm]
            exact ⟨_, rfl, k7⟩
        · simp only [List.mem_cons, List.not_mem_nil, or_false, not_or] at hb1
          obtain ⟨hb11, hb12, hb13, hb14⟩ := hb1
          have hh12 := (hfr' id1 (by omega)).trans ((hfr id1 hlt1).trans hh1)
          have yx11 : (id1 = nx') = False := eq_false (by omega)
          have yx12 : (nx' = id1) = False := eq_false (by omega)
          have yx13 : (id1 = nx) = False := eq_false (by omega)
          have yx14 : (nx = id1) = False := eq_false (by omega)
          have hT4 := (hfr' T hT2).trans hT3
          have hT5 : (T = nx) = False := eq_false (by omega)
          simp (maxSteps := 4000000) only [go_sem, seval, ↓reduceIte, reduceCtorEq, z0, z1, hw4, hc4, hr', u1, u2, u3, u4, u5, w0, g1, hlc, qn, dv, hq4, hq5, hml, hpg, zpl, zp0, zpe, hv1, hh12, cl1b, hrd1, yx11, yx12, yx13, yx14, xs1, xs2, hT4, hT5, reps, places, fillAll]
          refine W_drawn ?_
          simp (maxSteps := 4000000) only [go_sem, seval, ↓reduceIte, reduceCtorEq, z0, z1, hw4, hc4, hr', u1, u2, u3, u4, u5, w0, g1, hlc, qn, dv, hq4, hq5, hml, hpg, zpl, zp0, zpe, hv1, hh12, cl1b, hrd1, yx11, yx12, yx13, yx14, xs1, xs2, hT4, hT5, reps, places, fillAll]
          refine ⟨by refine okR_pairs ?_; (repeat ((with_unfolding_all refine And.intro ?_ ?_); (focus (rw [free_mk] <;> (try simp) <;> (try omega))))); (with_unfolding_all exact True.intro), ?_⟩
          have t1 : (T = nx') = False := eq_false (by omega)
          have t2 : (nx' = T) = False := eq_false (by omega)
          have t3 : (T = nx' + 1) = False := eq_false (by omega)
          have t4 : (nx' + 1 = T) = False := eq_false (by omega)
          have t5 : (T = nx' + 1 + 1) = False := eq_false (by omega)
          have t6 : (nx' + 1 + 1 = T) = False := eq_false (by omega)
          by_cases hrR2 : r < R
          · rw [decide_eq_true (hl0 hrR2)] at hz
            have hqt := hqt hrR2
            generalize z / (cf p r).2 = q at *
            generalize z % (cf p r).2 = le at *
            have hmem : ((2 * (p + 1) + 1000) * 32 ≤ 281474976710656) = True := eq_true (by omega)
            have hfl : (fr (rl p fun k => (fl k, t k))).length = p * 2 := by rw [fr_len, rl_len]
            simp (maxSteps := 4000000) only [go_sem, seval, ↓reduceIte, reduceCtorEq, z0, z1, hw4, hc4, hr', u1, u2, u3, u4, u5, w0, g1, hlc, qn, dv, hq4, hq5, hml, hpg, zpl, zp0, zpe, hv1, hh12, cl1b, hrd1, yx11, yx12, yx13, yx14, xs1, xs2, hT4, hT5, t1, t2, t3, t4, t5, t6, hz, hmem, hfl, reps, places, fillAll, appendEff, srcCells]
            rw [← hIQ]
            refine hnext _ _ _ (p + 1) _ ?_ hrR2 hc5 (.inr ⟨Nat.succ_pos _, nx' + 1 + 1 + 1, (fun k => if k = p then fq.1 else fl k), rfl, ?_, ?_, ?_⟩) ?_ fun i hi => ?_
            · refine garb ?_
              rfl
            · omega
            · dsimp only; omega
            · simp only [upd_apply, ↓reduceIte, Nat.reduceEqDiff, if_pos]
              rw [rl_succ, fr_app, hqt]
              have er : rl p (fun k => ((if k = p then fq.1 else fl k), t k)) = rl p fun k => (fl k, t k) := rl_congr fun k hk => by rw [if_neg (by omega)]
              rw [er, if_pos rfl]
              rfl
            · dsimp only; omega
            · simp only [upd_apply]
              (repeat rw [if_neg (by omega)])
              exact (hfr' i (by omega)).trans (hfr i hi)
          · have hrq : r = R := by omega
            rw [decide_eq_false (hno hrq)] at hz
            generalize z / (cf p r).2 = q at *
            generalize z % (cf p r).2 = le at *
            simp (maxSteps := 4000000) only [go_sem, seval, ↓reduceIte, reduceCtorEq, z0, z1, hw4, hc4, hr', u1, u2, u3, u4, u5, w0, g1, hlc, qn, dv, hq4, hq5, hml, hpg, zpl, zp0, zpe, hv1, hh12, cl1b, hrd1, yx11, yx12, yx13, yx14, xs1, xs2, hT4, hT5, t1, t2, t3, t4, t5, t6, hz, reps, places, fillAll]
            refine openK_val PP (conv _ _ hrq (by omega) fun i hi => ?_) ?_
            · simp only [upd_apply]
              (repeat rw [if_neg (by omega)])
              exact (hfr' i (by omega)).trans (hfr i hi)
            rw [hPP]
            rintro _ H6 N6 ⟨Y, L, fz, mn, mf, mw, rfl, k2, k3, k4, k5, k6, k7⟩
            have hrf := fun (n : Nat) (H : Heap) => refP_fr (n := n) (H := H) (id := Y) (fz := fz) k5
            have hrm := fun (n : Nat) (H : Heap) => purify_lst (n := n) (H := H) (nl := mf) k6
            have hYk : (Y = 0) = False := eq_false (by omega)
            simp (maxSteps := 4000000) only [go_sem, seval, ↓reduceIte, reduceCtorEq, k2, k4, hYk, hrf, hrm]
            exact ⟨_, rfl, k7⟩
      · have zpe : (((ps.getD p 0 : Nat) : Int) = (r : Int)) = False := eq_false (by omega)
        have hzz : r < R → z = 0 := fun e => by rw [← hrz]; exact hf.ok2 r p e hcnt fun _ => hpr
        have hnz : r = R → z ≠ 0 := fun e => by rw [← hrz]; subst e; exact hf.no2 p hrlt hcnt fun _ => hpr
        have hc5 : Cnt ps (r + 1) p := ⟨hcnt.1, fun k hk => Nat.lt_succ_of_lt (hcnt.2.1 k hk), fun k h1 h2 => by
          have e1 := hcnt.2.2 p (Nat.le_refl _) hpl
          by_cases e : k = p
          · rw [e]; omega
          · have := hf.srt p k (by omega) h2; omega⟩
        rcases hT with ⟨hp0, rfl⟩ | ⟨hp0, T, fl, rfl, hT1, hT2, hT3⟩
        · subst hp0
          rw [show ((0 : Nat) : Int) = 0 from rfl] at zpl zp0
          by_cases hrR2 : r < R
          · rw [decide_eq_true (hzz hrR2)] at hz
            simp (maxSteps := 4000000) only [go_sem, seval, ↓reduceIte, reduceCtorEq, z0, z1, hw4, hc4, hr', u1, u2, u3, u4, hz, w0, hq4, hq5, hml, hpg, zpl, zp0, zpe]
            rw [← hIQ]
            refine hnext _ _ _ 0 _ ?_ hrR2 hc5 (.inl ⟨rfl, rfl⟩) (by dsimp only; omega) fun i hi => (hfr' i (by omega)).trans (hfr i hi)
            refine garb ?_
            rfl
          · rw [decide_eq_false (hnz (by omega))] at hz
            obtain ⟨Y, L, fz, mn, mf, mw, H, N, k1, k2, k3, k4, k5, k6, k7⟩ := hrr (by omega)
            rw [← (show r = R by omega)] at k1
            rw [e04] at k2
            rw [show ((0 : Nat) : Int) = 0 from rfl] at k1
            have hrf := fun (n : Nat) (H : Heap) => refP_fr (n := n) (H := H) (id := Y) (fz := fz) k5
            have hrm := fun (n : Nat) (H : Heap) => purify_lst (n := n) (H := H) (nl := mf) k6
            have hYk : (Y = 0) = False := eq_false (by omega)
            simp (maxSteps := 4000000) only [go_sem, seval, ↓reduceIte, reduceCtorEq, z0, z1, hw4, hc4, hr', u1, u2, u3, u4, hz, w0, hq4, hq5, hml, hpg, zpl, zp0, zpe, k1, k2, k4, hYk, hrf, hrm, openK_ret]
            exact ⟨_, rfl, k7⟩
        · have hT4 := (hfr' T hT2).trans hT3
          have hT5 : (T = nx) = False := eq_false (by omega)
          by_cases hrR2 : r < R
          · rw [decide_eq_true (hzz hrR2)] at hz
            simp (maxSteps := 4000000) only [go_sem, seval, ↓reduceIte, reduceCtorEq, z0, z1, hw4, hc4, hr', u1, u2, u3, u4, hz, w0, hq4, hq5, hml, hpg, zpl, zp0, zpe, hT4, hT5]
            rw [← hIQ]
            refine hnext _ _ _ p _ ?_ hrR2 hc5 (.inr ⟨hp0, T, fl, rfl, hT1, Nat.lt_of_lt_of_le hT2 (Nat.le_of_succ_le hnx'), hT4⟩) (by dsimp only; omega) fun i hi => (hfr' i (by omega)).trans (hfr i hi)
            refine garb ?_
            rfl
          · rw [decide_eq_false (hnz (by omega))] at hz
            obtain ⟨Y, L, fz, mn, mf, mw, H, N, k1, k2, k3, k4, k5, k6, k7⟩ := hrr (by omega)
            rw [← (show r = R by omega)] at k1
            rw [e04] at k2
            have hrf := fun (n : Nat) (H : Heap) => refP_fr (n := n) (H := H) (id := Y) (fz := fz) k5
            have hrm := fun (n : Nat) (H : Heap) => purify_lst (n := n) (H := H) (nl := mf) k6
            have hYk : (Y = 0) = False := eq_false (by omega)
            simp (maxSteps := 4000000) only [go_sem, seval, ↓reduceIte, reduceCtorEq, z0, z1, hw4, hc4, hr', u1, u2, u3, u4, hz, w0, hq4, hq5, hml, hpg, zpl, zp0, zpe, hT4, hT5, k1, k2, k4, hYk, hrf, hrm, openK_ret]
            exact ⟨_, rfl, k7⟩
    · have hzz : r < R → z = 0 := fun e => by rw [← hrz]; exact hf.ok2 r p e hcnt fun e2 => absurd e2 hpl
      have hnz : r = R → z ≠ 0 := fun e => by rw [← hrz]; subst e; exact hf.no2 p hrlt hcnt fun e2 => absurd e2 hpl
      have hc5 : Cnt ps (r + 1) p := ⟨hcnt.1, fun k hk => Nat.lt_succ_of_lt (hcnt.2.1 k hk), fun k h1 h2 => absurd (Nat.lt_of_le_of_lt h1 h2) hpl⟩
      have zpl : ((p : Int) < (ps.length : Int)) = False := eq_false (by omega)
      have hrr := fun e : r = R => hrea p (e ▸ hrlt) (by rw [← e]; exact hcnt) h' nx' W C U pp pv cv uv hS4 hP4
      rcases hT with ⟨hp0, rfl⟩ | ⟨hp0, T, fl, rfl, hT1, hT2, hT3⟩
      · subst hp0
        have hps0 : ps.length = 0 := by omega
        rcases hP with ⟨q1, rfl, q2⟩ | ⟨q1, rfl, q2, q3, q4, q5, q6, q7⟩
        · by_cases hrR2 : r < R
          · rw [decide_eq_true (hzz hrR2)] at hz
            simp (maxSteps := 4000000) only [go_sem, seval, ↓reduceIte, reduceCtorEq, z0, z1, hw4, hc4, hr', u1, u2, u3, u4, hz, w0]
            rw [← hIQ]
            refine hnext _ _ _ 0 _ ?_ hrR2 hc5 (.inl ⟨rfl, rfl⟩) (by dsimp only; omega) fun i hi => (hfr' i (by omega)).trans (hfr i hi)
            refine garb ?_
            rfl
          · rw [decide_eq_false (hnz (by omega))] at hz
            obtain ⟨Y, L, fz, mn, mf, mw, H, N, k1, k2, k3, k4, k5, k6, k7⟩ := hrr (by omega)
            rw [← (show r = R by omega)] at k1
            rw [e04] at k2
            rw [show ((0 : Nat) : Int) = 0 from rfl] at k1
            have hrf := fun (n : Nat) (H : Heap) => refP_fr (n := n) (H := H) (id := Y) (fz := fz) k5
            have hrm := fun (n : Nat) (H : Heap) => purify_lst (n := n) (H := H) (nl := mf) k6
            have hYk : (Y = 0) = False := eq_false (by omega)
            simp (maxSteps := 4000000) only [go_sem, seval, ↓reduceIte, reduceCtorEq, z0, z1, hw4, hc4, hr', u1, u2, u3, u4, hz, w0, k1, k2, k4, hYk, hrf, hrm, openK_ret]
            exact ⟨_, rfl, k7⟩
        · exact absurd q1 (by omega)
      · rcases hP with ⟨q1, rfl, q2⟩ | ⟨q1, rfl, q2, q3, q4, q5, q6, q7⟩
        · exact absurd hcnt.1 (by rw [q1]; simp; omega)
        · have hT4 := (hfr' T hT2).trans hT3
          have hT5 : (T = nx) = False := eq_false (by omega)
          have hq4 := (hfr' pp (by omega)).trans ((hfr pp q3).trans q7)
          have hq5 : (pp = nx) = False := eq_false (by omega)
          have hml : (ps.map fun (r : Nat) => AV.int .i64 r).length = ps.length := List.length_map _
          by_cases hrR2 : r < R
          · rw [decide_eq_true (hzz hrR2)] at hz
            simp (maxSteps := 4000000) only [go_sem, seval, ↓reduceIte, reduceCtorEq, z0, z1, hw4, hc4, hr', u1, u2, u3, u4, hz, w0, hT4, hT5, zpl, hq4, hq5, hml]
            rw [← hIQ]
            refine hnext _ _ _ p _ ?_ hrR2 hc5 (.inr ⟨hp0, T, fl, rfl, hT1, Nat.lt_of_lt_of_le hT2 (Nat.le_of_succ_le hnx'), hT4⟩) (by dsimp only; omega) fun i hi => (hfr' i (by omega)).trans (hfr i hi)
            refine garb ?_
            rfl
          · rw [decide_eq_false (hnz (by omega))] at hz
            obtain ⟨Y, L, fz, mn, mf, mw, H, N, k1, k2, k3, k4, k5, k6, k7⟩ := hrr (by omega)
            rw [← (show r = R by omega)] at k1
            rw [e04] at k2
            have hrf := fun (n : Nat) (H : Heap) => refP_fr (n := n) (H := H) (id := Y) (fz := fz) k5
            have hrm := fun (n : Nat) (H : Heap) => purify_lst (n := n) (H := H) (nl := mf) k6
            have hYk : (Y = 0) = False := eq_false (by omega)
            simp (maxSteps := 4000000) only [go_sem, seval, ↓reduceIte, reduceCtorEq, z0, z1, hw4, hc4, hr', u1, u2, u3, u4, hz, w0, hT4, hT5, zpl, hq4, hq5, hml, k1, k2, k4, hYk, hrf, hrm, openK_ret]
            exact ⟨_, rfl, k7⟩
end Go.Proofs.Ytnpomadbaanpkaa

/- Systems in steps: columns are changed by Euclid's algorithm, row by row; what stays true, and how large the numbers become. (Own work of this repo.) -/
namespace Lat
open Euc
def sm (f : Nat → Int) : Nat → Int
  | 0 => 0
  | n + 1 => sm f n + f n
theorem sm_congr {f g : Nat → Int} : ∀ n, (∀ i, i < n → f i = g i) → sm f n = sm g n
  | 0, _ => rfl
  | n + 1, h => by show sm f n + f n = sm g n + g n; rw [sm_congr n fun i hi => h i (by omega), h n (by omega)]
theorem sm_zero {f : Nat → Int} (n : Nat) (h : ∀ i, i < n → f i = 0) : sm f n = 0 := by
  induction n with
  | zero => rfl
  | succ n ih => show sm f n + f n = 0; rw [ih fun i hi => h i (by omega), h n (by omega)]; rfl
theorem sm_add (f g : Nat → Int) : ∀ n, sm (fun i => f i + g i) n = sm f n + sm g n
  | 0 => rfl
  | n + 1 => by show sm (fun i => f i + g i) n + (f n + g n) = sm f n + f n + (sm g n + g n); rw [sm_add f g n]; omega
theorem sm_sub (f g : Nat → Int) : ∀ n, sm (fun i => f i - g i) n = sm f n - sm g n
  | 0 => rfl
  | n + 1 => by show sm (fun i => f i - g i) n + (f n - g n) = sm f n + f n - (sm g n + g n); rw [sm_sub f g n]; omega
theorem sm_mul (f : Nat → Int) (x : Int) : ∀ n, sm (fun i => f i * x) n = sm f n * x
  | 0 => by show (0 : Int) = 0 * x; rw [Int.zero_mul]
  | n + 1 => by show sm (fun i => f i * x) n + f n * x = (sm f n + f n) * x; rw [sm_mul f x n, Int.add_mul]
theorem sm_mul_l (f : Nat → Int) (x : Int) (n : Nat) : sm (fun i => x * f i) n = x * sm f n := by
  rw [Int.mul_comm, ← sm_mul]
  exact sm_congr n fun i _ => Int.mul_comm _ _
theorem sm_swap (f : Nat → Nat → Int) (m : Nat) : ∀ n, sm (fun i => sm (f i) m) n = sm (fun j => sm (fun i => f i j) n) m
  | 0 => (sm_zero m fun i _ => rfl).symm
  | n + 1 => by
    show sm (fun i => sm (f i) m) n + sm (f n) m = sm (fun j => sm (fun i => f i j) n + f n j) m
    rw [sm_add, sm_swap f m n]
theorem sm_upd {f : Nat → Int} {p : Nat} {x : Int} : ∀ n, p < n → sm (fun k => if k = p then x else f k) n = sm f n - f p + x
  | 0, h => absurd h (Nat.not_lt_zero _)
  | n + 1, h => by
    show sm (fun k => if k = p then x else f k) n + (if n = p then x else f n) = sm f n + f n - f p + x
    by_cases e : n = p
    · subst e
      rw [if_pos rfl, sm_congr n (g := f) fun i hi => if_neg (by omega)]
      omega
    · rw [if_neg e, sm_upd n (by omega)]
      omega
theorem sm_sx (f : Nat → Int) {p b n : Nat} (hp : p < n) (hb : b < n) : sm (fun k => f (sx p b k)) n = sm f n := by
  have e : sm (fun k => f (sx p b k)) n = sm (fun k => if k = p then f b else (if k = b then f p else f k)) n := sm_congr n fun i _ => by
    unfold sx
    by_cases h1 : i = p
    · rw [if_pos h1, if_pos h1]
    · rw [if_neg h1, if_neg h1]
      by_cases h2 : i = b
      · rw [if_pos h2, if_pos h2]
      · rw [if_neg h2, if_neg h2]
  rw [e, sm_upd (f := fun k => if k = b then f p else f k) n hp, sm_upd n hb]
  by_cases h : p = b
  · rw [if_pos h, h]; omega
  · rw [if_neg h]; omega
theorem sm_delta {g : Nat → Int} {p : Nat} (n : Nat) (hp : p < n) : sm (fun k => if k = p then g k else 0) n = g p := by
  have h := sm_upd (f := fun _ => 0) (p := p) (x := g p) n hp
  rw [sm_zero n fun _ _ => rfl] at h
  rw [sm_congr n (g := fun k => if k = p then g p else 0) fun i _ => by
    by_cases e : i = p
    · rw [if_pos e, if_pos e, e]
    · rw [if_neg e, if_neg e], h]
  omega
theorem sm_abs {f : Nat → Int} {K : Nat} : ∀ n, (∀ i, i < n → (f i).natAbs ≤ K) → (sm f n).natAbs ≤ n * K
  | 0, _ => by show (0 : Int).natAbs ≤ 0 * K; rw [Nat.zero_mul]; exact Nat.le_refl _
  | n + 1, h => by
    have h1 := sm_abs n fun i hi => h i (by omega)
    have h2 := h n (by omega)
    show (sm f n + f n).natAbs ≤ (n + 1) * K
    rw [Nat.succ_mul]
    omega
/-- Bits of the numbers behind so many pivots. -/
def bb (E : Nat) : Nat → Nat
  | 0 => 0
  | s + 1 => 2 * bb E s + (E + 7)
theorem bb_mono (E : Nat) : ∀ {s t : Nat}, s ≤ t → bb E s ≤ bb E t := by
  intro s t h
  induction t with
  | zero => obtain rfl : s = 0 := by omega
            exact Nat.le_refl _
  | succ t ih =>
    by_cases e : s = t + 1
    · rw [e]; exact Nat.le_refl _
    · have := ih (by omega)
      show bb E s ≤ 2 * bb E t + (E + 7)
      omega
theorem pow_le {a b : Nat} (h : a ≤ b) : 2 ^ a ≤ 2 ^ b := Nat.pow_le_pow_right (by decide) h
/-- Lists are changed alike in the columns c of a matrix a and in the unit columns u. -/
structure Com (a : Nat → Nat → Int) (m n : Nat) (c u : Nat → Nat → Int) : Prop where
  lin : ∀ k i, k < n → i < m → c k i = sm (fun j => a i j * u k j) n
  gen : ∀ x : Nat → Int, ∃ t : Nat → Int, ∀ j, j < n → x j = sm (fun k => t k * u k j) n
  ind : ∀ t : Nat → Int, (∀ j, j < n → sm (fun k => t k * u k j) n = 0) → ∀ k, k < n → t k = 0
theorem Com.swap {a : Nat → Nat → Int} {m n : Nat} {c u : Nat → Nat → Int} (h : Com a m n c u) {p b : Nat} (hp : p < n) (hb : b < n) : Com a m n (fun k => c (sx p b k)) (fun k => u (sx p b k)) := by
  have hs : ∀ k, k < n → sx p b k < n := fun k hk => by unfold sx; split; exact hb; split; exact hp; exact hk
  have hss : ∀ k, sx p b (sx p b k) = k := fun k => by unfold sx; split <;> (repeat' split) <;> omega
  refine ⟨fun k i hk hi => h.lin _ i (hs k hk) hi, fun x => ?_, fun t ht k hk => ?_⟩
  · obtain ⟨t, e⟩ := h.gen x
    refine ⟨fun k => t (sx p b k), fun j hj => ?_⟩
    rw [e j hj]
    exact (sm_sx (fun k => t k * u k j) hp hb).symm
  · have e := h.ind (fun k => t (sx p b k)) (fun j hj => by
      have h1 := ht j hj
      rw [← sm_sx (fun k => t k * u (sx p b k) j) hp hb] at h1
      rw [← h1]
      exact sm_congr n fun i _ => by rw [hss]) (sx p b k) (hs k hk)
    rw [hss] at e
    exact e
/-- Multiples of column p subtracted from others. -/
theorem Com.take {a : Nat → Nat → Int} {m n : Nat} {c u : Nat → Nat → Int} (h : Com a m n c u) {p : Nat} (hp : p < n) (q : Nat → Int) (hq : q p = 0) : Com a m n (fun k i => c k i - c p i * q k) (fun k j => u k j - u p j * q k) := by
  have key : ∀ (t : Nat → Int) (j : Nat), sm (fun k => t k * (u k j - u p j * q k)) n = sm (fun k => t k * u k j) n - sm (fun k => t k * q k) n * u p j := fun t j => by
    rw [← sm_mul, ← sm_sub]
    refine sm_congr n fun k _ => ?_
    rw [Int.mul_sub, ← Int.mul_assoc, Int.mul_right_comm (t k) (u p j) (q k)]
  have upd : ∀ (t : Nat → Int) (Q : Int) (j : Nat), sm (fun k => (if k = p then t k + Q else t k) * u k j) n = sm (fun k => t k * u k j) n + Q * u p j := fun t Q j => by
    have e : sm (fun k => (if k = p then t k + Q else t k) * u k j) n = sm (fun k => t k * u k j + if k = p then Q * u k j else 0) n := sm_congr n fun k _ => by
      by_cases e : k = p
      · rw [if_pos e, if_pos e, Int.add_mul]
      · rw [if_neg e, if_neg e]; omega
    rw [e, sm_add, sm_delta (g := fun k => Q * u k j) n hp]
  have updq : ∀ (t : Nat → Int) (Q : Int), sm (fun k => (if k = p then t k + Q else t k) * q k) n = sm (fun k => t k * q k) n := fun t Q => sm_congr n fun k _ => by
    by_cases e : k = p
    · rw [if_pos e, e, hq, Int.mul_zero, Int.mul_zero]
    · rw [if_neg e]
  refine ⟨fun k i hk hi => ?_, fun x => ?_, fun t ht k hk => ?_⟩
  · rw [h.lin k i hk hi, h.lin p i hp hi, ← sm_mul, ← sm_sub]
    refine sm_congr n fun j _ => ?_
    rw [Int.mul_sub, Int.mul_assoc]
  · obtain ⟨t, e⟩ := h.gen x
    refine ⟨fun k => if k = p then t k + sm (fun k => t k * q k) n else t k, fun j hj => ?_⟩
    rw [key, upd, updq, e j hj]
    omega
  · have e := h.ind (fun k => if k = p then t k + -(sm (fun k => t k * q k) n) else t k) (fun j hj => by
      have h1 := ht j hj
      rw [key] at h1
      rw [upd, Int.neg_mul]
      omega)
    have e1 : ∀ l, l < n → l ≠ p → t l = 0 := fun l hl hlp => by
      have := e l hl
      rwa [if_neg hlp] at this
    have e2 : sm (fun k => t k * q k) n = 0 := sm_zero n fun l hl => by
      by_cases e : l = p
      · rw [e, hq, Int.mul_zero]
      · rw [e1 l hl e, Int.zero_mul]
    by_cases hkp : k = p
    · have := e k hk
      rw [if_pos hkp, e2] at this
      omega
    · exact e1 k hk hkp
theorem Com.congr {a : Nat → Nat → Int} {m n : Nat} {c u c' u' : Nat → Nat → Int} (h : Com a m n c u) (hc : ∀ k i, k < n → i < m → c' k i = c k i) (hu : ∀ k j, k < n → j < n → u' k j = u k j) : Com a m n c' u' := by
  refine ⟨fun k i hk hi => ?_, fun x => ?_, fun t ht => ?_⟩
  · rw [hc k i hk hi, h.lin k i hk hi]
    exact sm_congr n fun j hj => by rw [hu k j hk hj]
  · obtain ⟨t, e⟩ := h.gen x
    exact ⟨t, fun j hj => by rw [e j hj]; exact sm_congr n fun k hk => by rw [hu k j hk hj]⟩
  · refine h.ind t fun j hj => ?_
    rw [← ht j hj]
    exact sm_congr n fun k hk => by rw [hu k j hk hj]
/-- Bits of a column, so many pivots being there. -/
def kb (E n s k : Nat) : Nat := bb E (min (min (k + 1) s) (n - 1))
structure Lat (a : Nat → Nat → Int) (m n E r : Nat) (ps : List Nat) (c u : Nat → Nat → Int) : Prop where
  com : Com a m n c u
  pl : ps.length ≤ n
  srt : ∀ i j, i < j → j < ps.length → ps.getD i 0 < ps.getD j 0
  top : ∀ k, k < ps.length → ps.getD k 0 < r
  piv : ∀ k, k < ps.length → c k (ps.getD k 0) ≠ 0
  abv : ∀ k i, k < ps.length → i < ps.getD k 0 → c k i = 0
  zer : ∀ k i, ps.length ≤ k → k < n → i < r → c k i = 0
  bnd : ∀ k j, k < n → j < n → (u k j).natAbs ≤ 2 ^ kb E n ps.length k
/-- Inside of a row. -/
structure Rw (a : Nat → Nat → Int) (m n E r : Nat) (ps : List Nat) (c u : Nat → Nat → Int) : Prop where
  com : Com a m n c u
  pl : ps.length ≤ n
  srt : ∀ i j, i < j → j < ps.length → ps.getD i 0 < ps.getD j 0
  top : ∀ k, k < ps.length → ps.getD k 0 < r
  piv : ∀ k, k < ps.length → c k (ps.getD k 0) ≠ 0
  abv : ∀ k i, k < ps.length → i < ps.getD k 0 → c k i = 0
  zer : ∀ k i, ps.length ≤ k → k < n → i < r → c k i = 0
  bnd : ∀ k j, k < ps.length → j < n → (u k j).natAbs ≤ 2 ^ kb E n ps.length k
  eu : ∀ j, j < n → Eu (2 ^ bb E ps.length) (2 ^ (E + 3 + bb E ps.length)) (fun k => c k r) (fun k => u k j) ps.length n
  last : ps.length + 1 = n → ∀ j, j < n → (u ps.length j).natAbs ≤ 2 ^ bb E ps.length
theorem lin_abs {a : Nat → Nat → Int} {m n E B : Nat} {c u : Nat → Nat → Int} (h : Com a m n c u) (hn : n ≤ 8) (ha : ∀ i j, i < m → j < n → (a i j).natAbs ≤ 2 ^ E) {k : Nat} (hk : k < n) (hu : ∀ j, j < n → (u k j).natAbs ≤ 2 ^ B) {i : Nat} (hi : i < m) : (c k i).natAbs ≤ 2 ^ (E + 3 + B) := by
  rw [h.lin k i hk hi]
  refine Nat.le_trans (sm_abs (K := 2 ^ E * 2 ^ B) n fun j hj => ?_) ?_
  · rw [mul_abs]; exact Nat.mul_le_mul (ha i j hi hj) (hu j hj)
  · rw [← Nat.pow_add, show E + 3 + B = 3 + (E + B) by omega, Nat.pow_add 2 3]
    exact Nat.mul_le_mul_right _ (by omega)
theorem Lat.enter {a : Nat → Nat → Int} {m n E r : Nat} {ps : List Nat} {c u : Nat → Nat → Int} (h : Lat a m n E r ps c u) (hn : n ≤ 8) (hr : r < m) (ha : ∀ i j, i < m → j < n → (a i j).natAbs ≤ 2 ^ E) : Rw a m n E r ps c u := by
  have hk : ∀ k j, ps.length ≤ k → k < n → j < n → (u k j).natAbs ≤ 2 ^ bb E ps.length := fun k j h1 h2 h3 => by
    have := h.bnd k j h2 h3
    unfold kb at this
    rwa [show min (min (k + 1) ps.length) (n - 1) = ps.length by omega] at this
  refine ⟨h.com, h.pl, h.srt, h.top, h.piv, h.abv, h.zer, fun k j h1 h2 => h.bnd k j (by have := h.pl; omega) h2, fun j hj => .inl fun k h1 h2 => ⟨lin_abs h.com hn ha h2 (fun j hj => hk k j h1 h2 hj) hr, hk k j h1 h2 hj⟩, fun e j hj => hk _ j (Nat.le_refl _) (by omega) hj⟩
theorem Rw.none {a : Nat → Nat → Int} {m n E r : Nat} {ps : List Nat} {c u : Nat → Nat → Int} (h : Rw a m n E r ps c u) (h0 : ∀ k, ps.length ≤ k → k < n → c k r = 0) : Lat a m n E (r + 1) ps c u := by
  refine ⟨h.com, h.pl, h.srt, fun k hk => Nat.lt_succ_of_lt (h.top k hk), h.piv, h.abv, fun k i h1 h2 h3 => ?_, fun k j h1 h2 => ?_⟩
  · by_cases e : i = r
    · rw [e]; exact h0 k h1 h2
    · exact h.zer k i h1 h2 (by omega)
  · by_cases hks : k < ps.length
    · exact h.bnd k j hks h2
    · have hz := h0 ps.length (Nat.le_refl _) (by omega)
      unfold kb
      rw [show min (min (k + 1) ps.length) (n - 1) = ps.length by omega]
      rcases h.eu j h2 with e | e | e
      · exact (e k (by omega) h1).2
      · exact absurd hz e.pv
      · have := e.pv
        omega
theorem sx_lt {p b k : Nat} (hp : p ≤ b) (hk : k < p) : sx p b k = k := by
  unfold sx; rw [if_neg (by omega), if_neg (by omega)]
theorem Rw.one {a : Nat → Nat → Int} {m n E r : Nat} {ps : List Nat} {c u : Nat → Nat → Int} (h : Rw a m n E r ps c u) {b : Nat} (hb : ps.length ≤ b) (hbn : b < n) (h0 : c b r ≠ 0) (hz : ∀ k, ps.length ≤ k → k < n → k ≠ b → c k r = 0) :
    Lat a m n E (r + 1) (ps ++ [r]) (fun k => c (sx ps.length b k)) (fun k => u (sx ps.length b k)) := by
  have hl : (ps ++ [r]).length = ps.length + 1 := by simp
  have gl : ∀ k, k < ps.length → (ps ++ [r]).getD k 0 = ps.getD k 0 := fun k hk => by
    rw [List.getD_eq_getElem?_getD, List.getD_eq_getElem?_getD, List.getElem?_append_left hk]
  have gr : (ps ++ [r]).getD ps.length 0 = r := by
    rw [List.getD_eq_getElem?_getD, List.getElem?_append_right (Nat.le_refl _), Nat.sub_self]; rfl
  refine ⟨h.com.swap (by omega) hbn, by rw [hl]; omega, fun i j h1 h2 => ?_, fun k hk => ?_, fun k hk => ?_, fun k i hk hi => ?_, fun k i h1 h2 h3 => ?_, fun k j h1 h2 => ?_⟩
  · rw [hl] at h2
    by_cases e : j = ps.length
    · rw [e, gr, gl i (by omega)]; exact h.top i (by omega)
    · rw [gl i (by omega), gl j (by omega)]; exact h.srt i j h1 (by omega)
  · rw [hl] at hk
    by_cases e : k = ps.length
    · rw [e, gr]; exact Nat.lt_succ_self r
    · rw [gl k (by omega)]; exact Nat.lt_succ_of_lt (h.top k (by omega))
  · rw [hl] at hk
    by_cases e : k = ps.length
    · rw [e, gr, sx_p]; exact h0
    · rw [gl k (by omega), sx_lt hb (by omega)]; exact h.piv k (by omega)
  · rw [hl] at hk
    by_cases e : k = ps.length
    · rw [e, gr] at hi
      rw [e, sx_p]
      exact h.zer b i hb hbn hi
    · rw [gl k (by omega)] at hi
      rw [sx_lt hb (by omega)]
      exact h.abv k i (by omega) hi
  · rw [hl] at h1
    obtain ⟨g1, g2⟩ := sx_in hb hbn (show ps.length ≤ k by omega) h2
    have g3 := sx_ne (p := ps.length) (b := b) (show k ≠ ps.length by omega)
    by_cases e : i = r
    · rw [e]; exact hz _ g1 g2 g3
    · exact h.zer _ i g1 g2 (by omega)
  · rw [hl]
    by_cases hks : k < ps.length
    · rw [sx_lt hb hks]
      have := h.bnd k j hks h2
      unfold kb at this ⊢
      rw [show min (min (k + 1) (ps.length + 1)) (n - 1) = min (min (k + 1) ps.length) (n - 1) by omega]
      exact this
    · obtain ⟨g1, g2⟩ := sx_in hb hbn (show ps.length ≤ k by omega) h1
      by_cases hlast : ps.length + 1 = n
      · have hs : sx ps.length b k = ps.length := by omega
        rw [hs]
        unfold kb
        rw [show min (min (k + 1) (ps.length + 1)) (n - 1) = ps.length by omega]
        exact h.last hlast j h2
      · unfold kb
        rw [show min (min (k + 1) (ps.length + 1)) (n - 1) = ps.length + 1 by omega]
        have e := ((h.eu j h2).bound Nat.one_le_two_pow _ g1 g2).2
        refine Nat.le_trans e ?_
        show 9 * (2 ^ bb E ps.length * 2 ^ (E + 3 + bb E ps.length)) ≤ 2 ^ (2 * bb E ps.length + (E + 7))
        rw [← Nat.pow_add, show 2 * bb E ps.length + (E + 7) = 4 + (bb E ps.length + (E + 3 + bb E ps.length)) by omega, Nat.pow_add 2 4]
        exact Nat.mul_le_mul_right _ (by decide)
theorem Eu_congr {U C : Nat} {c t c' t' : Nat → Int} {p n : Nat} (h : Eu U C c t p n) (hpn : p < n) (hc : ∀ k, p ≤ k → k < n → c' k = c k) (ht : ∀ k, p ≤ k → k < n → t' k = t k) : Eu U C c' t' p n := by
  have cp := hc p (Nat.le_refl _) hpn
  have tp := ht p (Nat.le_refl _) hpn
  have hm : ∀ k, p ≤ k → k < n → mu c' t' p k = mu c t p k := fun k h1 h2 => by unfold mu; rw [cp, tp, hc k h1 h2, ht k h1 h2]
  rcases h with h | h | h
  · exact .inl fun k h1 h2 => by rw [hc k h1 h2, ht k h1 h2]; exact h k h1 h2
  · refine .inr (.inl ⟨by rw [cp]; exact h.pv, by rw [cp]; exact h.pc, by rw [tp]; exact h.pt, fun k h1 h2 => by rw [cp, hc k (by omega) h2]; exact h.lo k h1 h2, fun k h1 h2 => by rw [hm k (by omega) h2]; exact h.mm k h1 h2⟩)
  · refine .inr (.inr ⟨by rw [cp]; exact h.pv, by rw [cp]; exact h.pc, by rw [tp, cp]; exact h.pt, fun k h1 h2 => by rw [cp, hc k (by omega) h2]; exact h.lo k h1 h2, fun k l h1 h2 h3 h4 h5 h6 => ?_, fun k h1 h2 h3 => ?_⟩)
    · rw [hm k h1 h2, hm l h3 h4]
      rw [hc k h1 h2] at h5
      rw [hc l h3 h4] at h6
      exact h.mm k l h1 h2 h3 h4 h5 h6
    · rw [hc k (by omega) h2] at h3
      rw [ht k (by omega) h2]
      exact h.z k h1 h2 h3
/-- The quotients of a round. -/
def rq (c : Nat → Nat → Int) (p r n k : Nat) : Int := if p < k ∧ k < n ∧ c k r ≠ 0 then c k r / c p r else 0
theorem rq_zero (c : Nat → Nat → Int) (p r n : Nat) : rq c p r n p = 0 := if_neg (by omega)
/-- A round of a row. -/
theorem Rw.round {a : Nat → Nat → Int} {m n E r : Nat} {ps : List Nat} {c u : Nat → Nat → Int} (h : Rw a m n E r ps c u) (hr : r < m) {b : Nat} (hb : ps.length ≤ b) (hbn : b < n) (h0 : c b r ≠ 0)
    (hmin : ∀ k, ps.length ≤ k → k < n → c k r ≠ 0 → (c b r).natAbs ≤ (c k r).natAbs) (hmore : ∃ k, ps.length ≤ k ∧ k < n ∧ k ≠ b ∧ c k r ≠ 0) :
    Rw a m n E r ps (fun k i => c (sx ps.length b k) i - c (sx ps.length b ps.length) i * rq (fun k => c (sx ps.length b k)) ps.length r n k) (fun k j => u (sx ps.length b k) j - u (sx ps.length b ps.length) j * rq (fun k => c (sx ps.length b k)) ps.length r n k) := by
  have hpn : ps.length < n := by omega
  have hq0 : ∀ k, k < ps.length → rq (fun k => c (sx ps.length b k)) ps.length r n k = 0 := fun k hk => if_neg (by omega)
  have hlow : ∀ k i, k < ps.length → c (sx ps.length b k) i - c (sx ps.length b ps.length) i * rq (fun k => c (sx ps.length b k)) ps.length r n k = c k i := fun k i hk => by
    rw [hq0 k hk, sx_lt hb hk, Int.mul_zero, Int.sub_zero]
  have hlowu : ∀ k i, k < ps.length → u (sx ps.length b k) i - u (sx ps.length b ps.length) i * rq (fun k => c (sx ps.length b k)) ps.length r n k = u k i := fun k i hk => by
    rw [hq0 k hk, sx_lt hb hk, Int.mul_zero, Int.sub_zero]
  refine ⟨(h.com.swap hpn hbn).take hpn _ (rq_zero _ _ _ _), h.pl, h.srt, h.top, fun k hk => ?_, fun k i hk hi => ?_, fun k i h1 h2 h3 => ?_, fun k j h1 h2 => ?_, fun j hj => ?_, fun e => ?_⟩
  · rw [hlow k _ hk]; exact h.piv k hk
  · rw [hlow k _ hk]; exact h.abv k i hk hi
  · obtain ⟨g1, g2⟩ := sx_in hb hbn h1 h2
    rw [h.zer _ i g1 g2 h3, sx_p, h.zer b i hb hbn h3, Int.zero_mul]; rfl
  · rw [hlowu k _ h1]; exact h.bnd k j h1 h2
  · have e := (h.eu j hj).step hb hbn h0 hmin hmore
    refine Eu_congr e hpn (fun k h1 h2 => ?_) fun k h1 h2 => ?_
    · unfold rc sw rq
      dsimp only
      by_cases e1 : k = ps.length
      · rw [if_pos e1, if_neg (by omega), e1, Int.mul_zero, Int.sub_zero]
      · rw [if_neg e1]
        by_cases e2 : c (sx ps.length b k) r = 0
        · rw [if_neg (by simp [e2]), e2, Int.zero_emod, Int.mul_zero]; rfl
        · rw [if_pos ⟨by omega, h2, e2⟩, Int.emod_def]
    · unfold rt sw rq
      dsimp only
      by_cases e1 : k = ps.length
      · rw [if_pos e1, if_neg (by omega), e1, Int.mul_zero, Int.sub_zero]
      · rw [if_neg e1]
        by_cases e2 : c (sx ps.length b k) r = 0
        · rw [if_neg (by simp [e2]), e2, Int.zero_ediv, Int.zero_mul, Int.mul_zero]
        · rw [if_pos ⟨by omega, h2, e2⟩, Int.mul_comm (u (sx ps.length b ps.length) j)]
  · exfalso
    obtain ⟨k, k1, k2, k3, _⟩ := hmore
    omega
end Lat

/- What a row of a matrix in steps needs: that the numbers fit, and that it comes to an end. (Own work of this repo.) -/
namespace Go.Proofs.Ytnpomadbaanpkaa
open Vm
open Lat (sm sm_congr sm_zero sm_delta sm_sx bb bb_mono Com Rw Lat lin_abs sx_lt rq)
set_option maxRecDepth 10000

def v2 (f : Nat → Nat → Bool × Int) (k i : Nat) : Int := (f k i).2
theorem fits_bits {z : Int} {b : Nat} (h : z.natAbs ≤ 2 ^ b) (hb : b < 131072) : fits z := len_bits h (by omega)
theorem Rw_low {a : Nat → Nat → Int} {m n E r : Nat} {ps : List Nat} {c u : Nat → Nat → Int} (h : Rw a m n E r ps c u) (hn : n ≤ 8) (ha : ∀ i j, i < m → j < n → (a i j).natAbs ≤ 2 ^ E) {k i : Nat} (hk : k < ps.length) (hi : i < m) : (c k i).natAbs ≤ 2 ^ (E + 3 + bb E (n - 1)) := by
  have hpl := h.pl
  refine lin_abs h.com hn ha (show k < n by omega) (fun j hj => Nat.le_trans (h.bnd k j hk hj) (Lat.pow_le ?_)) hi
  unfold Lat.kb
  exact bb_mono E (by omega)
theorem Rw_high {a : Nat → Nat → Int} {m n E r : Nat} {ps : List Nat} {c u : Nat → Nat → Int} (h : Rw a m n E r ps c u) {k : Nat} (hk : ps.length ≤ k) (hkn : k < n) : (c k r).natAbs ≤ 2 ^ (E + 3 + bb E (n - 1)) := by
  have e := ((h.eu 0 (by omega)).bound Nat.one_le_two_pow k hk hkn).1
  exact Nat.le_trans e (Lat.pow_le (by have := bb_mono E (show ps.length ≤ n - 1 by omega); omega))
theorem Rw_unit {a : Nat → Nat → Int} {m n E r : Nat} {ps : List Nat} {c u : Nat → Nat → Int} (h : Rw a m n E r ps c u) {k j : Nat} (hk : ps.length ≤ k) (hkn : k < n) (hj : j < n) : (u k j).natAbs ≤ 2 ^ bb E (ps.length + 1) := by
  have e := ((h.eu j hj).bound Nat.one_le_two_pow k hk hkn).2
  refine Nat.le_trans e ?_
  show 9 * (2 ^ bb E ps.length * 2 ^ (E + 3 + bb E ps.length)) ≤ 2 ^ (2 * bb E ps.length + (E + 7))
  rw [← Nat.pow_add, show 2 * bb E ps.length + (E + 7) = 4 + (bb E ps.length + (E + 3 + bb E ps.length)) by omega, Nat.pow_add 2 4]
  exact Nat.mul_le_mul_right _ (by decide)
theorem Rw_col {a : Nat → Nat → Int} {m n E r : Nat} {ps : List Nat} {c u : Nat → Nat → Int} (h : Rw a m n E r ps c u) (hn : n ≤ 8) (ha : ∀ i j, i < m → j < n → (a i j).natAbs ≤ 2 ^ E) {k i : Nat} (hk : ps.length ≤ k) (hkn : k < n) (hi : i < m) : (c k i).natAbs ≤ 2 ^ (E + 3 + bb E (ps.length + 1)) :=
  lin_abs h.com hn ha hkn (fun j hj => Rw_unit h hk hkn hj) hi
/-- f, g, g q, f - g q are small. -/
theorem sub_small {f g q : Int} {B : Nat} (hf : f.natAbs ≤ 2 ^ B) (hd : (f - g * q).natAbs ≤ 2 ^ B) : (g * q).natAbs ≤ 2 ^ (B + 1) := by
  rw [Nat.pow_succ]
  omega
/-- How far a row is from its end. -/
def mus (c : Nat → Int) (p n : Nat) : Nat := (sm (fun k => if p ≤ k then ((c k).natAbs : Int) else 0) n).toNat
theorem sm_nonneg {f : Nat → Int} : ∀ n, (∀ i, i < n → 0 ≤ f i) → 0 ≤ sm f n
  | 0, _ => Int.le_refl _
  | n + 1, h => by
    have h1 := sm_nonneg n fun i hi => h i (by omega)
    have h2 := h n (by omega)
    show 0 ≤ sm f n + f n
    omega
theorem sm_le {f g : Nat → Int} : ∀ n, (∀ i, i < n → f i ≤ g i) → sm f n ≤ sm g n
  | 0, _ => Int.le_refl _
  | n + 1, h => by
    have h1 := sm_le n fun i hi => h i (by omega)
    have h2 := h n (by omega)
    show sm f n + f n ≤ sm g n + g n
    omega
theorem sm_lt {f g : Nat → Int} : ∀ n, (∀ i, i < n → f i ≤ g i) → (∃ i, i < n ∧ f i < g i) → sm f n < sm g n
  | 0, _, h => by obtain ⟨i, hi, _⟩ := h; omega
  | n + 1, h, h2 => by
    obtain ⟨i, hi, hlt⟩ := h2
    show sm f n + f n < sm g n + g n
    by_cases e : i = n
    · rw [e] at hlt
      have := sm_le n fun i hi => h i (show i < n + 1 by omega)
      omega
    · have := sm_lt n (fun i hi => h i (show i < n + 1 by omega)) ⟨i, by omega, hlt⟩
      have := h n (by omega)
      omega
theorem mus_round {c : Nat → Nat → Int} {p r n b : Nat} (hb : p ≤ b) (hbn : b < n) (h0 : c b r ≠ 0) (hmin : ∀ k, p ≤ k → k < n → c k r ≠ 0 → (c b r).natAbs ≤ (c k r).natAbs) (hmore : ∃ k, p ≤ k ∧ k < n ∧ k ≠ b ∧ c k r ≠ 0) :
    mus (fun k => c (Euc.sx p b k) r - c (Euc.sx p b p) r * rq (fun k => c (Euc.sx p b k)) p r n k) p n < mus (fun k => c k r) p n := by
  have hpn : p < n := by omega
  have e : sm (fun k => if p ≤ k then ((c k r).natAbs : Int) else 0) n = sm (fun k => if p ≤ k then ((c (Euc.sx p b k) r).natAbs : Int) else 0) n := by
    rw [← sm_sx (fun k => if p ≤ k then ((c k r).natAbs : Int) else 0) hpn hbn]
    refine sm_congr n fun k hk => ?_
    by_cases h : p ≤ k
    · rw [if_pos h, if_pos (Euc.sx_in hb hbn h hk).1]
    · rw [if_neg h, sx_lt hb (by omega), if_neg h]
  have step : ∀ k, p ≤ k → k < n → k ≠ p → c (Euc.sx p b k) r ≠ 0 → (c (Euc.sx p b k) r - c (Euc.sx p b p) r * rq (fun k => c (Euc.sx p b k)) p r n k).natAbs < (c (Euc.sx p b k) r).natAbs := fun k h1 h2 h3 h4 => by
    unfold rq
    rw [if_pos ⟨by omega, h2, h4⟩, ← Int.emod_def, Euc.sx_p]
    obtain ⟨g1, g2⟩ := Euc.sx_in hb hbn h1 h2
    have g3 := hmin _ g1 g2 h4
    have g4 := Int.emod_lt (c (Euc.sx p b k) r) h0
    have g5 := Int.emod_nonneg (c (Euc.sx p b k) r) h0
    omega
  have same : ∀ k, (k = p ∨ c (Euc.sx p b k) r = 0) → (c (Euc.sx p b k) r - c (Euc.sx p b p) r * rq (fun k => c (Euc.sx p b k)) p r n k) = c (Euc.sx p b k) r := fun k h => by
    unfold rq
    rw [if_neg (by rintro ⟨h1, h2, h3⟩; rcases h with h | h; omega; exact h3 h), Int.mul_zero, Int.sub_zero]
  unfold mus
  rw [e]
  dsimp only
  have hlt := sm_lt (f := fun k => if p ≤ k then ((c (Euc.sx p b k) r - c (Euc.sx p b p) r * rq (fun k => c (Euc.sx p b k)) p r n k).natAbs : Int) else 0) (g := fun k => if p ≤ k then ((c (Euc.sx p b k) r).natAbs : Int) else 0) n (fun k hk => by
    by_cases h : p ≤ k
    · rw [if_pos h, if_pos h]
      by_cases h2 : k = p ∨ c (Euc.sx p b k) r = 0
      · rw [same k h2]; exact Int.le_refl _
      · have := step k h hk (fun e => h2 (.inl e)) (fun e => h2 (.inr e)); omega
    · rw [if_neg h, if_neg h]; exact Int.le_refl _) (by
    obtain ⟨k0, a1, a2, a3, a4⟩ := hmore
    have hss : Euc.sx p b (Euc.sx p b k0) = k0 := by unfold Euc.sx; split <;> (repeat' split) <;> omega
    obtain ⟨g1, g2⟩ := Euc.sx_in hb hbn a1 a2
    have hne : Euc.sx p b k0 ≠ p := fun e => by rw [e, Euc.sx_p] at hss; exact a3 hss.symm
    refine ⟨Euc.sx p b k0, g2, ?_⟩
    rw [if_pos g1, if_pos g1]
    have := step _ g1 g2 hne (by rw [hss]; exact a4)
    omega)
  have hnn := sm_nonneg (f := fun k => if p ≤ k then ((c (Euc.sx p b k) r - c (Euc.sx p b p) r * rq (fun k => c (Euc.sx p b k)) p r n k).natAbs : Int) else 0) n fun k _ => by
    by_cases h : p ≤ k
    · rw [if_pos h]; omega
    · rw [if_neg h]; omega
  omega
theorem v2_rdf (p r n : Nat) (cf f : Nat → Nat → Bool × Int) : v2 (rdf p r cf f n) = fun k i => v2 f k i - v2 f p i * rq (v2 cf) p r n k := by
  funext k i
  unfold v2 rdf rq
  by_cases h : p < k ∧ k < n ∧ (cf k r).2 ≠ 0
  · rw [if_pos h, if_pos h]; rfl
  · rw [if_neg h, if_neg h, Int.mul_zero, Int.sub_zero]
/-- What is known of the columns behind r rows. -/
abbrev JL (a : Nat → Nat → Int) (m n E : Nat) (r : Nat) (ps : List Nat) (cf uf : Nat → Nat → Bool × Int) : Prop := Lat a m n E r ps (v2 cf) (v2 uf)
theorem rowHyp (a : Nat → Nat → Int) (m n E : Nat) (hn : n ≤ 8) (ha : ∀ i j, i < m → j < n → (a i j).natAbs ≤ 2 ^ E) (hE : E + 4 + bb E (n - 1) < 131072) : RowHyp m n (JL a m n E) := by
  intro r ps c1 u1 hr hJ
  refine ⟨hJ.pl, fun cf uf => Rw a m n E r ps (v2 cf) (v2 uf), fun cf => mus (fun k => v2 cf k r) ps.length n, hJ.enter hn hr ha, fun cf uf hI k hk => ?_, fun cf uf hI h0 => hI.none h0, fun cf uf b hI h1 h2 h3 h4 => hI.one h1 h2 h3 h4, fun cf uf b hI h1 h2 h3 h4 h5 => ?_⟩
  · by_cases hks : k < ps.length
    · exact fits_bits (Rw_low hI hn ha hks hr) (by omega)
    · exact fits_bits (Rw_high hI (by omega) hk) (by omega)
  · have hrd := hI.round hr h1 h2 h3 h4 h5
    have hs1 : ps.length + 1 ≤ n - 1 := by obtain ⟨k, k1, k2, k3, _⟩ := h5; omega
    have hmono := bb_mono E hs1
    have hpn : ps.length < n := by omega
    have hsx : ∀ k, ps.length ≤ k → k < n → ps.length ≤ Euc.sx ps.length b k ∧ Euc.sx ps.length b k < n := fun k k1 k2 => Euc.sx_in h1 h2 k1 k2
    refine ⟨fun k hk => ?_, fun k k1 k2 k3 => ?_, ?_, ?_⟩
    · by_cases hks : k < ps.length
      · have e : swf cf ps.length b k = cf k := by unfold swf; rw [sx_lt h1 hks]
        rw [e]
        exact fits_bits (Rw_low hI hn ha hks hr) (by omega)
      · obtain ⟨g1, g2⟩ := hsx k (by omega) hk
        exact fits_bits (Rw_high hI g1 g2) (by omega)
    · obtain ⟨g1, g2⟩ := hsx k (by omega) k2
      obtain ⟨p1, p2⟩ := hsx ps.length (Nat.le_refl _) hpn
      have hq : rq (fun k => v2 cf (Euc.sx ps.length b k)) ps.length r n k = (swf cf ps.length b k r).2 / (swf cf ps.length b ps.length r).2 := if_pos ⟨k1, k2, k3⟩
      refine ⟨?_, fun i hi => ?_, fun j hj => ?_⟩
      · refine fits_bits (b := E + 3 + bb E (n - 1)) (Nat.le_trans ?_ (Rw_high hI g1 g2)) (by omega)
        exact Int.natAbs_ediv_le_natAbs _ _
      · have f1 := Rw_col hI hn ha g1 g2 hi
        have f2 := Rw_col hI hn ha p1 p2 hi
        have f3 := Rw_col hrd hn ha (show ps.length ≤ k by omega) k2 hi
        rw [hq] at f3
        exact ⟨fits_bits f1 (by omega), fits_bits f2 (by omega), fits_bits (sub_small f1 f3) (by omega), fits_bits f3 (by omega)⟩
      · have f1 := Rw_unit hI g1 g2 hj
        have f2 := Rw_unit hI p1 p2 hj
        have f3 := Rw_unit hrd (show ps.length ≤ k by omega) k2 hj
        rw [hq] at f3
        exact ⟨fits_bits f1 (by omega), fits_bits f2 (by omega), fits_bits (sub_small f1 f3) (by omega), fits_bits f3 (by omega)⟩
    · dsimp only
      rw [v2_rdf, v2_rdf]
      exact hrd
    · dsimp only
      rw [v2_rdf]
      exact mus_round (c := v2 cf) h1 h2 h3 h4 h5
/-- The start. -/
theorem lat_start (A : Mat) (n E : Nat) : JL (rowz A) A.length n E 0 [] (cf0 A) uf0 := by
  have hu : ∀ k j, v2 uf0 k j = if j = k then 1 else 0 := fun k j => by
    unfold v2 uf0
    by_cases e : j = k
    · rw [if_pos e, if_pos e]
    · rw [if_neg e, if_neg e]
  refine ⟨⟨fun k i hk hi => ?_, fun x => ⟨x, fun j hj => ?_⟩, fun t ht k hk => ?_⟩, Nat.zero_le _, fun i j _ h => by simp at h, fun k h => by simp at h, fun k h => by simp at h, fun k i h => by simp at h, fun k i _ _ h => by omega, fun k j hk hj => ?_⟩
  · show rowz A i k = _
    rw [sm_congr n (g := fun j => if j = k then rowz A i j else 0) fun j _ => by
      rw [hu]
      by_cases e : j = k
      · rw [if_pos e, if_pos e, Int.mul_one]
      · rw [if_neg e, if_neg e, Int.mul_zero]]
    exact (sm_delta n hk).symm
  · rw [sm_congr n (g := fun k => if k = j then x k else 0) fun k _ => by
      rw [hu]
      by_cases e : k = j
      · rw [if_pos e.symm, if_pos e, Int.mul_one]
      · rw [if_neg fun h => e h.symm, if_neg e, Int.mul_zero]]
    exact (sm_delta n hj).symm
  · have e := ht k hk
    rw [sm_congr n (g := fun l => if l = k then t l else 0) fun l _ => by
      rw [hu]
      by_cases e : l = k
      · rw [if_pos e.symm, if_pos e, Int.mul_one]
      · rw [if_neg fun h => e h.symm, if_neg e, Int.mul_zero]] at e
    rwa [sm_delta n hk] at e
  · rw [hu]
    have := Nat.one_le_two_pow (n := Lat.kb E n ([] : List Nat).length k)
    split <;> simp <;> omega
end Go.Proofs.Ytnpomadbaanpkaa

/- Systems that have a solution: solve finds it, its numbers fit. (Own work of this repo.) -/
namespace Go.Proofs.Ytnpomadbaanpkaa
open Vm
open Lat (sm sm_congr sm_zero sm_delta sm_sx sm_swap sm_mul sm_mul_l sm_add sm_sub bb bb_mono Com Rw Lat lin_abs)
set_option maxRecDepth 10000

theorem sm_trunc {f : Nat → Int} {p : Nat} : ∀ n, p ≤ n → (∀ k, p ≤ k → k < n → f k = 0) → sm f n = sm f p
  | 0, h, _ => by obtain rfl : p = 0 := by omega
                  rfl
  | n + 1, h, h0 => by
    by_cases e : p = n + 1
    · rw [e]
    · show sm f n + f n = sm f p
      rw [sm_trunc n (by omega) fun k h1 h2 => h0 k h1 (by omega), h0 n (by omega) (by omega)]
      omega
theorem dz_sm (a b : Nat → Int) : ∀ n, dz a b n = sm (fun i => a i * b i) n
  | 0 => rfl
  | n + 1 => by show dz a b n + a n * b n = sm _ n + a n * b n; rw [dz_sm a b n]
theorem rst_sm (cf : Nat → Nat → Bool × Int) (b t : Nat → Int) (r : Nat) : ∀ k, rst cf b t r k = b r - sm (fun l => v2 cf l r * t l) k
  | 0 => by show b r = b r - 0; omega
  | k + 1 => by
    show rst cf b t r k - (cf k r).2 * t k = b r - (sm _ k + v2 cf k r * t k)
    rw [rst_sm cf b t r k]
    show b r - _ - v2 cf k r * t k = _
    omega
/-- Bits of what is left, behind k columns. -/
def sb (E F n : Nat) : Nat → Nat
  | 0 => F
  | k + 1 => sb E F n k + (E + 4 + bb E (min (k + 1) (n - 1)))
theorem sb_mono (E F n : Nat) : ∀ {s t : Nat}, s ≤ t → sb E F n s ≤ sb E F n t := by
  intro s t h
  induction t with
  | zero => obtain rfl : s = 0 := by omega
            exact Nat.le_refl _
  | succ t ih =>
    by_cases e : s = t + 1
    · rw [e]; exact Nat.le_refl _
    · have := ih (by omega)
      show sb E F n s ≤ sb E F n t + _
      omega
theorem mul_bits {x y : Int} {p q : Nat} (hx : x.natAbs ≤ 2 ^ p) (hy : y.natAbs ≤ 2 ^ q) : (x * y).natAbs ≤ 2 ^ (p + q) := by
  rw [Int.natAbs_mul, Nat.pow_add]; exact Nat.mul_le_mul hx hy
theorem add_bits {x y : Int} {p q r : Nat} (hx : x.natAbs ≤ 2 ^ p) (hy : y.natAbs ≤ 2 ^ q) (h1 : p + 1 ≤ r) (h2 : q + 1 ≤ r) : (x + y).natAbs ≤ 2 ^ r := by
  have e1 := Lat.pow_le h1
  have e2 := Lat.pow_le h2
  rw [Nat.pow_succ] at e1 e2
  omega
section
variable {a : Nat → Nat → Int} {m n E : Nat} {ps : List Nat} {cf uf : Nat → Nat → Bool × Int} (hJ : JL a m n E m ps cf uf)
include hJ
/-- A combination of the columns, at a row. -/
theorem comb_row (t : Nat → Int) {i : Nat} (hi : i < m) : sm (fun j => a i j * sm (fun k => t k * v2 uf k j) n) n = sm (fun k => t k * v2 cf k i) n := by
  rw [sm_congr n (g := fun j => sm (fun k => a i j * (t k * v2 uf k j)) n) fun j _ => (sm_mul_l _ _ n).symm, sm_swap]
  refine sm_congr n fun k hk => ?_
  rw [hJ.com.lin k i hk hi, ← sm_mul_l]
  exact sm_congr n fun j _ => by rw [← Int.mul_assoc, Int.mul_comm (a i j), Int.mul_assoc]
theorem cnt_piv {k : Nat} (hk : k < ps.length) : Cnt ps (ps.getD k 0) k :=
  ⟨Nat.le_of_lt hk, fun l hl => hJ.srt l k hl hk, fun l h1 h2 => by
    by_cases e : l = k
    · rw [e]; exact Nat.le_refl _
    · exact Nat.le_of_lt (hJ.srt k l (by omega) h2)⟩
/-- Only the columns before the row's pivot count, and the pivot's. -/
theorem row_trunc (t : Nat → Int) {r p : Nat} (hr : r < m) (hc : Cnt ps r p) : sm (fun k => t k * v2 cf k r) n = sm (fun k => t k * v2 cf k r) p + (if p < ps.length ∧ ps.getD p 0 = r then t p * v2 cf p r else 0) := by
  have hpl := hJ.pl
  by_cases h : p < ps.length ∧ ps.getD p 0 = r
  · rw [if_pos h]
    refine sm_trunc (p := p + 1) n (by omega) fun k h1 h2 => ?_
    by_cases hk : k < ps.length
    · rw [hJ.abv k r hk (by have := hJ.srt p k (by omega) hk; omega), Int.mul_zero]
    · rw [hJ.zer k r (by omega) h2 hr, Int.mul_zero]
  · rw [if_neg h, Int.add_zero]
    refine sm_trunc n (by have := hc.1; omega) fun k h1 h2 => ?_
    by_cases hk : k < ps.length
    · have h3 := hc.2.2 k h1 hk
      rw [hJ.abv k r hk (by
        by_cases e : k = p
        · subst e
          rcases Nat.lt_or_ge r (ps.getD k 0) with g | g
          · exact g
          · exact absurd ⟨hk, by omega⟩ h
        · have := hJ.srt p k (by omega) hk
          have := hc.2.2 p (Nat.le_refl _) (by omega)
          omega), Int.mul_zero]
    · rw [hJ.zer k r (by omega) h2 hr, Int.mul_zero]
/-- What solves for zeros has no part before the pivots' end. -/
theorem ker_piv (d : Nat → Int) (hd : ∀ r, r < m → sm (fun k => d k * v2 cf k r) n = 0) : ∀ k, k < ps.length → d k = 0 := by
  intro k
  induction k using Nat.strongRecOn with
  | _ k ih =>
    intro hk
    have hr := hJ.top k hk
    have e := hd _ hr
    rw [row_trunc hJ d hr (cnt_piv hJ hk), if_pos ⟨hk, rfl⟩, sm_zero k fun l hl => by rw [ih l hl (by omega), Int.zero_mul], Int.zero_add] at e
    rcases Int.mul_eq_zero.1 e with e | e
    · exact e
    · exact absurd e (hJ.piv k hk)
theorem col_abs (hn : n ≤ 8) (ha : ∀ i j, i < m → j < n → (a i j).natAbs ≤ 2 ^ E) {k i : Nat} (hk : k < ps.length) (hi : i < m) : (v2 cf k i).natAbs ≤ 2 ^ (E + 3 + bb E (min (k + 1) (n - 1))) := by
  have hpl := hJ.pl
  refine lin_abs hJ.com hn ha (show k < n by omega) (fun j hj => ?_) hi
  have := hJ.bnd k j (by omega) hj
  unfold Lat.kb at this
  rwa [show min (min (k + 1) ps.length) (n - 1) = min (k + 1) (n - 1) by omega] at this
theorem unit_abs {k j : Nat} (hk : k < ps.length) (hj : j < n) : (v2 uf k j).natAbs ≤ 2 ^ bb E (min (k + 1) (n - 1)) := by
  have hpl := hJ.pl
  have := hJ.bnd k j (by omega) hj
  unfold Lat.kb at this
  rwa [show min (min (k + 1) ps.length) (n - 1) = min (k + 1) (n - 1) by omega] at this
theorem unit_all {k j : Nat} (hk : k < n) (hj : j < n) : (v2 uf k j).natAbs ≤ 2 ^ bb E (n - 1) := by
  refine Nat.le_trans (hJ.bnd k j hk hj) (Lat.pow_le ?_)
  unfold Lat.kb
  exact bb_mono E (by omega)
/-- What is left is small. -/
theorem rst_abs (hn : n ≤ 8) (ha : ∀ i j, i < m → j < n → (a i j).natAbs ≤ 2 ^ E) {F : Nat} (b t : Nat → Int) (hb : ∀ i, i < m → (b i).natAbs ≤ 2 ^ F) (ht : ∀ i, i < m → b i = sm (fun k => t k * v2 cf k i) n) :
    ∀ k, k ≤ ps.length → (∀ r, r < m → (rst cf b t r k).natAbs ≤ 2 ^ sb E F n k) ∧ (k < ps.length → (t k).natAbs ≤ 2 ^ sb E F n k) := by
  have hself : ∀ k, k < ps.length → rst cf b t (ps.getD k 0) k = v2 cf k (ps.getD k 0) * t k := fun k hk => by
    have hr := hJ.top k hk
    rw [rst_sm, ht _ hr, row_trunc hJ t hr (cnt_piv hJ hk), if_pos ⟨hk, rfl⟩, sm_congr k (g := fun l => v2 cf l (ps.getD k 0) * t l) fun l _ => Int.mul_comm _ _, Int.mul_comm (t k)]
    omega
  have tof : ∀ k, k < ps.length → (∀ r, r < m → (rst cf b t r k).natAbs ≤ 2 ^ sb E F n k) → (t k).natAbs ≤ 2 ^ sb E F n k := fun k hk h => by
    have e := h _ (hJ.top k hk)
    rw [hself k hk, Int.natAbs_mul] at e
    have hp : 1 ≤ (v2 cf k (ps.getD k 0)).natAbs := by have := hJ.piv k hk; omega
    exact Nat.le_trans (Nat.le_mul_of_pos_left _ hp) e
  intro k
  induction k with
  | zero => exact fun _ => ⟨fun r hr => hb r hr, fun h => tof 0 h fun r hr => hb r hr⟩
  | succ k ih =>
    intro hk
    obtain ⟨i1, i2⟩ := ih (by omega)
    have i2 := i2 (by omega)
    have step : ∀ r, r < m → (rst cf b t r (k + 1)).natAbs ≤ 2 ^ sb E F n (k + 1) := fun r hr => by
      have h1 := i1 r hr
      have h2 := mul_bits (col_abs hJ hn ha (show k < ps.length by omega) hr) i2
      have h3 : rst cf b t r (k + 1) = rst cf b t r k + -(v2 cf k r * t k) := by show rst cf b t r k - (cf k r).2 * t k = _; unfold v2; omega
      rw [h3]
      refine add_bits (q := E + 3 + bb E (min (k + 1) (n - 1)) + sb E F n k) h1 (by rw [Int.natAbs_neg]; exact h2) ?_ ?_
      · show _ ≤ sb E F n k + _; omega
      · show _ ≤ sb E F n k + _; omega
    exact ⟨step, fun h => tof _ h step⟩
theorem xs_abs {F : Nat} (t : Nat → Int) (ht : ∀ k, k < ps.length → (t k).natAbs ≤ 2 ^ sb E F n k) : ∀ k, k ≤ ps.length → ∀ j, j < n → (xs uf t k j).2.natAbs ≤ 2 ^ sb E F n k
  | 0, _, j, _ => Nat.zero_le _
  | k + 1, hk, j, hj => by
    have h1 := xs_abs t ht k (by omega) j hj
    have h2 := mul_bits (ht k (by omega)) (unit_abs hJ (show k < ps.length by omega) hj)
    refine add_bits (q := sb E F n k + bb E (min (k + 1) (n - 1))) h1 h2 ?_ ?_
    · show _ ≤ sb E F n k + _; omega
    · show _ ≤ sb E F n k + _; omega
/-- All that solving forward needs, if there is a solution. -/
theorem fwd_ok (hn1 : 1 ≤ n) (hn : n ≤ 8) (ha : ∀ i j, i < m → j < n → (a i j).natAbs ≤ 2 ^ E) {F : Nat} (b x : Nat → Int) (hb : ∀ i, i < m → (b i).natAbs ≤ 2 ^ F) (hx : ∀ i, i < m → b i = sm (fun j => a i j * x j) n) (hE : E + 4 + bb E (n - 1) < 131072) (hS : sb E F n n < 131072) :
    ∃ t : Nat → Int, Fwd m n ps cf b t m ∧ XFit n ps.length uf t ∧ (∀ j, j < n → x j = sm (fun k => t k * v2 uf k j) n) ∧ ∀ k, k ≤ ps.length → ∀ j, j < n → (xs uf t k j).2.natAbs ≤ 2 ^ sb E F n k := by
  have hpl := hJ.pl
  obtain ⟨t, ht⟩ := hJ.com.gen x
  have hbt : ∀ i, i < m → b i = sm (fun k => t k * v2 cf k i) n := fun i hi => by
    rw [hx i hi, ← comb_row hJ t hi]
    exact sm_congr n fun j hj => by rw [ht j hj]
  have hrs := rst_abs hJ hn ha b t hb hbt
  have hxs := xs_abs hJ t fun k hk => (hrs k (by omega)).2 hk
  have hlt : ∀ k, k ≤ ps.length → sb E F n k < 131072 := fun k hk => Nat.lt_of_le_of_lt (sb_mono E F n (by omega)) hS
  have hstep : ∀ k, k < ps.length → sb E F n k + (E + 4 + bb E (min (k + 1) (n - 1))) < 131072 := fun k hk => hlt (k + 1) hk
  refine ⟨t, ⟨hpl, hJ.srt, hJ.top, hJ.piv, Nat.le_refl _, fun k r hk hr => ?_, fun r p hr _ hc k hk => ?_, fun r p hr _ hc k hk => ⟨?_, ?_⟩, fun r p hr hc h1 h2 => ?_, fun r p hr hc h => ?_, fun p h => absurd h (Nat.lt_irrefl _), fun p h => absurd h (Nat.lt_irrefl _)⟩, ⟨fun k j hk hj => ⟨?_, ?_, ?_, ?_, ?_⟩, fun k j hk hj => ?_⟩, ht, hxs⟩
  · exact fits_bits (col_abs hJ hn ha hk hr) (by have := hstep k hk; omega)
  · exact fits_bits ((hrs k (by have := hc.1; omega)).1 r hr) (hlt k (by have := hc.1; omega))
  · have hk' : k < ps.length := by have := hc.1; omega
    exact fits_bits (mul_bits (col_abs hJ hn ha hk' hr) ((hrs k (by omega)).2 hk')) (by have := hstep k hk'; omega)
  · have hk' : k < ps.length := by have := hc.1; omega
    exact fits_bits ((hrs k (by omega)).2 hk') (hlt k (by omega))
  · rw [rst_sm, hbt r hr, row_trunc hJ t hr hc, if_pos ⟨h1, h2⟩, sm_congr p (g := fun l => v2 cf l r * t l) fun l _ => Int.mul_comm _ _, Int.mul_comm (t p)]
    show _ = v2 cf p r * t p
    omega
  · rw [rst_sm, hbt r hr, row_trunc hJ t hr hc, if_neg (fun e => h e.1 e.2), sm_congr p (g := fun l => v2 cf l r * t l) fun l _ => Int.mul_comm _ _]
    omega
  · exact fits_bits (hxs k (by omega) j hj) (hlt k (by omega))
  · exact fits_bits (hxs (k + 1) (by omega) j hj) (hlt (k + 1) (by omega))
  · exact fits_bits (unit_all hJ (show k < n by omega) hj) (by omega)
  · exact fits_bits (mul_bits ((hrs k (by omega)).2 hk) (unit_abs hJ hk hj)) (by have := hstep k hk; omega)
  · exact fits_bits ((hrs k (by omega)).2 hk) (hlt k (by omega))
  · exact fits_bits (unit_all hJ hk hj) (by omega)
end
theorem xs_sm (uf : Nat → Nat → Bool × Int) (t : Nat → Int) (j : Nat) : ∀ k, (xs uf t k j).2 = sm (fun l => t l * v2 uf l j) k
  | 0 => rfl
  | k + 1 => by show (xs uf t k j).2 + t k * (uf k j).2 = sm _ k + t k * v2 uf k j; rw [xs_sm uf t j k]; rfl
theorem sm_split (f : Nat → Int) (s : Nat) : ∀ n, s ≤ n → sm f n = sm f s + sm (fun k => f (s + k)) (n - s)
  | 0, h => by obtain rfl : s = 0 := by omega
               rfl
  | n + 1, h => by
    by_cases e : s = n + 1
    · rw [e, Nat.sub_self]; show _ = _ + 0; omega
    · rw [show n + 1 - s = (n - s) + 1 by omega]
      show sm f n + f n = sm f s + (sm (fun k => f (s + k)) (n - s) + f (s + (n - s)))
      rw [sm_split f s n (by omega), show s + (n - s) = n by omega]
      omega
/-- What a solution and a basis are. -/
structure Sol (a : Nat → Nat → Int) (m n E F : Nat) (b : Nat → Int) (s : Nat) (X : Nat → Int) (Bs : Nat → Nat → Int) : Prop where
  sn : s ≤ n
  xb : ∀ j, j < n → (X j).natAbs ≤ 2 ^ sb E F n s
  bb : ∀ k j, k < n - s → j < n → (Bs k j).natAbs ≤ 2 ^ bb E s
  sol : ∀ i, i < m → sm (fun j => a i j * X j) n = b i
  hom : ∀ k i, k < n - s → i < m → sm (fun j => a i j * Bs k j) n = 0
  gen : ∀ y : Nat → Int, (∀ i, i < m → sm (fun j => a i j * y j) n = b i) → ∃ w : Nat → Int, ∀ j, j < n → y j = X j + sm (fun k => w k * Bs k j) (n - s)
  ind : ∀ w : Nat → Int, (∀ j, j < n → sm (fun k => w k * Bs k j) (n - s) = 0) → ∀ k, k < n - s → w k = 0
theorem sol_of {a : Nat → Nat → Int} {m n E : Nat} {ps : List Nat} {cf uf : Nat → Nat → Bool × Int} (hJ : JL a m n E m ps cf uf) {F : Nat} (b x t : Nat → Int) (hx : ∀ i, i < m → b i = sm (fun j => a i j * x j) n) (ht : ∀ j, j < n → x j = sm (fun k => t k * v2 uf k j) n) (hxs : ∀ j, j < n → (xs uf t ps.length j).2.natAbs ≤ 2 ^ sb E F n ps.length) :
    Sol a m n E F b ps.length (fun j => (xs uf t ps.length j).2) (fun k j => (uf (ps.length + k) j).2) := by
  have hpl := hJ.pl
  have hbt : ∀ i, i < m → b i = sm (fun k => t k * v2 cf k i) n := fun i hi => by
    rw [hx i hi, ← comb_row hJ t hi]
    exact sm_congr n fun j hj => by rw [ht j hj]
  have hlow : ∀ (d : Nat → Int) (j : Nat), sm (fun k => (if k < ps.length then d k else 0) * v2 uf k j) n = sm (fun k => d k * v2 uf k j) ps.length := fun d j => by
    rw [sm_trunc n hpl fun k h1 h2 => by rw [if_neg (by omega), Int.zero_mul]]
    exact sm_congr _ fun k hk => by rw [if_pos hk]
  refine ⟨hpl, hxs, fun k j hk hj => ?_, fun i hi => ?_, fun k i hk hi => ?_, fun y hy => ?_, fun w hw k hk => ?_⟩
  · have := hJ.bnd (ps.length + k) j (by omega) hj
    unfold Lat.kb at this
    rwa [show min (min (ps.length + k + 1) ps.length) (n - 1) = ps.length by omega] at this
  · rw [hbt i hi, sm_congr n (g := fun j => a i j * sm (fun k => (if k < ps.length then t k else 0) * v2 uf k j) n) fun j _ => by rw [xs_sm, hlow], comb_row hJ _ hi]
    refine sm_congr n fun k hk => ?_
    by_cases h : k < ps.length
    · rw [if_pos h]
    · rw [if_neg h, Int.zero_mul, hJ.zer k i (by omega) hk hi, Int.mul_zero]
  · exact (hJ.com.lin (ps.length + k) i (by omega) hi).symm.trans (hJ.zer _ i (by omega) (by omega) hi)
  · obtain ⟨d, hd⟩ := hJ.com.gen y
    have hk := ker_piv hJ (fun k => d k - t k) fun r hr => by
      have e1 := hy r hr
      rw [sm_congr n (g := fun j => a r j * sm (fun k => d k * v2 uf k j) n) fun j hj => by rw [hd j hj], comb_row hJ d hr, hbt r hr] at e1
      rw [sm_congr n (g := fun k => d k * v2 cf k r - t k * v2 cf k r) fun k _ => Int.sub_mul _ _ _, sm_sub, e1]
      omega
    refine ⟨fun k => d (ps.length + k), fun j hj => ?_⟩
    rw [hd j hj, sm_split _ ps.length n hpl, xs_sm]
    congr 1
    exact sm_congr _ fun l hl => by
      have := hk l hl
      rw [show d l = t l by omega]
  · have e := hJ.com.ind (fun l => if l < ps.length then 0 else w (l - ps.length)) (fun j hj => by
      rw [sm_split _ ps.length n hpl, sm_zero ps.length fun l hl => by rw [if_pos hl, Int.zero_mul], Int.zero_add]
      rw [← hw j hj]
      exact sm_congr _ fun l hl => by
        rw [if_neg (by omega), show ps.length + l - ps.length = l by omega]; rfl) (ps.length + k) (by omega)
    rw [if_neg (by omega), show ps.length + k - ps.length = k by omega] at e
    exact e
end Go.Proofs.Ytnpomadbaanpkaa

/- Walks: Solve, of a system that has a solution. (Own work of this repo.) -/
namespace Go.Proofs.Ytnpomadbaanpkaa
open Vm
open Lat (sm bb)
set_option maxRecDepth 10000

/-- The value of a lattice that is solvable: a solution and a basis. -/
abbrev latM (n s : Nat) (Xf : Nat → Bool × Int) (bf : Nat → Nat → Bool × Int) : AV := lat true (lraw false (rl n Xf)) (if n = s then .lst true [] else mraw false ((List.range (n - s)).map fun k => (false, rl n (bf k)))) (.lst true []) false true []
def LatV (a : Nat → Nat → Int) (m n E F : Nat) (b : Nat → Int) (v : AV) : Prop :=
  ∃ (s : Nat) (Xf : Nat → Bool × Int) (bf : Nat → Nat → Bool × Int), v = latM n s Xf bf ∧ Sol a m n E F b s (v2 (fun _ => Xf) 0) (v2 bf) ∧
    (∀ j, (Xf j).1 = true → (Xf j).2 = 0) ∧ ∀ k j, (bf k j).1 = true → (bf k j).2 = 0
theorem xs_flag (uf : Nat → Nat → Bool × Int) (t : Nat → Int) (k j : Nat) : (xs uf t k j).1 = true → (xs uf t k j).2 = 0 := by
  cases k with
  | zero => intro _; rfl
  | succ k => intro h; cases h
theorem solve_ok (na : Bool) (A : Mat) (n : Nat) (hA : MatV A n) (hnil : ∀ i, i < A.length → ∀ k, k < n → (cf0 A k i).1 = true → (cf0 A k i).2 = 0) (h1 : 1 ≤ A.length) (hAm : A.length ≤ 100) (hn1 : 1 ≤ n) (hn : n ≤ 8)
    (nb : Bool) (B : List Raw) (hB : AllV B) (hBl : B.length = A.length) (hnb : ∀ i, i < A.length → (B.getD i default).2.1 = true → zg B i = 0)
    (Ee F : Nat) (ha : ∀ i j, i < A.length → j < n → (rowz A i j).natAbs ≤ 2 ^ Ee) (hb : ∀ i, i < A.length → (zg B i).natAbs ≤ 2 ^ F) (x : Nat → Int) (hx : ∀ i, i < A.length → zg B i = sm (fun j => rowz A i j * x j) n) (hE : Ee + 4 + bb Ee (n - 1) < 131072) (hS : sb Ee F n n < 131072) :
    ∃ v, denP E 30 [mraw na A, lraw nb B] = some (.ret v) ∧ LatV (rowz A) A.length n Ee F (zg B) v := by
  refine solve_gen na A n hA hnil h1 hAm hn1 (by omega) nb B hB hBl hnb (JL (rowz A) A.length n Ee) (lat_start A n Ee) (rowHyp (rowz A) A.length n Ee hn ha hE) (LatV (rowz A) A.length n Ee F (zg B)) fun ps cf uf hJ => ?_
  obtain ⟨t, hf, hX, ht, hxs⟩ := fwd_ok hJ hn1 hn ha (zg B) x hb hx hE hS
  refine ⟨t, A.length, hf, fun p hp => absurd hp (Nat.lt_irrefl _), fun _ => ⟨hX, ps.length, xs uf t ps.length, fun k => cpf (uf (ps.length + k)), rfl, sol_of hJ (zg B) x t hx ht (hxs _ (Nat.le_refl _)), xs_flag uf t ps.length, fun k j h => ?_⟩⟩
  simpa [cpf] using h
/-- A call that is tried; one row may be changed. -/
theorem try_rowB (g : Nat) (b : List AV) (hg : E.opn g = true) (p : Nat) (B : Blk) (h : Heap) (nx : Nat) (hp : p < nx)
    (hd : ∀ (h1 : Heap), (∀ i, i < nx → h1 i = h i) → ∃ h' n', denO E g b h1 (nx + 1) = some (.ret (.tup []), h', n') ∧ nx + 1 ≤ n' ∧ h' p = some B ∧ ∀ i, i ≠ p → i < nx + 1 → h' i = h1 i) :
    ∃ H' N', denO E 28 [.fn g [] b] h nx = some (.ret (.int .i64 0), H', N') ∧ (nx ≤ N' ∧ H' p = some B ∧ ∀ i, i ≠ p → i < nx → H' i = h i) := by
  obtain ⟨h', n', d1, d2, d3, d4⟩ := hd (h.upd nx (some ⟨[.int .i64 0], false, 1, false⟩)) fun i hi => upd_ne (by omega)
  have k6 : h' nx = some ⟨[.int .i64 0], false, 1, false⟩ := (d4 nx (by omega) (by omega)).trans (if_pos rfl)
  obtain ⟨H', N', q1, q2, q3⟩ := try_ret g [] b hg _ h h' nx n' d1 k6 (by omega)
  exact ⟨H', N', q1, by omega, (q3 p (by omega) (by omega)).trans d3, fun i h1 h2 => (q3 i (by omega) (by omega)).trans ((d4 i h1 (by omega)).trans (upd_ne (by omega)))⟩
abbrev lrw (so : Bool) (x b y : AV) (mn mf : Bool) (mw : List AV) : Blk := ⟨[.bool so, x, b, y, .bool mn, .lst mf mw], true, 6, false⟩
theorem solve1_open (na : Bool) (A : Mat) (nb : Bool) (B : List Raw) (so fx : Bool) (xl : List AV) (fb : Bool) (bl : List AV) (fy : Bool) (yl : List AV) (mn mf : Bool) (mw : List AV) (hd : denP E 30 [mraw na A, lraw nb B] = some (.ret (lat so (.lst fx xl) (.lst fb bl) (.lst fy yl) mn mf mw)))
    (pa pb po : Nat) (h : Heap) (nx : Nat) (ha : h pa = some (bx (mraw na A))) (hb : h pb = some (bx (lraw nb B))) (ho : ∃ c0 c1 c2 c3 c4 c5, h po = some ⟨[c0, c1, c2, c3, c4, c5], true, 6, false⟩) :
    ∃ h' n', denO E 29 [.ptr pa 0, .ptr pb 0, .ptr po 0] h nx = some (.ret (.tup []), h', n') ∧ nx ≤ n' ∧ h' po = some (lrw so (.lst fx xl) (.lst fb bl) (.lst fy yl) mn mf mw) ∧ ∀ i, i ≠ po → i < nx → h' i = h i := by
  obtain ⟨c0, c1, c2, c3, c4, c5, ho⟩ := ho
  have key : ∃ v h' n', denO E 29 [.ptr pa 0, .ptr pb 0, .ptr po 0] h nx = some (.ret v, h', n') ∧ v = .tup [] ∧ nx ≤ n' ∧ h' po = some (lrw so (.lst fx xl) (.lst fb bl) (.lst fy yl) mn mf mw) ∧ ∀ i, i ≠ po → i < nx → h' i = h i := by
    refine denO_intro E29 rfl ?_
    simp (maxSteps := 4000000) only [go_sem, seval, ↓reduceIte, reduceCtorEq, Try.f29, ha, hb, ho, hd, purify_lraw, purify_mraw]
    intro i h1 h2
    rw [if_neg h1]
  obtain ⟨v, h', n', h1, rfl, h2⟩ := key
  exact ⟨h', n', h1, h2⟩
theorem Solve_val (na : Bool) (A : Mat) (nb : Bool) (B : List Raw) (hA : ShortM A) (hB : Short B) (iA : InM A) (iB : ∀ q ∈ B, InR q.2.2) (h : sysB A B = true) (so fx : Bool) (xl : List AV) (fb : Bool) (bl : List AV) (fy : Bool) (yl : List AV) (mn mf : Bool) (mw : List AV) (hd : denP E 30 [mraw na A, lraw nb B] = some (.ret (lat so (.lst fx xl) (.lst fb bl) (.lst fy yl) mn mf mw)))
    (qx : AV.pureL xl = true) (qb : AV.pureL bl = true) (qy : AV.pureL yl = true) (qw : AV.pureL mw = true) :
    denP E 7 [mraw na A, lraw nb B] = some (.ret (.tup [lat so (.lst fx xl) (.lst fb bl) (.lst fy yl) mn mf mw, .int .i64 0])) := by
  refine denP_eq E7 rfl (by simp [AV.pureL, AV.pure, pure_ivr, pure_lr]) ?_
  have s1 := sys_spec na A nb B hA hB iA iB
  rw [h] at s1
  have px : ∀ (n : Nat) (H : Heap), purify (n + 1) H (.lst fx xl) = some (.lst fx xl, []) := fun n H => purify_lst qx
  have pb : ∀ (n : Nat) (H : Heap), purify (n + 1) H (.lst fb bl) = some (.lst fb bl, []) := fun n H => purify_lst qb
  have py : ∀ (n : Nat) (H : Heap), purify (n + 1) H (.lst fy yl) = some (.lst fy yl, []) := fun n H => purify_lst qy
  have pw : ∀ (n : Nat) (H : Heap), purify (n + 1) H (.lst mf mw) = some (.lst mf mw, []) := fun n H => purify_lst qw
  simp (maxSteps := 4000000) only [go_sem, seval, ↓reduceIte, reduceCtorEq, Try.f7, s1, purify_lraw, purify_mraw, places, fillAll]
  refine openK_int (e := 0) (fun H' _ => H' 3 = some (lrw so (.lst fx xl) (.lst fb bl) (.lst fy yl) mn mf mw) ∧ H' 2 = some ⟨[.bool false, .lst true [], .lst true [], .lst true [], .bool false, .lst true []], true, 6, false⟩) ?_ ?_
  · have hr : ∀ H0 : Heap, H0 0 = some (bx (mraw na A)) → H0 1 = some (bx (lraw nb B)) → H0 2 = some ⟨[.bool false, .lst true [], .lst true [], .lst true [], .bool false, .lst true []], true, 6, false⟩ → (∃ c0 c1 c2 c3 c4 c5, H0 3 = some ⟨[c0, c1, c2, c3, c4, c5], true, 6, false⟩) → ∃ H' N', denO E 28 [.fn 29 [] [.ptr 0 0, .ptr 1 0, .ptr 3 0]] H0 4 = some (.ret (.int .i64 0), H', N') ∧ H' 3 = some (lrw so (.lst fx xl) (.lst fb bl) (.lst fy yl) mn mf mw) ∧ H' 2 = some ⟨[.bool false, .lst true [], .lst true [], .lst true [], .bool false, .lst true []], true, 6, false⟩ := fun H0 c0 c1 c2 c3 => by
      obtain ⟨H', N', q1, q2, q3, q4⟩ := try_rowB 29 [.ptr 0 0, .ptr 1 0, .ptr 3 0] rfl 3 (lrw so (.lst fx xl) (.lst fb bl) (.lst fy yl) mn mf mw) H0 4 (by decide) (fun h1 hh => solve1_open na A nb B so fx xl fb bl fy yl mn mf mw hd 0 1 3 h1 5 ((hh 0 (by decide)).trans c0) ((hh 1 (by decide)).trans c1) (by obtain ⟨d0, d1, d2, d3, d4, d5, e⟩ := c3; exact ⟨d0, d1, d2, d3, d4, d5, (hh 3 (by decide)).trans e⟩))
      exact ⟨H', N', q1, q3, (q4 2 (by decide) (by decide)).trans c2⟩
    exact hr _ (by simp only [upd_apply, ↓reduceIte, Nat.reduceEqDiff, if_pos]) (by simp only [upd_apply, ↓reduceIte, Nat.reduceEqDiff, if_pos]) (by simp only [upd_apply, ↓reduceIte, Nat.reduceEqDiff, if_pos]) ⟨_, _, _, _, _, _, by simp only [upd_apply, ↓reduceIte, Nat.reduceEqDiff, if_pos]; rfl⟩
  rintro H' N' ⟨k1, k2⟩
  clear hd s1
  simp (maxSteps := 4000000) only [go_sem, seval, ↓reduceIte, reduceCtorEq, k1, k2, px, pb, py, pw, Int.reduceEq, purify_lnil, places, fillAll]
end Go.Proofs.Ytnpomadbaanpkaa

/- Walks: whether a lattice describes solutions. (Own work of this repo.) -/
namespace Go.Proofs.Ytnpomadbaanpkaa
open Vm
set_option maxRecDepth 10000

/-- The basis as a list of lists. -/
def BM (n s : Nat) (bf : Nat → Nat → Bool × Int) : Mat := (List.range (n - s)).map fun k => (false, rl n (bf k))
theorem BM_len (n s : Nat) (bf : Nat → Nat → Bool × Int) : (BM n s bf).length = n - s := by unfold BM; simp
theorem BM_get {n s k : Nat} {bf : Nat → Nat → Bool × Int} (h : k < n - s) : (BM n s bf).getD k default = (false, rl n (bf k)) := by
  unfold BM
  rw [List.getD_eq_getElem?_getD, List.getElem?_map, List.getElem?_range h]; rfl
theorem latM_eq (n s : Nat) (Xf : Nat → Bool × Int) (bf : Nat → Nat → Bool × Int) (hs : s ≤ n) : latM n s Xf bf = lat true (lraw false (rl n Xf)) (mraw (decide (n = s)) (BM n s bf)) (.lst true []) false true [] := by
  by_cases h : n = s
  · have e : BM n s bf = [] := List.eq_nil_of_length_eq_zero (by rw [BM_len]; omega)
    simp only [latM, if_pos h, decide_eq_true h, e]
    rfl
  · simp only [latM, if_neg h, decide_eq_false h]
    rfl
set_option maxHeartbeats 1000000 in
theorem fits_ok (na : Bool) (A : Mat) (nb : Bool) (B : List Raw) (n s : Nat) (Xf : Nat → Bool × Int) (fb : Bool) (bf : Nat → Nat → Bool × Int) (ny : Bool) (Y : List Raw) (h1 : 1 ≤ A.length) (hAm : A.length ≤ 100) (hw : (A.getD 0 default).2.length = n) (hn : n ≤ 100) (hY : Y.length = n)
    (hX : denP E 36 [mraw na A, lraw nb B, lraw false (rl n Xf)] = some (.ret (.bool true))) (hy : denP E 36 [mraw na A, lraw nb B, lraw ny Y] = some (.ret (.bool true)))
    (hc : ∀ k, k < n - s → denP E 36 [mraw na A, lraw false (rl A.length fun _ => (true, 0)), lraw false (rl n (bf k))] = some (.ret (.bool true))) :
    denP E 43 [mraw na A, lraw nb B, lat true (lraw false (rl n Xf)) (mraw fb (BM n s bf)) (.lst true []) false true [], lraw ny Y] = some (.ret (.bool true)) := by
  refine denP_eq E43 rfl (by simp [AV.pureL, AV.pure, pure_ivr, pure_lr]) ?_
  have hg0 := get_lr (A := A) (i := 0) (by omega)
  have z00 : ((0 : Int) < (A.length : Int)) = True := eq_true (by omega)
  have hml : (A.map lr).length = A.length := List.length_map _
  have hml0 : ((A.getD 0 default).2.map ivr).length = n := by rw [List.length_map, hw]
  have hwi : ((A.getD 0 default).2.length : Int) = (n : Int) := by rw [hw]
  have hrx : ((rl n Xf).map ivr).length = n := by rw [List.length_map, rl_len]
  have hrx2 : ((rl n Xf).length : Int) = (n : Int) := by rw [rl_len]
  have hyi : (Y.length : Int) = (n : Int) := by rw [hY]
  have hBl : ((BM n s bf).length : Int) = ((n - s : Nat) : Int) := by rw [BM_len]
  have hBm : ((BM n s bf).map lr).length = n - s := by rw [List.length_map, BM_len]
  simp (maxSteps := 4000000) only [go_sem, seval, ↓reduceIte, reduceCtorEq, Try.f43, hg0, z00, hml, hml0, hwi, hrx, hrx2, hyi, hBl, hBm, Int.toNat_zero, purify_lraw, purify_mraw, places, fillAll]
  refine W_loopS (fun kk sl h nx => ∃ k : Nat, (∃ g : Nat → AV, sl = [mraw na A, lraw nb B, g 2, lraw ny Y, g 4, g 5, .ptr 0 0, g 7, g 8, .int .i64 (n : Int), g 10, g 11, g 12, g 13, g 14, g 15, g 16, g 17, g 18, g 19, g 20, g 21, g 22, g 23, g 24, g 25, g 26, g 27, g 28, g 29, g 30, g 31, g 32, mraw fb (BM n s bf), .int .i64 ((n - s : Nat) : Int), .int .i64 (k : Int), g 36, g 37, g 38, g 39, g 40, g 41, g 42, g 43, g 44, g 45, g 46, g 47, g 48, g 49, g 50, g 51, g 52, g 53, g 54, g 55, g 56, g 57, g 58, g 59, g 60, g 61, g 62, g 63]) ∧ k + kk = n - s ∧ 1 ≤ nx ∧ h 0 = some ⟨[.bool true, lraw false (rl n Xf), mraw fb (BM n s bf), .lst true [], .bool false, .lst true []], true, 6, false⟩) (n - s) ⟨0, garb rfl, by omega, Nat.le_refl _, by simp only [upd_apply, ↓reduceIte, Nat.reduceEqDiff, if_pos]⟩ ?_
  rintro kk _ h nx ⟨k, ⟨g, rfl⟩, hkk, hnx, h0⟩
  by_cases hk : k = n - s
  · have q1 : ((k : Int) < ((n - s : Nat) : Int)) = False := eq_false (by omega)
    simp (maxSteps := 4000000) only [go_sem, seval, ↓reduceIte, reduceCtorEq, q1, h0, hX, hy, purify_lraw, purify_mraw]
  · have q1 : ((k : Int) < ((n - s : Nat) : Int)) = True := eq_true (by omega)
    have q0 : ((0 : Int) ≤ (k : Int)) = True := eq_true (by omega)
    have w1 : IntKind.i64.wrap ((k + 1 : Nat) : Int) = ((k + 1 : Nat) : Int) := wrap64 (by omega) (by omega)
    have hg := get_lr (A := BM n s bf) (i := k) (by rw [BM_len]; omega)
    rw [BM_get (by omega)] at hg
    have hc1 := hc k (by omega)
    have zm0 : ((0 : Int) ≤ (A.length : Int)) = True := eq_true (by omega)
    have zm1 : ((A.length : Int) * 32 ≤ 281474976710656) = True := eq_true (by omega)
    have zm2 : ((A.length : Int) ≤ 9223372036854775807) = True := eq_true (by omega)
    have hrl : ((rl n (bf k)).map ivr).length = n := by rw [List.length_map, rl_len]
    have hrl2 : ((rl n (bf k)).length : Int) = (n : Int) := by rw [rl_len]
    have hpz := fun (m : Nat) (H : Heap) => refP_fr (n := m) (H := H) (id := nx) (len := A.length) (L := rl A.length fun _ => (true, 0)) (fz := false) (rl_len _ _)
    have x1 : (0 = nx) = False := eq_false (by omega)
    have x2 : (nx = 0) = False := eq_false (by omega)
    clear hX hy hc
    generalize rl n (bf k) = Rk at *
    simp (maxSteps := 4000000) only [go_sem, seval, ↓reduceIte, reduceCtorEq, q0, q1, hg, hBm, hrl, hrl2, hml, zm0, zm1, zm2, h0, x1, x2, w1, Int.le_refl, Int.toNat_natCast, reps_fr, hpz, hc1, purify_lraw, purify_mraw, places, fillAll]
    exact ⟨kk - 1, by omega, k + 1, garb rfl, by omega⟩
end Go.Proofs.Ytnpomadbaanpkaa

/- Walks: the multiples of a basis. (Own work of this repo.) -/
namespace Go.Proofs.Ytnpomadbaanpkaa
open Vm
open Lat (sm sm_congr sm_zero sm_delta sm_mul sm_sub bb)
set_option maxRecDepth 10000

theorem mapL_rows5 {n : Nat} {H : Heap} (v : Nat → AV) (P : Nat → Bool × List Raw) : ∀ l : List Nat, (∀ j ∈ l, ∃ is, purify n H (v j) = some (lr (P j), is)) → ∃ ids, mapL (purify n H) (l.map v) = some (l.map fun j => lr (P j), ids)
  | [], _ => ⟨[], rfl⟩
  | j :: l, h => by
    obtain ⟨is, h1⟩ := h j (by simp)
    obtain ⟨ids, h2⟩ := mapL_rows5 v P l fun i hi => h i (by simp [hi])
    exact ⟨is ++ ids, by simp only [List.map_cons, mapL, h1, h2]⟩
/-- A list of lists, out of the heap. -/
theorem refP_rows5 {n : Nat} {H : Heap} {id k : Nat} {v : Nat → AV} {P : Nat → Bool × List Raw} {fz : Bool} (h : ∀ j, j < k → ∃ is, purify n H (v j) = some (lr (P j), is)) :
    ∃ ids, refP n H id 0 k (some ⟨(List.range k).map v, false, 1, fz⟩) = some (.lst false ((List.range k).map fun j => lr (P j)), ids) := by
  obtain ⟨ids, h1⟩ := mapL_rows5 (n := n) (H := H) v P (List.range k) fun j hj => h j (List.mem_range.1 hj)
  refine ⟨id :: ids, ?_⟩
  unfold refP
  dsimp only
  rw [if_pos ⟨by simp, by simp, .inr rfl⟩, show (((List.range k).map v).drop 0).take (k * 1) = (List.range k).map v from by rw [List.drop_zero]; exact List.take_of_length_le (by simp), h1]
  dsimp only
  rw [elems_one _ _ (by simp)]
/-- Row i of the matrix whose columns are the basis, as far as k. -/
def rwB (bf : Nat → Nat → Bool × Int) (i k : Nat) : List Raw := (List.range k).map fun l => rz (bf l i)
theorem rwB_len (bf : Nat → Nat → Bool × Int) (i k : Nat) : (rwB bf i k).length = k := by unfold rwB; simp
theorem rwB_succ (bf : Nat → Nat → Bool × Int) (i k : Nat) : rwB bf i (k + 1) = rwB bf i k ++ [rz (bf k i)] := by
  unfold rwB; rw [List.range_succ, List.map_append]; rfl
/-- The matrix whose columns are the basis. -/
def RM5 (n k : Nat) (bf : Nat → Nat → Bool × Int) : Mat := (List.range n).map fun i => (false, rwB bf i k)
theorem RM5_len (n k : Nat) (bf : Nat → Nat → Bool × Int) : (RM5 n k bf).length = n := by unfold RM5; simp
theorem RM5_get {n k i : Nat} {bf : Nat → Nat → Bool × Int} (h : i < n) : (RM5 n k bf).getD i default = (false, rwB bf i k) := by
  unfold RM5
  rw [List.getD_eq_getElem?_getD, List.getElem?_map, List.getElem?_range h]; rfl
theorem RM5_cell {n k i l : Nat} {bf : Nat → Nat → Bool × Int} (h : i < n) (hl : l < k) : ((RM5 n k bf).getD i default).2.getD l default = rz (bf l i) := by
  rw [RM5_get h]
  show (rwB bf i k).getD l default = _
  unfold rwB
  rw [List.getD_eq_getElem?_getD, List.getElem?_map, List.getElem?_range hl]; rfl
theorem RM5_rowz {n k i l : Nat} {bf : Nat → Nat → Bool × Int} (h : i < n) (hl : l < k) : rowz (RM5 n k bf) i l = (bf l i).2 := by
  show zv (((RM5 n k bf).getD i default).2.getD l default) = _
  rw [RM5_cell h hl]
  exact zv_rz _
theorem each_subX (n : Nat) (hn : n ≤ 100) (ny : Bool) (Y : List Raw) (hY : Y.length = n) (vY : AllV Y) (Xf : Nat → Bool × Int) (hX : ∀ j, j < n → fits (Xf j).2) (hd : ∀ j, j < n → fits (zg Y j - (Xf j).2)) :
    denP E 63 [lraw ny Y, lraw false (rl n Xf), .fn 58 [] []] = some (.ret (lraw false (rl n fun j => (false, zg Y j - (Xf j).2)))) := by
  have h := each_nil 58 rfl ny Y false (rl n Xf) (fun j => zg Y j - (Xf j).2) (by rw [rl_len, hY]; exact Nat.le_refl _) (by omega) (fun i hi => by
    rw [hY] at hi
    rw [rl_get hi]
    obtain ⟨m1, m2, m3, m4, m5⟩ := zv_spec (vY.get (show i < Y.length by omega)).1 (vY.get (show i < Y.length by omega)).2
    have e : ivr (Y.getD i default) = I (Y.getD i default).2.1 (zg Y i) := m1
    rw [e]
    exact exSub_ret (Y.getD i default).2.1 (Xf i).1 (zg Y i) (Xf i).2 (by show (dg (zv (Y.getD i default))).length ≤ _; omega) (hX i hi) (hd i hi))
  rw [hY] at h
  exact h
set_option maxHeartbeats 2000000 in
theorem express_nil (n : Nat) (hn : n ≤ 100) (Xf : Nat → Bool × Int) (ny : Bool) (Y : List Raw) (hY : Y.length = n) (vY : AllV Y) (hX : ∀ j, j < n → fits (Xf j).2) (he : ∀ j, j < n → zg Y j = (Xf j).2) :
    denP E 44 [lat true (lraw false (rl n Xf)) (.lst true []) (.lst true []) false true [], lraw ny Y] = some (.ret (.tup [.lst true [], .bool true])) := by
  refine denP_eq E44 rfl (by simp [AV.pureL, AV.pure, pure_ivr, pure_lr]) ?_
  have e1 := each_subX n hn ny Y hY vY Xf hX (fun j hj => by rw [he j hj, Int.sub_self]; show (dg 0).length ≤ _; rw [dg_zero]; simp)
  have hz : ∀ j, j < n → (zg Y j - (Xf j).2) = 0 := fun j hj => by rw [he j hj, Int.sub_self]
  have hRl : ((rl n fun j => (false, zg Y j - (Xf j).2)).length : Int) = (n : Int) := by rw [rl_len]
  have hRm : ((rl n fun j => (false, zg Y j - (Xf j).2)).map ivr).length = n := by rw [List.length_map, rl_len]
  have hgr : ∀ j, j < n → ((rl n fun j => (false, zg Y j - (Xf j).2)).map ivr)[j]? = some (.agg [.bool false, .lst false []]) := fun j hj => by
    rw [get_ivr (by rw [rl_len]; exact hj), rl_get hj]
    simp only [rz, hz j hj, ng_zero, dg_zero]
    rfl
  generalize (rl n fun j => (false, zg Y j - (Xf j).2)) = R at *
  simp (maxSteps := 4000000) only [go_sem, seval, ↓reduceIte, reduceCtorEq, Try.f44, e1, hRl, purify_lraw, purify_mraw, places, fillAll]
  refine W_loopS (fun kk sl h nx => ∃ k : Nat, (∃ g : Nat → AV, sl = [g 0, g 1, g 2, g 3, g 4, g 5, g 6, g 7, g 8, g 9, g 10, g 11, g 12, g 13, g 14, g 15, g 16, g 17, g 18, g 19, g 20, g 21, g 22, lraw false R, .int .i64 (n : Int), .int .i64 (k : Int), g 26, g 27, g 28, g 29, g 30, g 31, g 32, g 33, g 34, g 35, g 36, g 37, g 38, g 39, g 40, g 41, g 42, g 43, g 44, g 45, g 46, g 47, g 48, g 49, g 50, g 51, g 52, g 53, g 54, g 55, g 56, g 57, g 58, g 59, g 60, g 61, g 62, g 63, g 64, g 65, g 66, g 67, g 68, g 69, g 70]) ∧ k + kk = n) n ⟨0, garb rfl, by omega⟩ ?_
  rintro kk _ h nx ⟨k, ⟨g, rfl⟩, hkk⟩
  by_cases hk : k = n
  · have q1 : ((k : Int) < (n : Int)) = False := eq_false (by omega)
    simp (maxSteps := 4000000) only [go_sem, seval, ↓reduceIte, reduceCtorEq, q1, purify_lnil]
  · have q1 : ((k : Int) < (n : Int)) = True := eq_true (by omega)
    have q0 : ((0 : Int) ≤ (k : Int)) = True := eq_true (by omega)
    have w1 : IntKind.i64.wrap ((k + 1 : Nat) : Int) = ((k + 1 : Nat) : Int) := wrap64 (by omega) (by omega)
    have hg := hgr k (by omega)
    have hz0 := exZero false 0
    rw [decide_eq_true rfl] at hz0
    simp only [I, ng_zero, dg_zero, List.map_nil] at hz0
    simp (maxSteps := 4000000) only [go_sem, seval, ↓reduceIte, reduceCtorEq, q0, q1, hg, hRm, w1, hz0, places, fillAll]
    exact ⟨kk - 1, by omega, k + 1, garb rfl, by omega⟩
end Go.Proofs.Ytnpomadbaanpkaa

/- Walks: the multiples of a basis, the whole. (Own work of this repo.) -/
namespace Go.Proofs.Ytnpomadbaanpkaa
open Vm
set_option maxRecDepth 10000

set_option maxHeartbeats 4000000 in
theorem express_some (n s q : Nat) (hq : q = n - s) (hq1 : 1 ≤ q) (hn1 : 1 ≤ n) (hn : n ≤ 100) (Xf : Nat → Bool × Int) (fb : Bool) (bf : Nat → Nat → Bool × Int) (ny : Bool) (Y : List Raw) (hY : Y.length = n) (W : List Raw) (hW : W.length = n) (fx : Bool) (xl : List AV) (hxl : AV.pureL xl = true)
    (he : denP E 63 [lraw ny Y, lraw false (rl n Xf), .fn 58 [] []] = some (.ret (lraw false W)))
    (hd : denP E 30 [mraw false (RM5 n q bf), lraw false W] = some (.ret (lat true (.lst fx xl) (.lst true []) (.lst true []) false true []))) :
    denP E 44 [lat true (lraw false (rl n Xf)) (mraw fb (BM n s bf)) (.lst true []) false true [], lraw ny Y] = some (.ret (.tup [.lst fx xl, .bool true])) := by
  refine denP_eq E44 rfl (by simp [AV.pureL, AV.pure, pure_ivr, pure_lr]) ?_
  have hBl : ((BM n s bf).length : Int) = (q : Int) := by rw [BM_len, hq]
  have hBm : ((BM n s bf).map lr).length = q := by rw [List.length_map, BM_len, hq]
  have hWl : (W.length : Int) = (n : Int) := by rw [hW]
  have zq0 : ((q : Int) = 0) = False := eq_false (by omega)
  have hBg : ∀ k, k < q → ((BM n s bf).map lr)[k]? = some (.lst false ((rl n (bf k)).map ivr)) := fun k hk => by
    rw [get_lr (by rw [BM_len]; omega), BM_get (by omega)]
  generalize BM n s bf = BMv at *
  simp (maxSteps := 4000000) only [go_sem, seval, ↓reduceIte, reduceCtorEq, Try.f44, he, hBl, zq0, hWl, purify_lraw, purify_mraw, places, fillAll]
  clear he
  refine W_loopS (fun ii sl h nx => ∃ (i id : Nat) (ids : Nat → Nat), (∃ g : Nat → AV, sl = [g 0, g 1, .ptr 0 0, g 3, g 4, g 5, lraw false W, g 7, g 8, (if i = 0 then .lst true [] else .ref id 0 i), g 10, g 11, g 12, g 13, g 14, g 15, g 16, g 17, g 18, g 19, g 20, g 21, g 22, g 23, g 24, g 25, g 26, g 27, g 28, g 29, g 30, g 31, g 32, g 33, .int .i64 (n : Int), .int .i64 (i : Int), g 36, g 37, g 38, g 39, g 40, g 41, g 42, g 43, g 44, g 45, g 46, g 47, g 48, g 49, g 50, g 51, g 52, g 53, g 54, g 55, g 56, g 57, g 58, g 59, g 60, g 61, g 62, g 63, g 64, g 65, g 66, g 67, g 68, g 69, g 70]) ∧ i + ii = n ∧ 1 ≤ nx ∧ h 0 = some ⟨[.bool true, lraw false (rl n Xf), mraw fb BMv, .lst true [], .bool false, .lst true []], true, 6, false⟩ ∧ (i ≠ 0 → 1 ≤ id ∧ id < nx ∧ h id = some ⟨(List.range i).map fun j => .ref (ids j) 0 q, false, 1, false⟩) ∧ ∀ j, j < i → ids j < nx ∧ ids j ≠ id ∧ h (ids j) = some ⟨fr (rwB bf j q), true, 2, false⟩) n ⟨0, 0, fun _ => 0, garb rfl, by omega, Nat.le_refl _, by simp only [upd_apply, ↓reduceIte, Nat.reduceEqDiff, if_pos], fun e => absurd rfl e, fun j hj => absurd hj (Nat.not_lt_zero j)⟩ ?_
  rintro ii _ h nx ⟨i, id, ids, ⟨g, rfl⟩, hii, hnx, h0, hid, hids⟩
  by_cases hi : i = n
  · have q1 : ((i : Int) < (n : Int)) = False := eq_false (by omega)
    have hi0 : i ≠ 0 := by omega
    obtain ⟨d0, d1, d2⟩ := hid hi0
    obtain ⟨is, hp⟩ := refP_rows5 (n := 4) (H := h) (id := id) (k := i) (v := fun j => .ref (ids j) 0 q) (P := fun j => (false, rwB bf j q)) (fz := false) fun j hj => by
      refine ⟨[ids j], ?_⟩
      rw [show (4 : Nat) = 3 + 1 from rfl, purify_ref, (hids j hj).2.2]
      exact refP_fr (rwB_len bf j q)
    have hT : (List.range i).map (fun j => lr (false, rwB bf j q)) = (RM5 n q bf).map lr := by rw [hi]; unfold RM5; rw [List.map_map]; rfl
    rw [hT] at hp
    rw [if_neg hi0]
    have hpx : ∀ (m : Nat) (H : Heap), purify (m + 1) H (.lst fx xl) = some (.lst fx xl, []) := fun m H => purify_lst hxl
    generalize RM5 n q bf = T at *
    simp (maxSteps := 4000000) only [go_sem, seval, ↓reduceIte, reduceCtorEq, q1, d2, hp, hd, purify_lraw, places, fillAll]
    refine W_drawn ?_
    simp (maxSteps := 4000000) only [go_sem, seval, ↓reduceIte, reduceCtorEq, hpx, places, fillAll]
    rfl
  · have q1 : ((i : Int) < (n : Int)) = True := eq_true (by omega)
    have z0i : ((0 : Int) ≤ (i : Int)) = True := eq_true (by omega)
    have w1 : IntKind.i64.wrap ((i + 1 : Nat) : Int) = ((i + 1 : Nat) : Int) := wrap64 (by omega) (by omega)
    have hfin : ∀ (h' : Heap) (n' : Nat) (sl : List AV) (id' idl : Nat), (∃ g : Nat → AV, sl = [g 0, g 1, .ptr 0 0, g 3, g 4, g 5, lraw false W, g 7, g 8, .ref id' 0 (i + 1), g 10, g 11, g 12, g 13, g 14, g 15, g 16, g 17, g 18, g 19, g 20, g 21, g 22, g 23, g 24, g 25, g 26, g 27, g 28, g 29, g 30, g 31, g 32, g 33, .int .i64 (n : Int), .int .i64 ((i + 1 : Nat) : Int), g 36, g 37, g 38, g 39, g 40, g 41, g 42, g 43, g 44, g 45, g 46, g 47, g 48, g 49, g 50, g 51, g 52, g 53, g 54, g 55, g 56, g 57, g 58, g 59, g 60, g 61, g 62, g 63, g 64, g 65, g 66, g 67, g 68, g 69, g 70]) → idl < n' → h' id' = some ⟨((List.range i).map fun j => .ref (ids j) 0 q) ++ [.ref idl 0 q], false, 1, false⟩ → h' idl = some ⟨fr (rwB bf i q), true, 2, false⟩ → nx ≤ id' → id' < n' → idl ≠ id' → (∀ j, j < nx → j ≠ id ∨ i = 0 → h' j = h j) →
        ∃ ii', ii' < ii ∧ ∃ (i id : Nat) (ids : Nat → Nat), (∃ g : Nat → AV, sl = [g 0, g 1, .ptr 0 0, g 3, g 4, g 5, lraw false W, g 7, g 8, (if i = 0 then .lst true [] else .ref id 0 i), g 10, g 11, g 12, g 13, g 14, g 15, g 16, g 17, g 18, g 19, g 20, g 21, g 22, g 23, g 24, g 25, g 26, g 27, g 28, g 29, g 30, g 31, g 32, g 33, .int .i64 (n : Int), .int .i64 (i : Int), g 36, g 37, g 38, g 39, g 40, g 41, g 42, g 43, g 44, g 45, g 46, g 47, g 48, g 49, g 50, g 51, g 52, g 53, g 54, g 55, g 56, g 57, g 58, g 59, g 60, g 61, g 62, g 63, g 64, g 65, g 66, g 67, g 68, g 69, g 70]) ∧ i + ii' = n ∧ 1 ≤ n' ∧ h' 0 = some ⟨[.bool true, lraw false (rl n Xf), mraw fb BMv, .lst true [], .bool false, .lst true []], true, 6, false⟩ ∧ (i ≠ 0 → 1 ≤ id ∧ id < n' ∧ h' id = some ⟨(List.range i).map fun j => .ref (ids j) 0 q, false, 1, false⟩) ∧ ∀ j, j < i → ids j < n' ∧ ids j ≠ id ∧ h' (ids j) = some ⟨fr (rwB bf j q), true, 2, false⟩ := fun h' n' sl id' idl c0 c2 c3 c4 c5 c1 c7 c6 =>
      ⟨ii - 1, by omega, i + 1, id', fun j => if j = i then idl else ids j, by rw [if_neg (Nat.succ_ne_zero i)]; exact c0, by omega, by omega, (c6 0 (by omega) (by
        by_cases e : i = 0
        · exact .inr e
        · exact .inl (by have := (hid e).1; omega))).trans h0, fun _ => ⟨by omega, c1, by
        have e1 : (List.range i).map (fun j => AV.ref (if j = i then idl else ids j) 0 q) = (List.range i).map fun j => AV.ref (ids j) 0 q := List.map_congr_left fun j hj => by rw [if_neg (Nat.ne_of_lt (List.mem_range.1 hj))]
        rw [c3, List.range_succ, List.map_append, e1]
        simp⟩, fun j hj => by
        by_cases e : j = i
        · simp only [e, if_true]; exact ⟨c2, c7, c4⟩
        · simp only [e, if_false]
          obtain ⟨a1, a3, a2⟩ := hids j (by omega)
          exact ⟨by omega, by omega, (c6 _ a1 (.inl a3)).trans a2⟩⟩
    generalize hIQ : (fun (ii : Nat) (σ : St) => ∃ (i id : Nat) (ids : Nat → Nat), (∃ g : Nat → AV, σ.sl = [g 0, g 1, .ptr 0 0, g 3, g 4, g 5, lraw false W, g 7, g 8, (if i = 0 then .lst true [] else .ref id 0 i), g 10, g 11, g 12, g 13, g 14, g 15, g 16, g 17, g 18, g 19, g 20, g 21, g 22, g 23, g 24, g 25, g 26, g 27, g 28, g 29, g 30, g 31, g 32, g 33, .int .i64 (n : Int), .int .i64 (i : Int), g 36, g 37, g 38, g 39, g 40, g 41, g 42, g 43, g 44, g 45, g 46, g 47, g 48, g 49, g 50, g 51, g 52, g 53, g 54, g 55, g 56, g 57, g 58, g 59, g 60, g 61, g 62, g 63, g 64, g 65, g 66, g 67, g 68, g 69, g 70]) ∧ i + ii = n ∧ 1 ≤ σ.nx ∧ σ.h 0 = some ⟨[.bool true, lraw false (rl n Xf), mraw fb BMv, .lst true [], .bool false, .lst true []], true, 6, false⟩ ∧ (i ≠ 0 → 1 ≤ id ∧ id < σ.nx ∧ σ.h id = some ⟨(List.range i).map fun j => .ref (ids j) 0 q, false, 1, false⟩) ∧ ∀ j, j < i → ids j < σ.nx ∧ ids j ≠ id ∧ σ.h (ids j) = some ⟨fr (rwB bf j q), true, 2, false⟩) = IQ
    clear hd
    simp (maxSteps := 4000000) only [go_sem, seval, ↓reduceIte, reduceCtorEq, q1, h0, hBl, places, fillAll]
    refine W_loopS (fun kk sl h' nx' => ∃ (k : Nat) (v : AV), (∃ g : Nat → AV, sl = [g 0, g 1, .ptr 0 0, g 3, g 4, g 5, lraw false W, g 7, g 8, (if i = 0 then .lst true [] else .ref id 0 i), .int .i64 (i : Int), v, g 12, g 13, g 14, g 15, g 16, g 17, g 18, g 19, g 20, g 21, g 22, g 23, g 24, g 25, g 26, g 27, g 28, g 29, g 30, g 31, g 32, g 33, .int .i64 (n : Int), .int .i64 (i : Int), g 36, g 37, g 38, mraw fb BMv, .int .i64 (q : Int), .int .i64 (k : Int), g 42, g 43, g 44, g 45, g 46, g 47, g 48, g 49, g 50, g 51, g 52, g 53, g 54, g 55, g 56, g 57, g 58, g 59, g 60, g 61, g 62, g 63, g 64, g 65, g 66, g 67, g 68, g 69, g 70]) ∧ k + kk = q ∧ GrowQ h' nx' v (rwB bf i k) ∧ nx ≤ nx' ∧ (∀ i, i < nx → h' i = h i) ∧ ∀ a b, v = .ref a 0 b → nx ≤ a) q ⟨0, .lst true [], garb rfl, by omega, .inl ⟨rfl, rfl⟩, Nat.le_refl _, fun i hi => rfl, fun a b e => by cases e⟩ ?_
    rintro kk _ h' nx' ⟨k, v, ⟨g2, rfl⟩, hkk, hG, hnx', hfr, hlo⟩
    have hlen := rwB_len bf i k
    by_cases hk : k = q
    · have q2 : ((k : Int) < (q : Int)) = False := eq_false (by omega)
      rcases hG with ⟨g1, _⟩ | ⟨hl0, idl, hidl, rfl, hH⟩
      · rw [g1] at hlen; simp at hlen; omega
      · have hlo' := hlo _ _ rfl
        rw [hlen]
        rw [hk] at hH
        have hmem1 : ((2 * 1 + 1000) * 24 ≤ 281474976710656) = True := eq_true (by omega)
        have hmem2 : ((2 * (i + 1) + 1000) * 24 ≤ 281474976710656) = True := eq_true (by omega)
        have x1 : (idl = nx') = False := eq_false (by omega)
        have x2 : (idl = nx' + 1) = False := eq_false (by omega)
        by_cases hi0 : i = 0
        · rw [if_pos hi0]
          simp (maxSteps := 4000000) only [go_sem, seval, ↓reduceIte, reduceCtorEq, q2, appendEff, srcCells, reps, places, fillAll, flat, hmem1]
          rw [w1, ← hIQ]
          subst hi0
          refine hfin _ _ _ (nx' + 1) idl ?_ (by dsimp only; omega) ?_ ?_ (by omega) (by dsimp only; omega) (by omega) fun j hj _ => ?_
          · exact garb rfl
          · simp only [upd_apply, ↓reduceIte, Nat.reduceEqDiff, if_pos]; rw [hk]; rfl
          · simp only [upd_apply, ↓reduceIte, Nat.reduceEqDiff, x1, x2]; exact hH
          · exact (upd_ne (by omega)).trans ((upd_ne (by omega)).trans (hfr j hj))
        · obtain ⟨d0, d1, d2⟩ := hid hi0
          have d3 := (hfr id d1).trans d2
          have x3 : (id = nx') = False := eq_false (by omega)
          have x4 : (nx' = id) = False := eq_false (by omega)
          have x5 : (id = nx' + 1) = False := eq_false (by omega)
          have x6 : (nx' + 1 = id) = False := eq_false (by omega)
          have x7 : (idl = id) = False := eq_false (by omega)
          have hll : ((List.range i).map fun j => AV.ref (ids j) 0 q).length = i := by simp
          rw [if_neg hi0]
          generalize hcs : ((List.range i).map fun j => AV.ref (ids j) 0 q) = cs at *
          simp (maxSteps := 4000000) only [go_sem, seval, ↓reduceIte, reduceCtorEq, q2, d3, hll, x3, x4, x5, x6, appendEff, srcCells, reps, places, fillAll, flat, hmem2]
          rw [w1, ← hIQ]
          refine hfin _ _ _ (nx' + 1) idl ?_ (by dsimp only; omega) ?_ ?_ (by omega) (by dsimp only; omega) (by omega) fun j hj hj2 => ?_
          · exact garb rfl
          · simp only [upd_apply, ↓reduceIte, Nat.reduceEqDiff, if_pos]; rw [hk]
          · simp only [upd_apply, ↓reduceIte, Nat.reduceEqDiff, x1, x2, x7]; exact hH
          · simp only [upd_apply]
            (repeat rw [if_neg (by omega)])
            exact hfr j hj
    · have q2 : ((k : Int) < (q : Int)) = True := eq_true (by omega)
      have z0k : ((0 : Int) ≤ (k : Int)) = True := eq_true (by omega)
      have hgb := hBg k (by omega)
      have hge := get_ivr (L := rl n (bf k)) (i := i) (by rw [rl_len]; omega)
      rw [rl_get (show i < n by omega)] at hge
      have hlr : ((rl n (bf k)).length : Int) = (n : Int) := by rw [rl_len]
      have hmr : ((rl n (bf k)).map ivr).length = n := by rw [List.length_map, rl_len]
      have w2 : IntKind.i64.wrap ((k + 1 : Nat) : Int) = ((k + 1 : Nat) : Int) := wrap64 (by omega) (by omega)
      have hs := rwB_succ bf i k
      have hfin2 : ∀ (H : Heap) (N : Nat) (sl : List AV) (v' : AV), (∃ g : Nat → AV, sl = [g 0, g 1, .ptr 0 0, g 3, g 4, g 5, lraw false W, g 7, g 8, (if i = 0 then .lst true [] else .ref id 0 i), .int .i64 (i : Int), v', g 12, g 13, g 14, g 15, g 16, g 17, g 18, g 19, g 20, g 21, g 22, g 23, g 24, g 25, g 26, g 27, g 28, g 29, g 30, g 31, g 32, g 33, .int .i64 (n : Int), .int .i64 (i : Int), g 36, g 37, g 38, mraw fb BMv, .int .i64 (q : Int), .int .i64 ((k + 1 : Nat) : Int), g 42, g 43, g 44, g 45, g 46, g 47, g 48, g 49, g 50, g 51, g 52, g 53, g 54, g 55, g 56, g 57, g 58, g 59, g 60, g 61, g 62, g 63, g 64, g 65, g 66, g 67, g 68, g 69, g 70]) → GrowQ H N v' (rwB bf i k ++ [rz (bf k i)]) → nx' ≤ N → (∀ i, i < nx → H i = h' i) → (∀ a b, v' = .ref a 0 b → nx ≤ a) →
          ∃ kk', kk' < kk ∧ ∃ (k : Nat) (v : AV), (∃ g : Nat → AV, sl = [g 0, g 1, .ptr 0 0, g 3, g 4, g 5, lraw false W, g 7, g 8, (if i = 0 then .lst true [] else .ref id 0 i), .int .i64 (i : Int), v, g 12, g 13, g 14, g 15, g 16, g 17, g 18, g 19, g 20, g 21, g 22, g 23, g 24, g 25, g 26, g 27, g 28, g 29, g 30, g 31, g 32, g 33, .int .i64 (n : Int), .int .i64 (i : Int), g 36, g 37, g 38, mraw fb BMv, .int .i64 (q : Int), .int .i64 (k : Int), g 42, g 43, g 44, g 45, g 46, g 47, g 48, g 49, g 50, g 51, g 52, g 53, g 54, g 55, g 56, g 57, g 58, g 59, g 60, g 61, g 62, g 63, g 64, g 65, g 66, g 67, g 68, g 69, g 70]) ∧ k + kk' = q ∧ GrowQ H N v (rwB bf i k) ∧ nx ≤ N ∧ (∀ i, i < nx → H i = h i) ∧ ∀ a b, v = .ref a 0 b → nx ≤ a := fun H N sl v' c0 c1 c2 c3 c4 => ⟨kk - 1, by omega, k + 1, v', c0, by omega, by rw [hs]; exact c1, by omega, fun j hj => (c3 j hj).trans (hfr j hj), c4⟩
      generalize hIQ2 : (fun (kk : Nat) (σ : St) => ∃ (k : Nat) (v : AV), (∃ g : Nat → AV, σ.sl = [g 0, g 1, .ptr 0 0, g 3, g 4, g 5, lraw false W, g 7, g 8, (if i = 0 then .lst true [] else .ref id 0 i), .int .i64 (i : Int), v, g 12, g 13, g 14, g 15, g 16, g 17, g 18, g 19, g 20, g 21, g 22, g 23, g 24, g 25, g 26, g 27, g 28, g 29, g 30, g 31, g 32, g 33, .int .i64 (n : Int), .int .i64 (i : Int), g 36, g 37, g 38, mraw fb BMv, .int .i64 (q : Int), .int .i64 (k : Int), g 42, g 43, g 44, g 45, g 46, g 47, g 48, g 49, g 50, g 51, g 52, g 53, g 54, g 55, g 56, g 57, g 58, g 59, g 60, g 61, g 62, g 63, g 64, g 65, g 66, g 67, g 68, g 69, g 70]) ∧ k + kk = q ∧ GrowQ σ.h σ.nx v (rwB bf i k) ∧ nx ≤ σ.nx ∧ (∀ i, i < nx → σ.h i = h i) ∧ ∀ a b, v = .ref a 0 b → nx ≤ a) = IQ2
      clear hs hfin hIQ hids hid hBg
      generalize rl n (bf k) = Rk at *
      generalize rz (bf k i) = qq at *
      generalize rwB bf i k = M at *
      generalize (if i = 0 then AV.lst true [] else .ref id 0 i) = ov at *
      have hmem : ((2 * (k + 1) + 1000) * 32 ≤ 281474976710656) = True := eq_true (by omega)
      have hmem1 : ((2 * 1 + 1000) * 32 ≤ 281474976710656) = True := eq_true (by omega)
      rcases hG with ⟨rfl, rfl⟩ | ⟨hl0, idl, hidl, rfl, hH⟩
      · simp (maxSteps := 4000000) only [go_sem, seval, ↓reduceIte, reduceCtorEq, q1, q2, z0i, z0k, hgb, hBm, hge, hlr, hmr, appendEff, srcCells, reps, places, fillAll, flat, hmem1]
        rw [w2, ← hIQ2]
        refine hfin2 _ _ _ _ (garb rfl) (.inr ⟨by simp, nx' + 1, by dsimp only; omega, rfl, ?_⟩) (by dsimp only; omega) (fun j hj => (upd_ne (by omega)).trans (upd_ne (by omega))) (fun a b e => by injection e with e1; omega)
        simp only [upd_apply, ↓reduceIte, Nat.reduceEqDiff, if_pos]
        rfl
      · have x1 : (idl = nx') = False := eq_false (by omega)
        have x2 : (nx' = idl) = False := eq_false (by omega)
        have x3 : (idl = nx' + 1) = False := eq_false (by omega)
        have x4 : (nx' + 1 = idl) = False := eq_false (by omega)
        have hfl := fr_len M
        rw [hlen] at hfl
        simp (maxSteps := 4000000) only [go_sem, seval, ↓reduceIte, reduceCtorEq, q1, q2, z0i, z0k, hgb, hBm, hge, hlr, hmr, hH, hlen, hfl, x1, x2, x3, x4, appendEff, srcCells, reps, places, fillAll, flat, hmem]
        rw [w2, ← hIQ2]
        refine hfin2 _ _ _ _ (garb rfl) (.inr ⟨by simp, nx' + 1, by dsimp only; omega, by rw [List.length_append, hlen]; rfl, ?_⟩) (by dsimp only; omega) (fun j hj => by have := hlo _ _ rfl; simp only [upd_apply]; (repeat rw [if_neg (by omega)])) (fun a b e => by injection e with e1; omega)
        rw [fr_app]
        simp only [upd_apply, ↓reduceIte, Nat.reduceEqDiff, if_pos]
        rfl
end Go.Proofs.Ytnpomadbaanpkaa

/- Walks: Express. (Own work of this repo.) -/
namespace Go.Proofs.Ytnpomadbaanpkaa
open Vm
set_option maxRecDepth 10000

theorem okV_rz {e : Bool × Int} (h : fits e.2) : okV (rz e) = true := by
  have h1 := valid_I e.1 e.2 h
  have h2 := validAny (ng e.2) e.1 (dg e.2) (by omega)
  rw [show iv (ng e.2) e.1 (dg e.2) = I e.1 e.2 from rfl, h1] at h2
  have h3 : true = rvalidW (ng e.2) (dg e.2) := by simpa using h2
  exact h3.symm
theorem all_rl {n : Nat} {f : Nat → Bool × Int} (h : ∀ j, j < n → fits (f j).2) : (rl n f).all okV = true := by
  rw [List.all_eq_true]
  intro q hq
  obtain ⟨j, hj, rfl⟩ := List.mem_map.1 hq
  exact okV_rz (h j (List.mem_range.1 hj))
theorem short_rl {n : Nat} {f : Nat → Bool × Int} (hn : n ≤ 100) (h : ∀ j, j < n → fits (f j).2) : Short (rl n f) := by
  refine ⟨by rw [rl_len]; omega, fun q hq => ?_⟩
  obtain ⟨j, hj, rfl⟩ := List.mem_map.1 hq
  have := h j (List.mem_range.1 hj)
  show (dg (f j).2).length < _
  omega
theorem inR_rl {n : Nat} {f : Nat → Bool × Int} : ∀ q ∈ rl n f, InR q.2.2 := fun q hq => by
  obtain ⟨j, hj, rfl⟩ := List.mem_map.1 hq
  exact dg_inR _
abbrev latL (n s : Nat) (Xf : Nat → Bool × Int) (fb : Bool) (bf : Nat → Nat → Bool × Int) : AV := lat true (lraw false (rl n Xf)) (mraw fb (BM n s bf)) (.lst true []) false true []
theorem express1_open (na : Bool) (A : Mat) (nb : Bool) (B : List Raw) (n s : Nat) (Xf : Nat → Bool × Int) (fb : Bool) (bf : Nat → Nat → Bool × Int) (ny : Bool) (Y : List Raw) (fk : Bool) (kl : List AV) (hw : (A.getD 0 default).2.length = n) (h1 : 1 ≤ A.length)
    (hf : denP E 43 [mraw na A, lraw nb B, latL n s Xf fb bf, lraw ny Y] = some (.ret (.bool true)))
    (he : denP E 44 [latL n s Xf fb bf, lraw ny Y] = some (.ret (.tup [.lst fk kl, .bool true])))
    (h : Heap) (nx : Nat) (hn : 8 ≤ nx) (r0 : h 0 = some (bx (mraw na A))) (r1 : h 1 = some (bx (lraw nb B))) (r2 : h 2 = some (lrw true (lraw false (rl n Xf)) (mraw fb (BM n s bf)) (.lst true []) false true [])) (r3 : h 3 = some (bx (lraw ny Y))) (r5 : h 5 = some (bx (.lst true []))) (r6 : h 6 = some (bx (.bool false))) (r7 : h 7 = some (bx (.bool false))) :
    ∃ h' n', denO E 42 [.ptr 0 0, .ptr 1 0, .ptr 2 0, .ptr 3 0, .ptr 6 0, .ptr 5 0, .ptr 7 0] h nx = some (.ret (.tup []), h', n') ∧ nx ≤ n' ∧ h' 6 = some (bx (.bool true)) ∧ h' 5 = some (bx (.lst fk kl)) ∧ h' 7 = some (bx (.bool true)) ∧ ∀ i, i ≠ 5 → i ≠ 6 → i ≠ 7 → i < nx → h' i = h i := by
  have key : ∃ v h' n', denO E 42 [.ptr 0 0, .ptr 1 0, .ptr 2 0, .ptr 3 0, .ptr 6 0, .ptr 5 0, .ptr 7 0] h nx = some (.ret v, h', n') ∧ v = .tup [] ∧ nx ≤ n' ∧ h' 6 = some (bx (.bool true)) ∧ h' 5 = some (bx (.lst fk kl)) ∧ h' 7 = some (bx (.bool true)) ∧ ∀ i, i ≠ 5 → i ≠ 6 → i ≠ 7 → i < nx → h' i = h i := by
    refine denO_intro E42 rfl ?_
    have hg0 := get_lr (A := A) (i := 0) (by omega)
    have z00 : ((0 : Int) < (A.length : Int)) = True := eq_true (by omega)
    have hml : (A.map lr).length = A.length := List.length_map _
    have hml0 : ((A.getD 0 default).2.map ivr).length = n := by rw [List.length_map, hw]
    have hwi : ((A.getD 0 default).2.length : Int) = (n : Int) := by rw [hw]
    have hBl : ((BM n s bf).length : Int) = ((n - s : Nat) : Int) := by rw [BM_len]
    have hBm : ((BM n s bf).map lr).length = n - s := by rw [List.length_map, BM_len]
    have zq : (((n - s : Nat) : Int) ≤ (n : Int)) = True := eq_true (by omega)
    simp only [latL] at hf he
    generalize BM n s bf = BMv at *
    simp (maxSteps := 4000000) only [go_sem, seval, ↓reduceIte, reduceCtorEq, Try.f42, r0, r1, r2, r3, r5, r6, r7, hf, he, purify_lraw, purify_mraw, purify_lnil, places, fillAll]
    refine W_drawn ?_
    simp (maxSteps := 4000000) only [go_sem, seval, ↓reduceIte, reduceCtorEq, r0, r1, r2, r3, r5, r6, r7, hg0, z00, hml, hml0, hwi, hBl, hBm, zq, Int.toNat_zero, purify_lraw, purify_mraw, purify_lnil, places, fillAll]
    refine ⟨by rfl, ?_⟩
    simp (maxSteps := 4000000) only [go_sem, seval, ↓reduceIte, reduceCtorEq, r0, r1, r2, r3, r5, r6, r7, he, purify_lraw, purify_mraw, purify_lnil, places, fillAll]
    intro i i5 i6 i7 _
    rw [if_neg i7, if_neg i5, if_neg i6]
  obtain ⟨v, h', n', h1, rfl, h2⟩ := key
  exact ⟨h', n', h1, h2⟩
set_option maxHeartbeats 2000000 in
theorem Express_ok (na : Bool) (A : Mat) (nb : Bool) (B : List Raw) (hA : ShortM A) (hB : Short B) (iA : InM A) (iB : ∀ q ∈ B, InR q.2.2) (hsys : sysB A B = true) (n s : Nat) (hw : (A.getD 0 default).2.length = n) (Xf : Nat → Bool × Int) (fb : Bool) (bf : Nat → Nat → Bool × Int) (ny : Bool) (Y : List Raw) (sY : Short Y) (hYv : Y.all okV = true)
    (hXf : ∀ j, j < n → fits (Xf j).2) (hbf : ∀ k j, k < n - s → j < n → fits (bf k j).2) (fk : Bool) (kl : List AV) (hkl : AV.pureL kl = true)
    (hf : denP E 43 [mraw na A, lraw nb B, latL n s Xf fb bf, lraw ny Y] = some (.ret (.bool true)))
    (he : denP E 44 [latL n s Xf fb bf, lraw ny Y] = some (.ret (.tup [.lst fk kl, .bool true]))) :
    denP E 11 [mraw na A, lraw nb B, latL n s Xf fb bf, lraw ny Y] = some (.ret (.tup [.lst fk kl, .int .i64 0])) := by
  refine denP_eq E11 rfl (by simp [AV.pureL, AV.pure, pure_ivr, pure_lr]) ?_
  have hok := sys_ok iA iB hsys
  rw [hw] at hok
  have s1 := sys_spec na A nb B hA hB iA iB
  rw [hsys] at s1
  have v1 := exValidL false (rl n Xf) (short_rl (by have := hok.cols; omega) hXf)
  rw [all_rl hXf] at v1
  have v2 := exValidL true [] ⟨by decide, by simp⟩
  have v3 := exValidL false [rz (true, 0)] ⟨by decide, fun q hq => by simp only [List.mem_cons, List.not_mem_nil, or_false] at hq; rw [hq]; show (dg 0).length < _; rw [dg_zero]; decide⟩
  have hz0 : (List.all [rz (true, 0)] okV) = true := by
    rw [List.all_cons, okV_rz (by show (dg 0).length ≤ _; rw [dg_zero]; simp)]; rfl
  rw [hz0] at v3
  have v3' : denP E 34 [.lst false [.agg [.bool false, .lst true []]]] = some (.ret (.bool true)) := by
    have e : lraw false [rz (true, 0)] = .lst false [.agg [.bool false, .lst true []]] := by simp only [rz, ng_zero, dg_zero]; rfl
    rw [← e]; exact v3
  have v4 := exValidL ny Y sY
  rw [hYv] at v4
  have v2' : denP E 34 [.lst true []] = some (.ret (.bool true)) := v2
  have hBl : ((BM n s bf).length : Int) = ((n - s : Nat) : Int) := by rw [BM_len]
  have hBm : ((BM n s bf).map lr).length = n - s := by rw [List.length_map, BM_len]
  have vB : ∀ k, k < n - s → ((BM n s bf).map lr)[k]? = some (.lst false ((rl n (bf k)).map ivr)) ∧ denP E 34 [lraw false (rl n (bf k))] = some (.ret (.bool true)) := fun k hk => by
    refine ⟨by rw [get_lr (by rw [BM_len]; omega), BM_get (by omega)], ?_⟩
    have := exValidL false (rl n (bf k)) (short_rl (by have := hok.cols; omega) (hbf k · hk))
    rw [all_rl (hbf k · hk)] at this
    exact this
  have hr : ∀ H0 : Heap, H0 0 = some (bx (mraw na A)) → H0 1 = some (bx (lraw nb B)) → H0 2 = some (lrw true (lraw false (rl n Xf)) (mraw fb (BM n s bf)) (.lst true []) false true []) → H0 3 = some (bx (lraw ny Y)) → H0 5 = some (bx (.lst true [])) → H0 6 = some (bx (.bool false)) → H0 7 = some (bx (.bool false)) → ∃ H' N', denO E 28 [.fn 42 [] [.ptr 0 0, .ptr 1 0, .ptr 2 0, .ptr 3 0, .ptr 6 0, .ptr 5 0, .ptr 7 0]] H0 8 = some (.ret (.int .i64 0), H', N') ∧ H' 6 = some (bx (.bool true)) ∧ H' 5 = some (bx (.lst fk kl)) ∧ H' 7 = some (bx (.bool true)) := fun H0 c0 c1 c2 c3 c5 c6 c7 => by
    have up : ∀ j, j < 8 → (H0.upd 8 (some ⟨[.int .i64 0], false, 1, false⟩)) j = H0 j := fun j hj => upd_ne (by omega)
    obtain ⟨h', n', d1, d2, d3, d4, d5, d6⟩ := express1_open na A nb B n s Xf fb bf ny Y fk kl hw (by have := hok.rows; omega) hf he (H0.upd 8 (some ⟨[.int .i64 0], false, 1, false⟩)) 9 (by decide) ((up 0 (by decide)).trans c0) ((up 1 (by decide)).trans c1) ((up 2 (by decide)).trans c2) ((up 3 (by decide)).trans c3) ((up 5 (by decide)).trans c5) ((up 6 (by decide)).trans c6) ((up 7 (by decide)).trans c7)
    obtain ⟨H', N', q1, q2, q3⟩ := try_ret 42 [] [.ptr 0 0, .ptr 1 0, .ptr 2 0, .ptr 3 0, .ptr 6 0, .ptr 5 0, .ptr 7 0] rfl _ H0 h' 8 n' d1 ((d6 8 (by decide) (by decide) (by decide) (by decide)).trans (if_pos rfl)) (by omega)
    exact ⟨H', N', q1, (q3 6 (by decide) (by omega)).trans d3, (q3 5 (by decide) (by omega)).trans d4, (q3 7 (by decide) (by omega)).trans d5⟩
  have hpk : ∀ (m : Nat) (H : Heap), purify (m + 1) H (.lst fk kl) = some (.lst fk kl, []) := fun m H => purify_lst hkl
  clear hf he v2 v3 hz0 hXf hbf
  simp only [latL]
  generalize BM n s bf = BMv at *
  simp (maxSteps := 4000000) only [go_sem, seval, ↓reduceIte, reduceCtorEq, Try.f11, s1, v1, v2', v3', v4, hBl, purify_lraw, purify_mraw, purify_lnil, refP, elems, List.headD_cons, reps, places, fillAll]
  refine W_loopS (fun kk sl h nx => ∃ k : Nat, (∃ g : Nat → AV, sl = [g 0, g 1, g 2, g 3, .ptr 0 0, .ptr 1 0, .ptr 2 0, .ptr 3 0, g 8, g 9, .bool true, g 11, g 12, g 13, g 14, g 15, g 16, g 17, g 18, g 19, g 20, g 21, g 22, g 23, g 24, g 25, g 26, g 27, g 28, g 29, g 30, g 31, g 32, g 33, g 34, g 35, g 36, g 37, g 38, g 39, g 40, mraw fb BMv, .int .i64 ((n - s : Nat) : Int), .int .i64 (k : Int), g 44, g 45, g 46, g 47, g 48, g 49, g 50, g 51, g 52, g 53, g 54, g 55, g 56, g 57, g 58, g 59, g 60, g 61, g 62, g 63, g 64, g 65, g 66, g 67]) ∧ k + kk = n - s ∧ nx = 5 ∧ h 0 = some (bx (mraw na A)) ∧ h 1 = some (bx (lraw nb B)) ∧ h 2 = some (lrw true (lraw false (rl n Xf)) (mraw fb BMv) (.lst true []) false true []) ∧ h 3 = some (bx (lraw ny Y))) (n - s) ⟨0, garb rfl, by omega, rfl, by simp only [upd_apply, ↓reduceIte, Nat.reduceEqDiff, if_pos], by simp only [upd_apply, ↓reduceIte, Nat.reduceEqDiff, if_pos], by simp only [upd_apply, ↓reduceIte, Nat.reduceEqDiff, if_pos], by simp only [upd_apply, ↓reduceIte, Nat.reduceEqDiff, if_pos]⟩ ?_
  rintro kk _ h nx ⟨k, ⟨g, rfl⟩, hkk, rfl, r0, r1, r2, r3⟩
  by_cases hk : k = n - s
  · have q1 : ((k : Int) < ((n - s : Nat) : Int)) = False := eq_false (by omega)
    simp (maxSteps := 4000000) only [go_sem, seval, ↓reduceIte, reduceCtorEq, q1, places, fillAll]
    refine openK_int (e := 0) (fun H' _ => H' 6 = some (bx (.bool true)) ∧ H' 5 = some (bx (.lst fk kl)) ∧ H' 7 = some (bx (.bool true))) ?_ ?_
    · exact hr _ (by simp only [upd_apply, ↓reduceIte, Nat.reduceEqDiff, r0]) (by simp only [upd_apply, ↓reduceIte, Nat.reduceEqDiff, r1]) (by simp only [upd_apply, ↓reduceIte, Nat.reduceEqDiff, r2]) (by simp only [upd_apply, ↓reduceIte, Nat.reduceEqDiff, r3]) (by simp only [upd_apply, ↓reduceIte, Nat.reduceEqDiff, if_pos]) (by simp only [upd_apply, ↓reduceIte, Nat.reduceEqDiff, if_pos]) (by simp only [upd_apply, ↓reduceIte, Nat.reduceEqDiff, if_pos])
    rintro H' N' ⟨k1, k2, k3⟩
    simp (maxSteps := 4000000) only [go_sem, seval, ↓reduceIte, reduceCtorEq, k1, k2, k3, hpk, Int.reduceEq]
  · have q1 : ((k : Int) < ((n - s : Nat) : Int)) = True := eq_true (by omega)
    have q0 : ((0 : Int) ≤ (k : Int)) = True := eq_true (by omega)
    have w1 : IntKind.i64.wrap ((k + 1 : Nat) : Int) = ((k + 1 : Nat) : Int) := wrap64 (by omega) (by have := hok.cols; omega)
    obtain ⟨g1, g2⟩ := vB k (by omega)
    clear hr vB v1 v2' v3' v4 s1
    generalize rl n (bf k) = Rk at *
    simp (maxSteps := 4000000) only [go_sem, seval, ↓reduceIte, reduceCtorEq, q0, q1, g1, g2, hBm, w1, purify_lraw, places, fillAll]
    exact ⟨kk - 1, by omega, k + 1, garb rfl, by omega, r0, r1, r2, r3⟩
end Go.Proofs.Ytnpomadbaanpkaa

/- Express finds the multiples. (Own work of this repo.) -/
namespace Go.Proofs.Ytnpomadbaanpkaa
open Vm
open Lat (sm sm_congr sm_zero sm_delta sm_mul sm_mul_l sm_sub sm_add sm_swap bb)
set_option maxRecDepth 10000

theorem cond8 : ∀ n, n < 9 → ∀ s, s < n → bb 200 s + 4 + bb (bb 200 s) (n - s - 1) < 131072 ∧ sb (bb 200 s) (sb 200 200 n s + 3) (n - s) (n - s) < 131072 := by decide +kernel
theorem cond8' : ∀ n, n < 9 → 200 + 4 + bb 200 (n - 1) < 131072 ∧ sb 200 200 n n < 100000 := by decide +kernel
theorem cond8s : ∀ n, n < 9 → ∀ s, s < n + 1 → bb 200 s ≤ sb 200 200 n s ∨ s = n := by decide +kernel
theorem allV_rl {n : Nat} {f : Nat → Bool × Int} (h : ∀ j, j < n → fits (f j).2) : AllV (rl n f) := fun q hq =>
  ⟨inR_rl q hq, List.all_eq_true.1 (all_rl h) q hq⟩
/-- A list that solves. -/
theorem holds_sol (na : Bool) (A : Mat) (nb : Bool) (B : List Raw) (nx' : Bool) (X : List Raw) (n p : Nat) (hA : MatV A n) (hB : AllV B) (hX : AllV X) (hAl : A.length ≤ B.length) (hAm : A.length ≤ 8) (hXl : X.length = n) (hn : n ≤ 8) (hp : 200 + p + 3 < 131072) (ha : ∀ i, i < A.length → ∀ j, j < n → (rowz A i j).natAbs ≤ 2 ^ 200) (hXb : ∀ j, j < n → (zg X j).natAbs ≤ 2 ^ p)
    (hs : ∀ i, i < A.length → sm (fun j => rowz A i j * zg X j) n = zg B i) : denP E 36 [mraw na A, lraw nb B, lraw nx' X] = some (.ret (.bool true)) := by
  have h := holds_spec na A nb B nx' X n hA hB hX hAl (by omega) (by omega) (by omega) (fit_bits (p := 200) (q := p) hn (by omega) ha hXb)
  have e : solB A (zg B) (zg X) A.length = true := by
    rw [solB_iff]
    intro i hi
    rw [← hs i hi, ← dz_sm]
    unfold rx
    rw [(hA i hi).2]
  rw [e] at h
  exact h
/-- A combination of lists, multiplied by a row. -/
theorem row_comb (a : Nat → Int) (w : Nat → Int) (f : Nat → Nat → Int) (n q : Nat) : sm (fun j => a j * sm (fun k => w k * f k j) q) n = sm (fun k => w k * sm (fun j => a j * f k j) n) q := by
  rw [sm_congr n (g := fun j => sm (fun k => a j * (w k * f k j)) q) fun j _ => (sm_mul_l _ _ q).symm, sm_swap]
  refine sm_congr q fun k _ => ?_
  rw [← sm_mul_l]
  exact sm_congr n fun j _ => by rw [← Int.mul_assoc, Int.mul_comm (a j), Int.mul_assoc]
set_option maxHeartbeats 1000000 in
theorem Express_of (na : Bool) (A : Mat) (nb : Bool) (B : List Raw) (hA : ShortM A) (hB : Short B) (iA : InM A) (iB : ∀ q ∈ B, InR q.2.2) (hsys : sysB A B = true) (n s : Nat) (hw : (A.getD 0 default).2.length = n) (Xf : Nat → Bool × Int) (bf : Nat → Nat → Bool × Int) (hS : Sol (rowz A) A.length n 200 200 (zg B) s (v2 (fun _ => Xf) 0) (v2 bf))
    (hbfl : ∀ k j, (bf k j).1 = true → (bf k j).2 = 0) (ny : Bool) (Y : List Raw) (sY : Short Y) (vY : AllV Y) (hYl : Y.length = n) (w : Nat → Int) (hYw : ∀ j, j < n → zg Y j = (Xf j).2 + sm (fun k => w k * (bf k j).2) (n - s)) (hYb : ∀ j, j < n → (zg Y j).natAbs ≤ 2 ^ (sb 200 200 n s + 2)) :
    ∃ Wf : Nat → Bool × Int, denP E 11 [mraw na A, lraw nb B, latM n s Xf bf, lraw ny Y] = some (.ret (.tup [lraw (decide (n = s)) (rl (n - s) Wf), .int .i64 0])) ∧ ∀ k, k < n - s → (Wf k).2 = w k ∧ fits (w k) := by
  have hok := sys_ok iA iB hsys
  rw [hw] at hok
  have hn8 := hok.cols.2
  have hn1 := hok.cols.1
  have hsn := hS.sn
  have hc8 := cond8' n (by omega)
  have hsb : sb 200 200 n s ≤ sb 200 200 n n := sb_mono _ _ _ hsn
  have hXb : ∀ j, j < n → ((Xf j).2).natAbs ≤ 2 ^ sb 200 200 n s := hS.xb
  have hXfit : ∀ j, j < n → fits (Xf j).2 := fun j hj => fits_bits (hXb j hj) (by omega)
  have hbb : ∀ k j, k < n - s → j < n → ((bf k j).2).natAbs ≤ 2 ^ bb 200 s := hS.bb
  have hbs : s < n → bb 200 s ≤ sb 200 200 n s := fun h => (cond8s n (by omega) s (by omega)).resolve_right (by omega)
  have hbfit : ∀ k j, k < n - s → j < n → fits (bf k j).2 := fun k j hk hj => fits_bits (hbb k j hk hj) (by have := hbs (by omega); omega)
  have hYv : Y.all okV = true := by rw [List.all_eq_true]; exact fun q hq => (vY q hq).2
  have hYs : ∀ i, i < A.length → sm (fun j => rowz A i j * zg Y j) n = zg B i := fun i hi => by
    rw [sm_congr n (g := fun j => rowz A i j * (Xf j).2 + rowz A i j * sm (fun k => w k * (bf k j).2) (n - s)) fun j hj => by rw [hYw j hj, Int.mul_add], sm_add, row_comb, sm_zero (n - s) fun k hk => by
      have := hS.hom k i hk hi
      rw [show sm (fun j => rowz A i j * (bf k j).2) n = 0 from this, Int.mul_zero], Int.add_zero]
    exact hS.sol i hi
  have hXs : ∀ i, i < A.length → sm (fun j => rowz A i j * zg (rl n Xf) j) n = zg B i := fun i hi => by
    rw [sm_congr n fun j hj => by rw [zg_rl hj]]
    exact hS.sol i hi
  have f1 := holds_sol na A nb B false (rl n Xf) n (sb 200 200 n s) hok.mat hok.vB (allV_rl hXfit) (by have := hok.right; omega) hok.rows.2 (rl_len _ _) hn8 (by omega) hok.bA (fun j hj => by rw [zg_rl hj]; exact hXb j hj) hXs
  have f2 := holds_sol na A nb B ny Y n (sb 200 200 n s + 2) hok.mat hok.vB vY (by have := hok.right; omega) hok.rows.2 hYl hn8 (by omega) hok.bA hYb hYs
  have hz0 : fits 0 := by show (dg 0).length ≤ _; rw [dg_zero]; simp
  have f3 : ∀ k, k < n - s → denP E 36 [mraw na A, lraw false (rl A.length fun _ => (true, 0)), lraw false (rl n (bf k))] = some (.ret (.bool true)) := fun k hk =>
    holds_sol na A false (rl A.length fun _ => (true, 0)) false (rl n (bf k)) n (bb 200 s) hok.mat (allV_rl fun _ _ => hz0) (allV_rl (hbfit k · hk)) (by rw [rl_len]; exact Nat.le_refl _) hok.rows.2 (rl_len _ _) hn8 (by have := hbs (by omega); omega) hok.bA (fun j hj => by rw [zg_rl hj]; exact hbb k j hk hj) fun i hi => by
      rw [zg_rl hi, sm_congr n fun j hj => by rw [zg_rl hj]]
      exact hS.hom k i hk hi
  have ff := fits_ok na A nb B n s Xf (decide (n = s)) bf ny Y hok.rows.1 (by have := hok.rows; omega) hw (by omega) hYl f1 f2 f3
  rw [latM_eq n s Xf bf hsn]
  by_cases hns : n = s
  · have hex := express_nil n (by omega) Xf ny Y hYl vY hXfit fun j hj => by
      rw [hYw j hj, show n - s = 0 by omega]
      show _ + 0 = _
      omega
    have hBM : BM n s bf = [] := List.eq_nil_of_length_eq_zero (by rw [BM_len]; omega)
    have hd : decide (n = s) = true := decide_eq_true hns
    have hE := Express_ok na A nb B hA hB iA iB hsys n s hw Xf (decide (n = s)) bf ny Y sY hYv hXfit hbfit true [] rfl ff (by rw [latL, hBM, hd]; exact hex)
    refine ⟨fun _ => (true, 0), ?_, fun k hk => by omega⟩
    rw [hd] at hE ⊢
    rw [show n - s = 0 by omega]
    exact hE
  · have hq1 : 1 ≤ n - s := by omega
    have hd : decide (n = s) = false := decide_eq_false hns
    obtain ⟨cE, cS⟩ := cond8 n (by omega) s (by omega)
    have hbs' := hbs (by omega)
    have hdf : ∀ j, j < n → (zg Y j - (Xf j).2).natAbs ≤ 2 ^ (sb 200 200 n s + 3) := fun j hj => by
      have e := add_bits (x := zg Y j) (y := -(Xf j).2) (r := sb 200 200 n s + 3) (hYb j hj) (by rw [Int.natAbs_neg]; exact hXb j hj) (by omega) (by omega)
      rwa [← Int.sub_eq_add_neg] at e
    have hdfit : ∀ j, j < n → fits (zg Y j - (Xf j).2) := fun j hj => fits_bits (hdf j hj) (by omega)
    have e1 := each_subX n (by omega) ny Y hYl vY Xf hXfit hdfit
    have hrow : ∀ i k, i < n → k < n - s → rowz (RM5 n (n - s) bf) i k = (bf k i).2 := fun i k hi hk => RM5_rowz hi hk
    have rowS : ∀ (f : Nat → Int) (i : Nat), i < n → sm (fun k => rowz (RM5 n (n - s) bf) i k * f k) (n - s) = sm (fun k => f k * (bf k i).2) (n - s) := fun f i hi => sm_congr _ fun k hk => by rw [hrow i k hi hk, Int.mul_comm]
    have hsolve := solve_ok false (RM5 n (n - s) bf) (n - s) (fun i hi => by
        rw [RM5_len] at hi
        rw [RM5_get hi]
        refine ⟨fun q hq => ?_, rwB_len _ _ _⟩
        obtain ⟨k, hk, rfl⟩ := List.mem_map.1 hq
        exact ⟨dg_inR _, okV_rz (hbfit k i (List.mem_range.1 hk) hi)⟩) (fun i hi k hk => by
        rw [RM5_len] at hi
        show ((((RM5 n (n - s) bf).getD i default).2.getD k default).2.1 = true → rowz _ i k = 0)
        rw [hrow i k hi hk, RM5_cell hi hk]
        exact hbfl k i) (by rw [RM5_len]; exact hn1) (by rw [RM5_len]; omega) hq1 (by omega) false (rl n fun j => (false, zg Y j - (Xf j).2)) (allV_rl hdfit) (by rw [rl_len, RM5_len]) (fun i hi h => by
        rw [RM5_len] at hi
        rw [rl_get hi] at h
        cases h) (bb 200 s) (sb 200 200 n s + 3) (fun i k hi hk => by rw [RM5_len] at hi; rw [hrow i k hi hk]; exact hbb k i hk hi) (fun i hi => by rw [RM5_len] at hi; rw [zg_rl hi]; exact hdf i hi) w (fun i hi => by
        rw [RM5_len] at hi
        rw [zg_rl hi, hYw i hi]
        show (Xf i).2 + _ - (Xf i).2 = _
        rw [rowS w i hi]
        omega) cE cS
    obtain ⟨v, hv, s', Xf', bf', rfl, hS', hfl1, hfl2⟩ := hsolve
    rw [RM5_len] at hS'
    have hs' : s' = n - s := by
      have h1 := hS'.sn
      rcases Nat.lt_or_ge s' (n - s) with h2 | h2
      · exfalso
        have h3 := hS.ind (fun j => (bf' 0 j).2) (fun i hi => by
          rw [← hS'.hom 0 i (by omega) hi]
          exact (rowS _ i hi).symm)
        have h4 := hS'.ind (fun k => if k = 0 then 1 else 0) (fun j hj => by
          refine sm_zero _ fun k hk => ?_
          by_cases e : k = 0
          · rw [e, show v2 bf' 0 j = 0 from h3 j hj, Int.mul_zero]
          · rw [if_neg e, Int.zero_mul]) 0 (by omega)
        simp at h4
      · omega
    have hXw : ∀ k, k < n - s → (Xf' k).2 = w k := fun k hk => by
      have h3 := hS.ind (fun k => (Xf' k).2 - w k) (fun i hi => by
        have e := hS'.sol i hi
        rw [rowS _ i hi, zg_rl hi, hYw i hi] at e
        show sm (fun k => ((Xf' k).2 - w k) * (bf k i).2) (n - s) = 0
        rw [sm_congr (n - s) (g := fun k => (Xf' k).2 * (bf k i).2 - w k * (bf k i).2) fun k _ => Int.sub_mul _ _ _, sm_sub]
        have e2 : sm (fun k => (Xf' k).2 * (bf k i).2) (n - s) = (Xf i).2 + sm (fun k => w k * (bf k i).2) (n - s) - (Xf i).2 := e
        rw [e2]
        omega) k hk
      have h3' : (Xf' k).2 - w k = 0 := h3
      omega
    have hfitw : ∀ k, k < n - s → fits (w k) := fun k hk => by
      rw [← hXw k hk]
      exact fits_bits (hS'.xb k hk) (by rw [hs']; exact cS)
    rw [latM, if_pos hs'.symm] at hv
    have hex := express_some n s (n - s) rfl hq1 hn1 (by omega) Xf (decide (n = s)) bf ny Y hYl (rl n fun j => (false, zg Y j - (Xf j).2)) (rl_len _ _) false ((rl (n - s) Xf').map ivr) (pure_ivr _) e1 hv
    have hE := Express_ok na A nb B hA hB iA iB hsys n s hw Xf (decide (n = s)) bf ny Y sY hYv hXfit hbfit false ((rl (n - s) Xf').map ivr) (pure_ivr _) ff hex
    refine ⟨Xf', ?_, fun k hk => ⟨hXw k hk, hfitw k hk⟩⟩
    rw [hd] at hE ⊢
    exact hE
end Go.Proofs.Ytnpomadbaanpkaa

/- Walks: a list plus multiples of lists. (Own work of this repo.) -/
namespace Go.Proofs.Ytnpomadbaanpkaa
open Vm
set_option maxRecDepth 10000

/-- Numbers that are not too long for the reference. -/
def NumL (L : List Raw) : Prop := ∀ q ∈ L, NumQ q ∧ q.2.2.length ≤ 1000000
theorem NumL.get {L : List Raw} (h : NumL L) {i : Nat} (hi : i < L.length) : NumQ (L.getD i default) ∧ (L.getD i default).2.2.length ≤ 1000000 := by
  rw [List.getD_eq_getElem?_getD, List.getElem?_eq_getElem hi]; exact h _ (List.getElem_mem _)
def sz (X : Nat → Int) (By : Nat → Int) (Bs : Nat → Nat → Int) (n k : Nat) : Int := X k + dz By (fun j => Bs j k) n
theorem sz_succ (X By : Nat → Int) (Bs : Nat → Nat → Int) (n k : Nat) : sz X By Bs (n + 1) k = sz X By Bs n k + By n * Bs n k := by
  unfold sz; show X k + (dz By (fun j => Bs j k) n + By n * Bs n k) = _; omega
theorem getD_set_ne {M : List Raw} {q : Raw} {i j : Nat} (h : i ≠ j) : (M.set i q).getD j default = M.getD j default := by
  rw [List.getD_eq_getElem?_getD, List.getD_eq_getElem?_getD, List.getElem?_set_ne h]
theorem getD_set_eq {M : List Raw} {q : Raw} {i : Nat} (h : i < M.length) : (M.set i q).getD i default = q := by
  rw [List.getD_eq_getElem?_getD, List.getElem?_set_self h]; rfl
set_option maxHeartbeats 2000000 in
theorem lsum_spec (na : Bool) (X : List Raw) (nb : Bool) (Bs : Mat) (nc : Bool) (By : List Raw) (hX : NumL X) (hBs : ∀ j, j < Bs.length → NumL (Bs.getD j default).2 ∧ X.length ≤ (Bs.getD j default).2.length) (hBy : NumL By) (hl0 : 1 ≤ X.length) (hl : X.length ≤ 100) (hn : Bs.length ≤ By.length) (hn2 : Bs.length ≤ 100)
    (hsz : ∀ k, k < X.length → ∀ i, i ≤ Bs.length → (dg (sz (zg X) (zg By) (rowz Bs) i k)).length ≤ 1000000) :
    ∃ M : List Raw, denP E 21 [lraw na X, mraw nb Bs, lraw nc By] = some (.ret (lraw false M)) ∧ M.length = X.length ∧ NumL M ∧ ∀ k, k < X.length → zg M k = sz (zg X) (zg By) (rowz Bs) Bs.length k := by
  refine denP_ex (F := fun M : List Raw => lraw false M) E21 rfl (by simp [AV.pureL, AV.pure, pure_ivr, pure_lr]) ?_
  have hmem : ((2 * X.length + 1000) * 32 ≤ 281474976710656) = True := eq_true (by omega)
  have hfl := fr_len X
  have zl : (X.length = 0) = False := eq_false (by omega)
  have hml : (X.map ivr).length = X.length := List.length_map _
  simp (maxSteps := 4000000) only [go_sem, seval, ↓reduceIte, reduceCtorEq, Try.f21, reps, places, fillAll, appendEff, srcCells, flat_fr, hfl, hml, zl, hmem]
  clear hmem hfl zl hml
  have inner : ∀ (i : Nat) (_ : i < Bs.length) (IQ : Nat → St → Prop) (K : Nat) (M0 : List Raw), M0.length = X.length → NumL M0 → (∀ k, k < X.length → zg M0 k = sz (zg X) (zg By) (rowz Bs) i k) → True := fun _ _ _ _ _ _ _ _ => trivial
  refine W_loopS (fun k sl h nx => ∃ (i : Nat) (M : List Raw), (∃ g : Nat → AV, sl = [g 0, mraw nb Bs, lraw nc By, g 3, g 4, g 5, g 6, .ref 1 0 X.length, .int .i64 (i : Int), g 9, g 10, g 11, g 12, g 13, g 14, g 15, g 16, g 17, g 18, g 19, g 20, g 21, g 22, g 23, g 24, g 25, g 26, g 27, g 28, g 29, g 30, g 31, g 32, g 33, g 34, g 35, g 36, g 37, g 38, g 39, g 40, g 41, g 42, g 43, g 44, g 45]) ∧ i + k = Bs.length ∧ M.length = X.length ∧ h 1 = some ⟨fr M, true, 2, false⟩ ∧ 2 ≤ nx ∧ NumL M ∧ ∀ k, k < X.length → zg M k = sz (zg X) (zg By) (rowz Bs) i k) Bs.length ⟨0, X, garb rfl, by omega, rfl, ?_, Nat.le_refl _, hX, fun k hk => ?_⟩ ?_
  · simp only [upd_apply, ↓reduceIte, Nat.reduceEqDiff, if_pos]
  · unfold sz; show zg X k = zg X k + 0; omega
  rintro k _ h nx ⟨i, M, ⟨g, rfl⟩, hk, hM, hH, hnx, hNM, hz⟩
  by_cases hi : i = Bs.length
  · have z1 : ((i : Int) < (Bs.length : Int)) = False := eq_false (by omega)
    have hp : ∀ (n : Nat) (H : Heap), refP (n + 1) H 1 0 X.length (some ⟨fr M, true, 2, false⟩) = some (.lst false (M.map ivr), [1]) := fun n H => refP_fr hM
    simp (maxSteps := 4000000) only [go_sem, seval, ↓reduceIte, reduceCtorEq, z1, hH, hp]
    rw [hi] at hz
    exact ⟨M, rfl, hM, hNM, hz⟩
  · have z1 : ((i : Int) < (Bs.length : Int)) = True := eq_true (by omega)
    have z0 : ((0 : Int) ≤ (i : Int)) = True := eq_true (by omega)
    have zi : ((i : Int) < (By.length : Int)) = True := eq_true (by omega)
    have w1 : IntKind.i64.wrap ((i + 1 : Nat) : Int) = ((i + 1 : Nat) : Int) := wrap64 (by omega) (by omega)
    have hgb := get_lr (A := Bs) (i := i) (by omega)
    have hgy := get_ivr (L := By) (i := i) (by omega)
    obtain ⟨hR1, hR2⟩ := hBs i (by omega)
    have hy := hBy.get (show i < By.length by omega)
    have hrow : ∀ t, zg (Bs.getD i default).2 t = rowz Bs i t := fun t => rfl
    have hyv : zv (By.getD i default) = zg By i := rfl
    have hmlb : (Bs.map lr).length = Bs.length := List.length_map _
    have hmly : (By.map ivr).length = By.length := List.length_map _
    have hfin : ∀ (h' : Heap) (n' : Nat) (sl : List AV) (M' : List Raw), (∃ g : Nat → AV, sl = [g 0, mraw nb Bs, lraw nc By, g 3, g 4, g 5, g 6, .ref 1 0 X.length, .int .i64 ((i + 1 : Nat) : Int), g 9, g 10, g 11, g 12, g 13, g 14, g 15, g 16, g 17, g 18, g 19, g 20, g 21, g 22, g 23, g 24, g 25, g 26, g 27, g 28, g 29, g 30, g 31, g 32, g 33, g 34, g 35, g 36, g 37, g 38, g 39, g 40, g 41, g 42, g 43, g 44, g 45]) → M'.length = X.length → h' 1 = some ⟨fr M', true, 2, false⟩ → 2 ≤ n' → NumL M' → (∀ k, k < X.length → zg M' k = zg M k + zg By i * rowz Bs i k) →
        ∃ k', k' < k ∧ ∃ (i : Nat) (M : List Raw), (∃ g : Nat → AV, sl = [g 0, mraw nb Bs, lraw nc By, g 3, g 4, g 5, g 6, .ref 1 0 X.length, .int .i64 (i : Int), g 9, g 10, g 11, g 12, g 13, g 14, g 15, g 16, g 17, g 18, g 19, g 20, g 21, g 22, g 23, g 24, g 25, g 26, g 27, g 28, g 29, g 30, g 31, g 32, g 33, g 34, g 35, g 36, g 37, g 38, g 39, g 40, g 41, g 42, g 43, g 44, g 45]) ∧ i + k' = Bs.length ∧ M.length = X.length ∧ h' 1 = some ⟨fr M, true, 2, false⟩ ∧ 2 ≤ n' ∧ NumL M ∧ ∀ k, k < X.length → zg M k = sz (zg X) (zg By) (rowz Bs) i k := fun h' n' sl M' c0 c1 c2 c3 c4 c5 => ⟨k - 1, by omega, i + 1, M', c0, by omega, c1, c2, c3, c4, fun k hk => by rw [c5 k hk, hz k hk, sz_succ]⟩
    have hs1 : ∀ k, k < X.length → (dg (zg M k + zg By i * rowz Bs i k)).length ≤ 1000000 := fun k hk => by
      have := hsz k hk (i + 1) (by omega)
      rw [sz_succ, ← hz k hk] at this
      exact this
    generalize hIQ : (fun (k : Nat) (σ : St) => ∃ (i : Nat) (M : List Raw), (∃ g : Nat → AV, σ.sl = [g 0, mraw nb Bs, lraw nc By, g 3, g 4, g 5, g 6, .ref 1 0 X.length, .int .i64 (i : Int), g 9, g 10, g 11, g 12, g 13, g 14, g 15, g 16, g 17, g 18, g 19, g 20, g 21, g 22, g 23, g 24, g 25, g 26, g 27, g 28, g 29, g 30, g 31, g 32, g 33, g 34, g 35, g 36, g 37, g 38, g 39, g 40, g 41, g 42, g 43, g 44, g 45]) ∧ i + k = Bs.length ∧ M.length = X.length ∧ σ.h 1 = some ⟨fr M, true, 2, false⟩ ∧ 2 ≤ σ.nx ∧ NumL M ∧ ∀ k, k < X.length → zg M k = sz (zg X) (zg By) (rowz Bs) i k) = IQ
    clear hz hsz inner
    generalize hyi : zg By i = y at *
    generalize By.getD i default = qy at *
    have hyn := hy.1.2.1
    have hyg := hy.1.2.2
    rw [hyv] at hyn hyg
    rw [← hyn, ← hyg] at hgy
    have hyl : (dg y).length ≤ 1000000 := by rw [hyn]; exact hy.2
    clear hyv hyi hy hyn hyg
    generalize Bs.getD i default = R at *
    generalize rowz Bs i = rw_ at *
    simp (maxSteps := 4000000) only [go_sem, seval, ↓reduceIte, reduceCtorEq, z1]
    refine W_loopS (fun k sl h nx => ∃ (t : Nat) (M' : List Raw), (∃ g : Nat → AV, sl = [g 0, mraw nb Bs, lraw nc By, g 3, g 4, g 5, g 6, .ref 1 0 X.length, .int .i64 (i : Int), .int .i64 (t : Int), g 10, g 11, g 12, g 13, g 14, g 15, g 16, g 17, g 18, g 19, g 20, g 21, g 22, g 23, g 24, g 25, g 26, g 27, g 28, g 29, g 30, g 31, g 32, g 33, g 34, g 35, g 36, g 37, g 38, g 39, g 40, g 41, g 42, g 43, g 44, g 45]) ∧ t + k = X.length ∧ M'.length = X.length ∧ h 1 = some ⟨fr M', true, 2, false⟩ ∧ 2 ≤ nx ∧ NumL M' ∧ ∀ k, k < X.length → zg M' k = if k < t then zg M k + y * rw_ k else zg M k) X.length ⟨0, M, garb rfl, by omega, hM, hH, hnx, hNM, fun k hk => by rw [if_neg (by omega)]⟩ ?_
    rintro k2 _ h nx ⟨t, M', ⟨g, rfl⟩, hk2, hM', hH', hnx', hNM', hz'⟩
    by_cases ht : t = X.length
    · have z2 : ((t : Int) < (X.length : Int)) = False := eq_false (by omega)
      simp (maxSteps := 4000000) only [go_sem, seval, ↓reduceIte, reduceCtorEq, z2, hH', w1]
      rw [← hIQ]
      exact hfin _ _ _ M' (garb rfl) hM' hH' hnx' hNM' fun k hk => by rw [hz' k hk, if_pos (by omega)]
    · have z2 : ((t : Int) < (X.length : Int)) = True := eq_true (by omega)
      have z3 : ((0 : Int) ≤ (t : Int)) = True := eq_true (by omega)
      have z4 : ((t : Int) < (R.2.length : Int)) = True := eq_true (by omega)
      have w2 : IntKind.i64.wrap ((t + 1 : Nat) : Int) = ((t + 1 : Nat) : Int) := wrap64 (by omega) (by omega)
      have hgr := get_ivr (L := R.2) (i := t) (by omega)
      have hmr : (R.2.map ivr).length = R.2.length := List.length_map _
      have hr := hR1.get (show t < R.2.length by omega)
      have hm := hNM'.get (show t < M'.length by omega)
      have hgm := fr_get (L := M') (i := t) (by omega)
      have hin : (t * 2 + 2 ≤ (fr M').length) = True := eq_true (by rw [fr_len]; omega)
      rw [← hr.1.2.1, ← hr.1.2.2] at hgr
      rw [← hm.1.2.1, ← hm.1.2.2] at hgm
      have e1 : zv (R.2.getD t default) = rw_ t := hrow t
      have e2 : zv (M'.getD t default) = zg M t := by have := hz' t (by omega); rw [if_neg (by omega)] at this; exact this
      have hl1 : (dg (rw_ t)).length ≤ 1000000 := by rw [← e1, hr.1.2.1]; exact hr.2
      have hl2 : (dg (zg M t)).length ≤ 1000000 := by rw [← e2, hm.1.2.1]; exact hm.2
      rw [e1] at hgr
      rw [e2] at hgm
      have hs1 := hs1 t (by omega)
      have hxy := dg_mul y (rw_ t)
      have m1 := rMul_spec qy.2.1 y (R.2.getD t default).2.1 (rw_ t) (by omega) (by omega)
      have a1 := rAdd_spec (M'.getD t default).2.1 (zg M t) (decide (y * rw_ t = 0)) (y * rw_ t) (by omega) (by omega)
      simp only [RM] at m1 a1
      have hset := fr_set M' t (rz (decide (zg M t + y * rw_ t = 0), zg M t + y * rw_ t)) (by omega)
      have hfin2 : ∀ (h' : Heap) (n' : Nat) (sl : List AV), (∃ g : Nat → AV, sl = [g 0, mraw nb Bs, lraw nc By, g 3, g 4, g 5, g 6, .ref 1 0 X.length, .int .i64 (i : Int), .int .i64 ((t + 1 : Nat) : Int), g 10, g 11, g 12, g 13, g 14, g 15, g 16, g 17, g 18, g 19, g 20, g 21, g 22, g 23, g 24, g 25, g 26, g 27, g 28, g 29, g 30, g 31, g 32, g 33, g 34, g 35, g 36, g 37, g 38, g 39, g 40, g 41, g 42, g 43, g 44, g 45]) → h' 1 = some ⟨fr (M'.set t (rz (decide (zg M t + y * rw_ t = 0), zg M t + y * rw_ t))), true, 2, false⟩ → 2 ≤ n' →
          ∃ k', k' < k2 ∧ ∃ (t : Nat) (M' : List Raw), (∃ g : Nat → AV, sl = [g 0, mraw nb Bs, lraw nc By, g 3, g 4, g 5, g 6, .ref 1 0 X.length, .int .i64 (i : Int), .int .i64 (t : Int), g 10, g 11, g 12, g 13, g 14, g 15, g 16, g 17, g 18, g 19, g 20, g 21, g 22, g 23, g 24, g 25, g 26, g 27, g 28, g 29, g 30, g 31, g 32, g 33, g 34, g 35, g 36, g 37, g 38, g 39, g 40, g 41, g 42, g 43, g 44, g 45]) ∧ t + k' = X.length ∧ M'.length = X.length ∧ h' 1 = some ⟨fr M', true, 2, false⟩ ∧ 2 ≤ n' ∧ NumL M' ∧ ∀ k, k < X.length → zg M' k = if k < t then zg M k + y * rw_ k else zg M k := fun h' n' sl c0 c1 c2 => by
        refine ⟨k2 - 1, by omega, t + 1, _, c0, by omega, by rw [List.length_set]; exact hM', c1, c2, fun q hq => ?_, fun k hk => ?_⟩
        · rcases List.mem_or_eq_of_mem_set hq with hq | hq
          · exact hNM' q hq
          · rw [hq]; exact ⟨num_rz _, hs1⟩
        · by_cases e : k = t
          · subst e
            unfold zg
            rw [getD_set_eq (by omega), if_pos (by omega)]
            exact zv_rz _
          · have := hz' k hk
            unfold zg at this ⊢
            rw [getD_set_ne (fun h => e h.symm), this]
            by_cases hlt : k < t
            · rw [if_pos hlt, if_pos (by omega)]
            · rw [if_neg hlt, if_neg (by omega)]
      generalize hIQ2 : (fun (k : Nat) (σ : St) => ∃ (t : Nat) (M' : List Raw), (∃ g : Nat → AV, σ.sl = [g 0, mraw nb Bs, lraw nc By, g 3, g 4, g 5, g 6, .ref 1 0 X.length, .int .i64 (i : Int), .int .i64 (t : Int), g 10, g 11, g 12, g 13, g 14, g 15, g 16, g 17, g 18, g 19, g 20, g 21, g 22, g 23, g 24, g 25, g 26, g 27, g 28, g 29, g 30, g 31, g 32, g 33, g 34, g 35, g 36, g 37, g 38, g 39, g 40, g 41, g 42, g 43, g 44, g 45]) ∧ t + k = X.length ∧ M'.length = X.length ∧ σ.h 1 = some ⟨fr M', true, 2, false⟩ ∧ 2 ≤ σ.nx ∧ NumL M' ∧ ∀ k, k < X.length → zg M' k = if k < t then zg M k + y * rw_ k else zg M k) = IQ2
      clear hz' hfin hIQ hrow e1 e2 hs1 hl1 hl2 hxy hr hm hR1
      generalize zg M t = s at *
      generalize rw_ t = r at *
      generalize s + y * r = s2 at *
      generalize y * r = yr at *
      generalize (R.2.getD t default) = qr at *
      generalize (M'.getD t default) = qm at *
      generalize decide (s2 = 0) = f2 at *
      generalize decide (yr = 0) = f3 at *
      simp (maxSteps := 4000000) only [go_sem, seval, ↓reduceIte, reduceCtorEq, z2, hH']
      refine W_drawn ?_
      simp (maxSteps := 4000000) only [go_sem, seval, ↓reduceIte, reduceCtorEq, z0, z1, z2, z3, z4, zi, hgb, hgy, hgr, hgm, hin, hmlb, hmly, hmr, hH', m1, a1, hM']
      refine ⟨by rfl, ?_⟩
      rw [w2, ← hIQ2]
      refine hfin2 _ _ _ (garb rfl) ?_ hnx'
      rw [← hset]
      simp only [upd_apply, ↓reduceIte, Nat.reduceEqDiff, if_pos, setCells_cons, setCells_nil]
end Go.Proofs.Ytnpomadbaanpkaa
