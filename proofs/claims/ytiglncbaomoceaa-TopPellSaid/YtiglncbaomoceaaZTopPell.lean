/- Part 6 of a proof about this seat: RTopPell, LTop7. (Own work of this repo.) -/
import Derived.Test.YtiglncbaomoceaaZPellNth5
import Derived.WalkKit
import Derived.ProofKit
import Derived.OpenShut
import Derived.ShutString
import Derived.ChangeOld
import Derived.Below
import Derived.SizedLaws
set_option linter.unusedVariables false
set_option linter.unusedSimpArgs false
/- The row of TopPell, out of what the machine over pure values says. (Own work of this repo.) -/
namespace Go.Proofs.Ytiglncbaomoceaa
namespace topPell
open Go.ChangeShapes Go.WideShapes Go.ChangeAt Go.RowKit
def Pure : Prop := ∀ xs, Vm.FitArgs E [3, 28, 28] xs → Vm.denP E 7 xs = some (.ret (.bool true))
theorem own : ownKnob Try.prog.godebug = none := by kernel_rfl
set_option maxRecDepth 100000 in
theorem lifted (hP : Pure) (os : Os) (started : os.Started) (H : Type) (enc : TypeId × Value → H) :
    ReturnsInHanded {} Try.checked os 7 .any (Rows.topPellSpec.pre6 enc Try.prog Try.f7 Rows.topPellRow.domain false) (Rows.topPellSpec.post enc Try.prog Try.f7 false true false false) := by
  refine returnsInHanded_of_change_sized (C := Try.checked) own started (by kernel_rfl) Try.func7
    (ChangeSpec.witness6 (enc := enc) (C := Try.checked) false ⟨#[], #[(.int .i64 0), (.agg #[.bool false, .slice none 0 0]), (.agg #[.bool false, .slice none 0 0])], []⟩ 8 (by kernel_rfl) (by kernel_rfl) (by kernel_rfl) (by kernel_rfl)) ?_
  intro W base args ds gs before hval0 hW hcnd hsz0 _
  have hval : ∀ (j : Nat) t v, Try.f7.params[j]? = some t → args[j]? = some v → Value.okWide Try.prog W .any base t v := hval0
  have hW' := hW
  obtain ⟨p, q, hA0, hV, rfl, hfz, hnd⟩ := hW
  have hA : DataW.TrodAll enc Try.prog W 0 (fun _ => true) true Try.f7.params.toList args.toList ds p := hA0
  have hpar : Try.f7.params.toList = [3, 28, 28] := by rw [Try.params7]
  rw [hpar] at hA
  obtain ⟨xs, hfit, hrep, hpure, hst⟩ := Vm.open_args eok.toEOk (by kernel_rfl) _ _ _ _ (by kernel_rfl) hA (fun j t v ht hv => ⟨_, _, hval j t v (by rw [← Array.getElem?_toList, hpar]; exact ht) (by rw [← Array.getElem?_toList]; exact hv)⟩)
  have hlen := Vm.trodAll_len hA
  obtain ⟨rfl, rfl⟩ := trodVars_none hV
  clear hA0 hval0 hsz0 hval hA hcnd
  match ds, hlen, hst, hW' with
  | [d0, d1, d2], _, hst, hW =>
    refine (Vm.denP_calls eok (hP xs hfit) W args hrep hpure).mono fun e W' ⟨bel, v, he, hv⟩ => ?_
    subst he
    obtain rfl := Vm.rep_bool hv
    exact ⟨_, rfl, _, _, _, [], _, [], hW, trodAll_mk1 (shut_bool Try.underlying4 _), (by rw [hpar]; exact hst W' bel), rfl, bel.frame _, fun h => by cases h⟩
theorem over (hP : Pure) : Rows.topPellRow.holds Try.pinned (OpenSpec.ofChange Rows.topPellSpec) :=
  OpenClaim.holds_of_wide 7 Try.f7 rfl rfl rfl rfl rfl rfl rfl ⟨rfl, rfl, rfl, rfl, rfl⟩ rfl rfl rfl rfl rfl (by kernel_rfl) Try.func7 (by kernel_rfl)
    (of_decide_eq_true (by kernel_rfl)) (by unfold Func.isWrapper; first | (rw [if_pos (by decide +kernel)]; kernel_rfl) | (rw [if_neg (by decide +kernel)]; exact ⟨rfl, rfl⟩))
    (fun os started H enc _ => lifted hP os started H enc)
end topPell

end Go.Proofs.Ytiglncbaomoceaa

/- The law TopPell. (Own work of this repo.) -/
namespace Go.Proofs.Ytiglncbaomoceaa
open Vm
open Pel hiding allS
set_option maxRecDepth 10000

theorem top_all (D : Int) (a b : Raw) (ra : InR a.2.2) (rb : InR b.2.2) (la : a.2.2.length < 9223372036854775808) (lb : b.2.2.length < 9223372036854775808) : denP E 7 [.int .i64 D, ivr a, ivr b] = some (.ret (.bool true)) := by
  by_cases hout : D < 2 ∨ 1000000 < D ∨ ((rvalidW a.1 a.2.2 && !a.1) && (rvalidW b.1 b.2.2 && !b.1)) = false ∨ 600 < a.2.2.length ∨ 600 < b.2.2.length
  · exact top_out D a b la lb hout
  · simp only [not_or] at hout
    obtain ⟨h1, h2, h3, h4, h5⟩ := hout
    have h3 : ((rvalidW a.1 a.2.2 && !a.1) && (rvalidW b.1 b.2.2 && !b.1)) = true := by revert h3; generalize ((rvalidW a.1 a.2.2 && !a.1) && (rvalidW b.1 b.2.2 && !b.1)) = c; cases c <;> simp
    have n1 := natural_two a b la lb
    rw [h3] at n1
    obtain ⟨r, r0, r1, r2⟩ := root_ex D (by omega)
    have f1 := pell_fits D r r0 r1 r2
    have hrs : r ≤ 1000 := by
      refine Int.not_lt.1 fun g => ?_
      have := Int.mul_le_mul (show 1001 ≤ r by omega) (show 1001 ≤ r by omega) (by omega) (by omega)
      omega
    by_cases hq : r * r = D
    · have hn : ¬ (2 ≤ D ∧ D ≤ 1000000 ∧ r * r ≠ D) := fun h => h.2.2 hq
      rw [decide_eq_false hn] at f1
      have hr1 : 1 ≤ r := by
        rcases Int.lt_or_le r 1 with g | g
        · obtain rfl : r = 0 := by omega
          omega
        · exact g
      have q1 := squared_yes r.toNat (by omega) (by omega)
      rw [show ((r.toNat * r.toNat : Nat) : Int) = D by rw [Int.natCast_mul, Int.toNat_of_nonneg (by omega)]; exact hq] at q1
      exact top_square D a b ⟨by omega, by omega⟩ (by omega) (by omega) n1 (Least_no D f1) q1
    · have hr : Rt D r := ⟨by
        rcases Int.lt_or_le r 1 with g | g
        · obtain rfl : r = 0 := by omega
          omega
        · exact g, by omega, r2⟩
      obtain ⟨L, hL⟩ := per_ex hr
      have hD : D ≤ 1000000 := by omega
      have p1 := Least_yes D r hr hD L hL
      simp only [Bool.and_eq_true] at h3
      obtain ⟨⟨v1, g1⟩, v2, g2⟩ := h3
      obtain ⟨ka, x, sx, dx⟩ := rvalid_norm ra v1
      obtain ⟨kb, y, sy, dy⟩ := rvalid_norm rb v2
      rw [← dx] at ka h4; rw [← dy] at kb h5
      have ex : ivr a = I a.2.1 x := by rw [I, sx, dx]
      have ey : ivr b = I b.2.1 y := by rw [I, sy, dy]
      rw [← sx] at g1
      rw [← sy] at g2
      have hx0 : 0 ≤ x := ng_false.1 (by simpa using g1)
      have hy0 : 0 ≤ y := ng_false.1 (by simpa using g2)
      rw [ex, ey] at n1 ⊢
      by_cases h : x * x - D * (y * y) = 1
      · obtain ⟨n, hn, hlt, hi⟩ := index_yes D r hr hD L hL x y a.2.1 b.2.1 ka kb hx0 hy0 h
        have htwo := LXY_two hr hL
        have hpos := LXY_pos hr L
        have hl := LXY_len' hr hD hL
        have hw := pw_two (D := D) (by omega) htwo.1 htwo.2 hpos.2.2 n
        rw [hn] at hw
        have hn2 := two_len (k := 600) hw (show (dg x).length ≤ 600 by omega)
        refine top_yes D (LX D r L) (LY D r L) x y a.2.1 b.2.1 n ⟨by omega, hD⟩ (by omega) (by omega) n1 p1 hi h (by omega) (by omega) (by omega) hn fun i hi => ?_
        have hm := pw_mono (D := D) (by omega) hpos.1 hpos.2.1 hpos.2.2 i (n - i)
        rw [show i + (n - i) = n by omega, hn] at hm
        dsimp only at hm
        have hb := pw_bounds (D := D) (by omega) hpos.1 hpos.2.1 hpos.2.2 i
        have l1 : (dg (pw D (LX D r L) (LY D r L) i).1).length ≤ 600 := Nat.le_trans (dg_mono (by omega)) (show (dg x).length ≤ 600 by omega)
        exact ⟨l1, Nat.le_trans (dg_mono (by omega)) l1⟩
      · exact top_none D (LX D r L) (LY D r L) x y a.2.1 b.2.1 ⟨by omega, hD⟩ (by omega) (by omega) n1 p1 (index_no D r hr hD L hL x y a.2.1 b.2.1 ka kb hx0 hy0 h) h
theorem topPell_pure : topPell.Pure := by
  intro xs h
  simp only [FitArgs, opn_eq, T1, T2, T3, T4, T5, T6, T9, T10, T11, T12, T15, T16, T17, T20, T21, T22, T23, T25, T26, T27, T28, T30, T31, T32, T33, T34, T36, T37, T38, T39, T40, T41, T43, T44, T46, T47, T48, T49, T50, T51, T52, T53, T54, T55, T56, T57, T58, T59, T60, T61, T62, T63, T64, T65, T67, T68, T69, T70, T71, T72, T73, T74, T75, T76, T77, T78, T80, T81, T83, T84, T86, T87, T88, T89, T90, T91, T93, T94, T95, T96, T98, T99, T100, T101, T103, T105, T106, T107, T108, T109, T110, T111, T112, T113, T114, T117, T120, T121, T122, T123, T124, T125, T126, elm] at h
  obtain ⟨c1, x1, y1, rfl, ⟨rfl, h1⟩, c2, x2, y2, rfl, ⟨rfl, h2⟩, c3, x3, y3, rfl, ⟨rfl, h3⟩, rfl⟩ := h
  obtain ⟨d, _, _, rfl⟩ := fit_int8 (m := 5) h1
  obtain ⟨qa, rfl, ra, na, la⟩ := fit_raw (m := 3) h2
  obtain ⟨qb, rfl, rb, nb, lb⟩ := fit_raw (m := 3) h3
  show denP E 7 [.int .i64 d, ivr qa, ivr qb] = _
  unfold maxLen at la lb
  exact top_all d qa qb ra rb (by omega) (by omega)
theorem topPell_holds : Rows.TopPellSaid := topPell.over topPell_pure
#print axioms topPell_holds
end Go.Proofs.Ytiglncbaomoceaa
