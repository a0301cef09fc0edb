/- Part 6 of a proof about this seat: RPellIndex, LInx. (Own work of this repo.) -/
import Derived.Test.YtiglncbaomoceaaZPellNth5
import Derived.WalkKit
import Derived.ProofKit
import Derived.OpenShut
import Derived.ShutString
import Derived.ChangeOld
import Derived.Below
import Derived.SizedLaws
set_option linter.unusedVariables false
set_option linter.unusedSimpArgs false
/- The row of PellIndex, out of what the machine over pure values says. (Own work of this repo.) -/
namespace Go.Proofs.Ytiglncbaomoceaa
namespace pellIndex
open Go.ChangeShapes Go.WideShapes Go.ChangeAt Go.RowKit
def Pure : Prop := ∀ xs, Vm.FitArgs E [3, 28, 28] xs → Vm.denP E 5 xs = some (.ret (.bool true))
theorem own : ownKnob Try.prog.godebug = none := by kernel_rfl
set_option maxRecDepth 100000 in
theorem lifted (hP : Pure) (os : Os) (started : os.Started) (H : Type) (enc : TypeId × Value → H) :
    ReturnsInHanded {} Try.checked os 5 .any (Rows.pellIndexSpec.pre6 enc Try.prog Try.f5 Rows.pellIndexRow.domain false) (Rows.pellIndexSpec.post enc Try.prog Try.f5 false true false false) := by
  refine returnsInHanded_of_change_sized (C := Try.checked) own started (by kernel_rfl) Try.func5
    (ChangeSpec.witness6 (enc := enc) (C := Try.checked) false ⟨#[], #[(.int .i64 0), (.agg #[.bool false, .slice none 0 0]), (.agg #[.bool false, .slice none 0 0])], []⟩ 8 (by kernel_rfl) (by kernel_rfl) (by kernel_rfl) (by kernel_rfl)) ?_
  intro W base args ds gs before hval0 hW hcnd hsz0 _
  have hval : ∀ (j : Nat) t v, Try.f5.params[j]? = some t → args[j]? = some v → Value.okWide Try.prog W .any base t v := hval0
  have hW' := hW
  obtain ⟨p, q, hA0, hV, rfl, hfz, hnd⟩ := hW
  have hA : DataW.TrodAll enc Try.prog W 0 (fun _ => true) true Try.f5.params.toList args.toList ds p := hA0
  have hpar : Try.f5.params.toList = [3, 28, 28] := by rw [Try.params5]
  rw [hpar] at hA
  obtain ⟨xs, hfit, hrep, hpure, hst⟩ := Vm.open_args eok.toEOk (by kernel_rfl) _ _ _ _ (by kernel_rfl) hA (fun j t v ht hv => ⟨_, _, hval j t v (by rw [← Array.getElem?_toList, hpar]; exact ht) (by rw [← Array.getElem?_toList]; exact hv)⟩)
  have hlen := Vm.trodAll_len hA
  obtain ⟨rfl, rfl⟩ := trodVars_none hV
  clear hA0 hval0 hsz0 hval hA hcnd
  match ds, hlen, hst, hW' with
  | [d0, d1, d2], _, hst, hW =>
    refine (Vm.denP_calls eok (hP xs hfit) W args hrep hpure).mono fun e W' ⟨bel, v, he, hv⟩ => ?_
    subst he
    obtain rfl := Vm.rep_bool hv
    exact ⟨_, rfl, _, _, _, [], _, [], hW, trodAll_mk1 (shut_bool Try.underlying4 _), (by rw [hpar]; exact hst W' bel), rfl, bel.frame _, fun h => by cases h⟩
theorem over (hP : Pure) : Rows.pellIndexRow.holds Try.pinned (OpenSpec.ofChange Rows.pellIndexSpec) :=
  OpenClaim.holds_of_wide 5 Try.f5 rfl rfl rfl rfl rfl rfl rfl ⟨rfl, rfl, rfl, rfl, rfl⟩ rfl rfl rfl rfl rfl (by kernel_rfl) Try.func5 (by kernel_rfl)
    (of_decide_eq_true (by kernel_rfl)) (by unfold Func.isWrapper; first | (rw [if_pos (by decide +kernel)]; kernel_rfl) | (rw [if_neg (by decide +kernel)]; exact ⟨rfl, rfl⟩))
    (fun os started H enc _ => lifted hP os started H enc)
end pellIndex

end Go.Proofs.Ytiglncbaomoceaa

/- The law PellIndex. (Own work of this repo.) -/
namespace Go.Proofs.Ytiglncbaomoceaa
open Vm
open Pel hiding allS
set_option maxRecDepth 10000

theorem index_all (D : Int) (a b : Raw) (ra : InR a.2.2) (rb : InR b.2.2) (la : a.2.2.length ≤ 4200) (lb : b.2.2.length ≤ 4200) : denP E 5 [.int .i64 D, ivr a, ivr b] = some (.ret (.bool true)) := by
  rcases fits_two D with ⟨f1, f2⟩ | ⟨hD, r, L, hr, hL, f1, f2⟩
  · exact index_bad D a b la lb false f2 2 (Index_nofit D a b f1) (.inl ⟨rfl, rfl⟩)
  · cases hv : rvalidW a.1 a.2.2 && rvalidW b.1 b.2.2 with
    | false => exact index_bad D a b la lb true f2 1 (Index_form D a b (by omega) (by omega) f1 hv) (.inr (.inl ⟨rfl, rfl, hv⟩))
    | true =>
      cases hn : !a.1 && !b.1 with
      | false => exact index_bad D a b la lb true f2 2 (Index_neg D a b (by omega) (by omega) f1 hv hn) (.inr (.inr ⟨rfl, rfl, hv, hn⟩))
      | true =>
        have hD2 := rt_D hr
        rw [Bool.and_eq_true] at hv
        obtain ⟨ka, x, sx, dx⟩ := rvalid_norm ra hv.1
        obtain ⟨kb, y, sy, dy⟩ := rvalid_norm rb hv.2
        rw [← dx] at ka; rw [← dy] at kb
        have ex : ivr a = I a.2.1 x := by rw [I, sx, dx]
        have ey : ivr b = I b.2.1 y := by rw [I, sy, dy]
        rw [← sx, ← sy, Bool.and_eq_true] at hn
        have hx0 : 0 ≤ x := ng_false.1 (by simpa using hn.1)
        have hy0 : 0 ≤ y := ng_false.1 (by simpa using hn.2)
        rw [ex, ey]
        by_cases h : x * x - D * (y * y) = 1
        · obtain ⟨n, hn, hlt, hi⟩ := index_yes D r hr hD L hL x y a.2.1 b.2.1 ka kb hx0 hy0 h
          refine index_walk_yes D ⟨by omega, hD⟩ x y a.2.1 b.2.1 ka kb hx0 hy0 f2 n hi h fun hl => ?_
          have htwo := LXY_two hr hL
          have hpos := LXY_pos hr L
          have hb2 : ¬ bl (LX D r L).natAbs ≤ 1 := fun h => by have := bl_le.1 h; omega
          obtain ⟨B, hB⟩ : ∃ B, bl (LX D r L).natAbs = B + 1 := ⟨bl (LX D r L).natAbs - 1, by omega⟩
          have h1 := bl_ge (n := (LX D r L).natAbs) (by omega)
          rw [hB, Nat.add_sub_cancel] at h1
          have h2 := pw_ge (D := D) (by omega) hpos.1 hpos.2.1 hpos.2.2 (b := B) (by omega) n
          rw [hn] at h2
          have h3 := two_len h2 hl
          have h4 : n ≤ 135168 / B := (Nat.le_div_iff_mul_le (by omega)).2 (by rw [Nat.mul_comm]; omega)
          have h5 := rNth_yes D r hr hD L hL n B (by omega) hB (by omega) h4
          rw [hn] at h5
          exact h5
        · exact index_walk_no D ⟨by omega, hD⟩ x y a.2.1 b.2.1 ka kb hx0 hy0 f2 (index_no D r hr hD L hL x y a.2.1 b.2.1 ka kb hx0 hy0 h) h
theorem pellIndex_pure : pellIndex.Pure := by
  intro xs h
  simp only [FitArgs, opn_eq, T1, T2, T3, T4, T5, T6, T9, T10, T11, T12, T15, T16, T17, T20, T21, T22, T23, T25, T26, T27, T28, T30, T31, T32, T33, T34, T36, T37, T38, T39, T40, T41, T43, T44, T46, T47, T48, T49, T50, T51, T52, T53, T54, T55, T56, T57, T58, T59, T60, T61, T62, T63, T64, T65, T67, T68, T69, T70, T71, T72, T73, T74, T75, T76, T77, T78, T80, T81, T83, T84, T86, T87, T88, T89, T90, T91, T93, T94, T95, T96, T98, T99, T100, T101, T103, T105, T106, T107, T108, T109, T110, T111, T112, T113, T114, T117, T120, T121, T122, T123, T124, T125, T126, elm] at h
  obtain ⟨c1, x1, y1, rfl, ⟨rfl, h1⟩, c2, x2, y2, rfl, ⟨rfl, h2⟩, c3, x3, y3, rfl, ⟨rfl, h3⟩, rfl⟩ := h
  obtain ⟨d, _, _, rfl⟩ := fit_int8 (m := 5) h1
  obtain ⟨qa, rfl, ra, na, la⟩ := fit_raw (m := 3) h2
  obtain ⟨qb, rfl, rb, nb, lb⟩ := fit_raw (m := 3) h3
  show denP E 5 [.int .i64 d, ivr qa, ivr qb] = _
  by_cases h : qa.2.2.length ≤ 4200 ∧ qb.2.2.length ≤ 4200
  · exact index_all d qa qb ra rb h.1 h.2
  · exact index_long d qa qb h
theorem pellIndex_holds : Rows.PellIndexSaid := pellIndex.over pellIndex_pure
#print axioms pellIndex_holds
end Go.Proofs.Ytiglncbaomoceaa
