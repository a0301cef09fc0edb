/- Part 5 of a proof about this seat: RPellSteps, LStp. (Own work of this repo.) -/
import Derived.Test.YtiglncbaomoceaaZPellSteps4
import Derived.WalkKit
import Derived.ProofKit
import Derived.OpenShut
import Derived.ShutString
import Derived.ChangeOld
import Derived.Below
import Derived.SizedLaws
set_option linter.unusedVariables false
set_option linter.unusedSimpArgs false
/- The row of PellSteps, out of what the machine over pure values says. (Own work of this repo.) -/
namespace Go.Proofs.Ytiglncbaomoceaa
namespace pellSteps
open Go.ChangeShapes Go.WideShapes Go.ChangeAt Go.RowKit
def Pure : Prop := ∀ xs, Vm.FitArgs E [3, 5, 5, 49] xs → Vm.denP E 6 xs = some (.ret (.bool true))
theorem own : ownKnob Try.prog.godebug = none := by kernel_rfl
set_option maxRecDepth 100000 in
theorem lifted (hP : Pure) (os : Os) (started : os.Started) (H : Type) (enc : TypeId × Value → H) :
    ReturnsInHanded {} Try.checked os 6 .any (Rows.pellStepsSpec.pre6 enc Try.prog Try.f6 Rows.pellStepsRow.domain false) (Rows.pellStepsSpec.post enc Try.prog Try.f6 false true false false) := by
  refine returnsInHanded_of_change_sized (C := Try.checked) own started (by kernel_rfl) Try.func6
    (ChangeSpec.witness6 (enc := enc) (C := Try.checked) false ⟨#[], #[(.int .i64 0), (.int .u8 0), (.int .u8 0), (.int .i8 0)], []⟩ 8 (by kernel_rfl) (by kernel_rfl) (by kernel_rfl) (by kernel_rfl)) ?_
  intro W base args ds gs before hval0 hW hcnd hsz0 _
  have hval : ∀ (j : Nat) t v, Try.f6.params[j]? = some t → args[j]? = some v → Value.okWide Try.prog W .any base t v := hval0
  have hW' := hW
  obtain ⟨p, q, hA0, hV, rfl, hfz, hnd⟩ := hW
  have hA : DataW.TrodAll enc Try.prog W 0 (fun _ => true) true Try.f6.params.toList args.toList ds p := hA0
  have hpar : Try.f6.params.toList = [3, 5, 5, 49] := by rw [Try.params6]
  rw [hpar] at hA
  obtain ⟨xs, hfit, hrep, hpure, hst⟩ := Vm.open_args eok.toEOk (by kernel_rfl) _ _ _ _ (by kernel_rfl) hA (fun j t v ht hv => ⟨_, _, hval j t v (by rw [← Array.getElem?_toList, hpar]; exact ht) (by rw [← Array.getElem?_toList]; exact hv)⟩)
  have hlen := Vm.trodAll_len hA
  obtain ⟨rfl, rfl⟩ := trodVars_none hV
  clear hA0 hval0 hsz0 hval hA hcnd
  match ds, hlen, hst, hW' with
  | [d0, d1, d2, d3], _, hst, hW =>
    refine (Vm.denP_calls eok (hP xs hfit) W args hrep hpure).mono fun e W' ⟨bel, v, he, hv⟩ => ?_
    subst he
    obtain rfl := Vm.rep_bool hv
    exact ⟨_, rfl, _, _, _, [], _, [], hW, trodAll_mk1 (shut_bool Try.underlying4 _), (by rw [hpar]; exact hst W' bel), rfl, bel.frame _, fun h => by cases h⟩
theorem over (hP : Pure) : Rows.pellStepsRow.holds Try.pinned (OpenSpec.ofChange Rows.pellStepsSpec) :=
  OpenClaim.holds_of_wide 6 Try.f6 rfl rfl rfl rfl rfl rfl rfl ⟨rfl, rfl, rfl, rfl, rfl⟩ rfl rfl rfl rfl rfl (by kernel_rfl) Try.func6 (by kernel_rfl)
    (of_decide_eq_true (by kernel_rfl)) (by unfold Func.isWrapper; first | (rw [if_pos (by decide +kernel)]; kernel_rfl) | (rw [if_neg (by decide +kernel)]; exact ⟨rfl, rfl⟩))
    (fun os started H enc _ => lifted hP os started H enc)
end pellSteps

end Go.Proofs.Ytiglncbaomoceaa

/- The law PellSteps. (Own work of this repo.) -/
namespace Go.Proofs.Ytiglncbaomoceaa
open Vm
open Pel hiding allS
set_option maxRecDepth 10000

theorem fit_u8 {m : Nat} {cs : List AV} {t : Nat} (ht : E.T t = some ⟨1, 1, false, .int .u8 0, .int .u8⟩) (h : Fit E (m + 1) t cs) : ∃ n : Nat, n < 256 ∧ cs = [.int .u8 n] := by
  simp only [Fit, ht, FitD] at h
  obtain ⟨_, i, rfl, hi⟩ := h
  have hi' : 0 ≤ i ∧ i < 256 := by simp [Lit.wf, IntKind.max, IntKind.min, IntKind.bits, IntKind.signed] at hi; omega
  refine ⟨i.toNat, by omega, ?_⟩
  rw [show ((i.toNat : Nat) : Int) = i by omega]
theorem fit_i8 {m : Nat} {cs : List AV} {t : Nat} (ht : E.T t = some ⟨1, 1, false, .int .i8 0, .int .i8⟩) (h : Fit E (m + 1) t cs) : ∃ n : Int, -128 ≤ n ∧ n < 128 ∧ cs = [.int .i8 n] := by
  simp only [Fit, ht, FitD] at h
  obtain ⟨_, i, rfl, hi⟩ := h
  have hi' : -128 ≤ i ∧ i < 128 := by simp [Lit.wf, IntKind.max, IntKind.min, IntKind.bits, IntKind.signed] at hi; omega
  exact ⟨i, hi'.1, hi'.2, rfl⟩
theorem steps_all (D : Int) (m n : Nat) (near : Int) (hm : m < 256) (hn : n < 256) (hne : -128 ≤ near ∧ near < 128) : denP E 6 [.int .i64 D, .int .u8 m, .int .u8 n, .int .i8 near] = some (.ret (.bool true)) := by
  rcases fits_two D with ⟨f1, f2⟩ | ⟨hD, r, L, hr, hL, f1, f2⟩
  · exact steps_no D m n near hm hn f2
  · obtain ⟨c1, x1, d1, y1, e1, p1, h1⟩ := Nth_any D r hr hD L hL (m % 13) (by omega)
    obtain ⟨c2, x2, d2, y2, e2, p2, h2⟩ := Nth_any D r hr hD L hL (n % 13) (by omega)
    obtain ⟨c3, x3, d3, y3, e3, p3, h3⟩ := Nth_any D r hr hD L hL (m % 13 + n % 13) (by omega)
    obtain ⟨c4, x4, d4, y4, e4, p4, h4⟩ := Nth_any D r hr hD L hL (m % 13 + 1) (by omega)
    by_cases hall : e1 = 0 ∧ e2 = 0 ∧ e3 = 0 ∧ e4 = 0
    · obtain ⟨rfl, rfl, rfl, rfl⟩ := hall
      obtain ⟨g1, rfl, rfl, rfl, rfl, _⟩ := h1.resolve_right (fun h => by have := h.2; omega)
      obtain ⟨g2, rfl, rfl, rfl, rfl, _⟩ := h2.resolve_right (fun h => by have := h.2; omega)
      obtain ⟨g3, rfl, rfl, rfl, rfl, _⟩ := h3.resolve_right (fun h => by have := h.2; omega)
      obtain ⟨g4, rfl, rfl, rfl, rfl, _⟩ := h4.resolve_right (fun h => by have := h.2; omega)
      exact steps_yes D r hr hD L hL m n near hm hn hne f2 p1 p2 p3 p4 g1 g2 g3 g4
    · exact steps_over D m n near hm hn f2 c1 c2 c3 c4 d1 d2 d3 d4 x1 x2 x3 x4 y1 y2 y3 y4 e1 e2 e3 e4 p1 p2 p3 p4 (h1.elim (fun h => .inl h.2.2.2.2.2) (fun h => .inr h.2)) (h2.elim (fun h => .inl h.2.2.2.2.2) (fun h => .inr h.2)) (h3.elim (fun h => .inl h.2.2.2.2.2) (fun h => .inr h.2)) (h4.elim (fun h => .inl h.2.2.2.2.2) (fun h => .inr h.2)) hall
theorem pellSteps_pure : pellSteps.Pure := by
  intro xs h
  simp only [FitArgs, opn_eq, T1, T2, T3, T4, T5, T6, T9, T10, T11, T12, T15, T16, T17, T20, T21, T22, T23, T25, T26, T27, T28, T30, T31, T32, T33, T34, T36, T37, T38, T39, T40, T41, T43, T44, T46, T47, T48, T49, T50, T51, T52, T53, T54, T55, T56, T57, T58, T59, T60, T61, T62, T63, T64, T65, T67, T68, T69, T70, T71, T72, T73, T74, T75, T76, T77, T78, T80, T81, T83, T84, T86, T87, T88, T89, T90, T91, T93, T94, T95, T96, T98, T99, T100, T101, T103, T105, T106, T107, T108, T109, T110, T111, T112, T113, T114, T117, T120, T121, T122, T123, T124, T125, T126, elm] at h
  obtain ⟨c1, x1, y1, rfl, ⟨rfl, h1⟩, c2, x2, y2, rfl, ⟨rfl, h2⟩, c3, x3, y3, rfl, ⟨rfl, h3⟩, c4, x4, y4, rfl, ⟨rfl, h4⟩, rfl⟩ := h
  obtain ⟨d, _, _, rfl⟩ := fit_int8 (m := 5) h1
  obtain ⟨i, hi, rfl⟩ := fit_u8 (m := 5) T5 h2
  obtain ⟨k, hk, rfl⟩ := fit_u8 (m := 5) T5 h3
  obtain ⟨e, he1, he2, rfl⟩ := fit_i8 (m := 5) T49 h4
  exact steps_all d i k e hi hk ⟨he1, he2⟩
theorem pellSteps_holds : Rows.PellStepsSaid := pellSteps.over pellSteps_pure
#print axioms pellSteps_holds
end Go.Proofs.Ytiglncbaomoceaa
