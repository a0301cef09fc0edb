/- Part 7 of a proof about this seat: RPellNone, LNon. (Own work of this repo.) -/
import Derived.Test.YtiglncbaomoceaaZPellNth6
import Derived.WalkKit
import Derived.ProofKit
import Derived.OpenShut
import Derived.ShutString
import Derived.ChangeOld
import Derived.Below
import Derived.SizedLaws
set_option linter.unusedVariables false
set_option linter.unusedSimpArgs false
/- The row of PellNone, out of what the machine over pure values says. (Own work of this repo.) -/
namespace Go.Proofs.Ytiglncbaomoceaa
namespace pellNone
open Go.ChangeShapes Go.WideShapes Go.ChangeAt Go.RowKit
def Pure : Prop := ∀ xs, Vm.FitArgs E [3, 56] xs → Vm.denP E 8 xs = some (.ret (.bool true))
theorem own : ownKnob Try.prog.godebug = none := by kernel_rfl
set_option maxRecDepth 100000 in
theorem lifted (hP : Pure) (os : Os) (started : os.Started) (H : Type) (enc : TypeId × Value → H) :
    ReturnsInHanded {} Try.checked os 8 .any (Rows.pellNoneSpec.pre6 enc Try.prog Try.f8 Rows.pellNoneRow.domain false) (Rows.pellNoneSpec.post enc Try.prog Try.f8 false true false false) := by
  refine returnsInHanded_of_change_sized (C := Try.checked) own started (by kernel_rfl) Try.func8
    (ChangeSpec.witness6 (enc := enc) (C := Try.checked) false ⟨#[], #[(.int .i64 0), (.int .u32 0)], []⟩ 8 (by kernel_rfl) (by kernel_rfl) (by kernel_rfl) (by kernel_rfl)) ?_
  intro W base args ds gs before hval0 hW hcnd hsz0 _
  have hval : ∀ (j : Nat) t v, Try.f8.params[j]? = some t → args[j]? = some v → Value.okWide Try.prog W .any base t v := hval0
  have hW' := hW
  obtain ⟨p, q, hA0, hV, rfl, hfz, hnd⟩ := hW
  have hA : DataW.TrodAll enc Try.prog W 0 (fun _ => true) true Try.f8.params.toList args.toList ds p := hA0
  have hpar : Try.f8.params.toList = [3, 56] := by rw [Try.params8]
  rw [hpar] at hA
  obtain ⟨xs, hfit, hrep, hpure, hst⟩ := Vm.open_args eok.toEOk (by kernel_rfl) _ _ _ _ (by kernel_rfl) hA (fun j t v ht hv => ⟨_, _, hval j t v (by rw [← Array.getElem?_toList, hpar]; exact ht) (by rw [← Array.getElem?_toList]; exact hv)⟩)
  have hlen := Vm.trodAll_len hA
  obtain ⟨rfl, rfl⟩ := trodVars_none hV
  clear hA0 hval0 hsz0 hval hA hcnd
  match ds, hlen, hst, hW' with
  | [d0, d1], _, hst, hW =>
    refine (Vm.denP_calls eok (hP xs hfit) W args hrep hpure).mono fun e W' ⟨bel, v, he, hv⟩ => ?_
    subst he
    obtain rfl := Vm.rep_bool hv
    exact ⟨_, rfl, _, _, _, [], _, [], hW, trodAll_mk1 (shut_bool Try.underlying4 _), (by rw [hpar]; exact hst W' bel), rfl, bel.frame _, fun h => by cases h⟩
theorem over (hP : Pure) : Rows.pellNoneRow.holds Try.pinned (OpenSpec.ofChange Rows.pellNoneSpec) :=
  OpenClaim.holds_of_wide 8 Try.f8 rfl rfl rfl rfl rfl rfl rfl ⟨rfl, rfl, rfl, rfl, rfl⟩ rfl rfl rfl rfl rfl (by kernel_rfl) Try.func8 (by kernel_rfl)
    (of_decide_eq_true (by kernel_rfl)) (by unfold Func.isWrapper; first | (rw [if_pos (by decide +kernel)]; kernel_rfl) | (rw [if_neg (by decide +kernel)]; exact ⟨rfl, rfl⟩))
    (fun os started H enc _ => lifted hP os started H enc)
end pellNone

end Go.Proofs.Ytiglncbaomoceaa

/- The law PellNone. (Own work of this repo.) -/
namespace Go.Proofs.Ytiglncbaomoceaa
open Vm
open Pel hiding allS
set_option maxRecDepth 10000

theorem fit_u32 {m : Nat} {cs : List AV} {t : Nat} (ht : E.T t = some ⟨1, 4, false, .int .u32 0, .int .u32⟩) (h : Fit E (m + 1) t cs) : ∃ n : Nat, n < 4294967296 ∧ cs = [.int .u32 n] := by
  simp only [Fit, ht, FitD] at h
  obtain ⟨_, i, rfl, hi⟩ := h
  have hi' : 0 ≤ i ∧ i < 4294967296 := by simp [Lit.wf, IntKind.max, IntKind.min, IntKind.bits, IntKind.signed] at hi; omega
  refine ⟨i.toNat, by omega, ?_⟩
  rw [show ((i.toNat : Nat) : Int) = i by omega]
theorem pellNone_pure : pellNone.Pure := by
  intro xs h
  simp only [FitArgs, opn_eq, T1, T2, T3, T4, T5, T6, T9, T10, T11, T12, T15, T16, T17, T20, T21, T22, T23, T25, T26, T27, T28, T30, T31, T32, T33, T34, T36, T37, T38, T39, T40, T41, T43, T44, T46, T47, T48, T49, T50, T51, T52, T53, T54, T55, T56, T57, T58, T59, T60, T61, T62, T63, T64, T65, T67, T68, T69, T70, T71, T72, T73, T74, T75, T76, T77, T78, T80, T81, T83, T84, T86, T87, T88, T89, T90, T91, T93, T94, T95, T96, T98, T99, T100, T101, T103, T105, T106, T107, T108, T109, T110, T111, T112, T113, T114, T117, T120, T121, T122, T123, T124, T125, T126, elm] at h
  obtain ⟨c1, x1, y1, rfl, ⟨rfl, h1⟩, c2, x2, y2, rfl, ⟨rfl, h2⟩, rfl⟩ := h
  obtain ⟨d, _, _, rfl⟩ := fit_int8 (m := 5) h1
  obtain ⟨n, hn, rfl⟩ := fit_u32 (m := 5) T56 h2
  exact none_all d n hn
theorem pellNone_holds : Rows.PellNoneSaid := pellNone.over pellNone_pure
#print axioms pellNone_holds
end Go.Proofs.Ytiglncbaomoceaa
