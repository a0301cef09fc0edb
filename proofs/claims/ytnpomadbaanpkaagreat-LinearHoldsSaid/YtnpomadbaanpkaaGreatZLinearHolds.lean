/- Part 9 of a proof about this seat: RLinearHolds, LHolds. (Own work of this repo.) -/
import Derived.Test.YtnpomadbaanpkaaGreatZLinearHolds8
import Derived.WalkKit
import Derived.ProofKit
import Derived.OpenShut
import Derived.ShutString
import Derived.ChangeOld
import Derived.Below
import Derived.SizedLaws
set_option linter.unusedVariables false
set_option linter.unusedSimpArgs false
/- The row of LinearHolds, out of what the machine over pure values says. (Own work of this repo.) -/
namespace Go.Proofs.YtnpomadbaanpkaaGreat
namespace linearHolds
open Go.ChangeShapes Go.WideShapes Go.ChangeAt Go.RowKit
def Pure : Prop := ∀ xs, Vm.FitArgs E [22, 23, 23, 23, 26] xs → Vm.denP E 3 xs = some (.ret (.bool true))
theorem own : ownKnob Tryz.prog.godebug = none := by kernel_rfl
set_option maxRecDepth 100000 in
theorem lifted (hP : Pure) (os : Os) (started : os.Started) (H : Type) (enc : TypeId × Value → H) :
    ReturnsInHanded {} Tryz.checked os 3 .any (Rows.linearHoldsSpec.pre6 enc Tryz.prog Tryz.f3 Rows.linearHoldsRow.domain false) (Rows.linearHoldsSpec.post enc Tryz.prog Tryz.f3 false true false false) := by
  refine returnsInHanded_of_change_sized (C := Tryz.checked) own started (by kernel_rfl) Tryz.func3
    (ChangeSpec.witness6 (enc := enc) (C := Tryz.checked) false ⟨#[], #[(.slice none 0 0), (.slice none 0 0), (.slice none 0 0), (.slice none 0 0), (.agg #[.bool false, .slice none 0 0])], []⟩ 8 (by kernel_rfl) (by kernel_rfl) (by kernel_rfl) (by kernel_rfl)) ?_
  intro W base args ds gs before hval0 hW hcnd hsz0 _
  have hval : ∀ (j : Nat) t v, Tryz.f3.params[j]? = some t → args[j]? = some v → Value.okWide Tryz.prog W .any base t v := hval0
  have hW' := hW
  obtain ⟨p, q, hA0, hV, rfl, hfz, hnd⟩ := hW
  have hA : DataW.TrodAll enc Tryz.prog W 0 (fun _ => true) true Tryz.f3.params.toList args.toList ds p := hA0
  have hpar : Tryz.f3.params.toList = [22, 23, 23, 23, 26] := by rw [Tryz.params3]
  rw [hpar] at hA
  obtain ⟨xs, hfit, hrep, hpure, hst⟩ := Vm.open_args eok.toEOk (by kernel_rfl) _ _ _ _ (by kernel_rfl) hA (fun j t v ht hv => ⟨_, _, hval j t v (by rw [← Array.getElem?_toList, hpar]; exact ht) (by rw [← Array.getElem?_toList]; exact hv)⟩)
  have hlen := Vm.trodAll_len hA
  obtain ⟨rfl, rfl⟩ := trodVars_none hV
  clear hA0 hval0 hsz0 hval hA hcnd
  match ds, hlen, hst, hW' with
  | [d0, d1, d2, d3, d4], _, hst, hW =>
    refine (Vm.denP_calls eok (hP xs hfit) W args hrep hpure).mono fun e W' ⟨bel, v, he, hv⟩ => ?_
    subst he
    obtain rfl := Vm.rep_bool hv
    exact ⟨_, rfl, _, _, _, [], _, [], hW, trodAll_mk1 (shut_bool Tryz.underlying4 _), (by rw [hpar]; exact hst W' bel), rfl, bel.frame _, fun h => by cases h⟩
theorem over (hP : Pure) : Rows.linearHoldsRow.holds Tryz.pinned (OpenSpec.ofChange Rows.linearHoldsSpec) :=
  OpenClaim.holds_of_wide 3 Tryz.f3 rfl rfl rfl rfl rfl rfl rfl ⟨rfl, rfl, rfl, rfl, rfl⟩ rfl rfl rfl rfl rfl (by kernel_rfl) Tryz.func3 (by kernel_rfl)
    (of_decide_eq_true (by kernel_rfl)) (by unfold Func.isWrapper; first | (rw [if_pos (by decide +kernel)]; kernel_rfl) | (rw [if_neg (by decide +kernel)]; exact ⟨rfl, rfl⟩))
    (fun os started H enc _ => lifted hP os started H enc)
end linearHolds

end Go.Proofs.YtnpomadbaanpkaaGreat

/- LinearHolds: Holds and Refutes return what the document says, or its errors, for all lists: shown by walking the program and the reference, with every case of numbers that do not fit. (Own work of this repo.) -/
namespace Go.Proofs.YtnpomadbaanpkaaGreat
open Vm
set_option maxRecDepth 10000

theorem linearHolds_pure : linearHolds.Pure := by
  intro xs h
  simp only [FitArgs, opn_eq, T1, T2, T3, T4, T5, T6, T9, T10, T11, T12, T15, T16, T17, T20, T21, T22, T23, T24, T25, T26, T27, T28, T29, T31, T32, T33, T34, T35, T36, T37, T38, T39, T40, T41, T42, T43, T44, T46, T47, T49, T51, T52, T53, T54, T55, T56, T57, T58, T59, T60, T61, T62, T63, T64, T65, T66, T67, T68, T70, T72, T73, T74, T76, T77, T78, T79, T80, T82, T83, T84, T85, T86, T87, T88, T89, T90, T91, T92, T93, T94, T95, T97, T99, T100, T101, T103, T104, T106, T107, T108, T109, T110, T111, T112, T113, T114, T115, T116, T117, T118, T119, T121, T122, T123, T124, T125, T126, T128, T130, T131, T132, T134, T135, T136, T137, T138, T139, T140, T141, T144, T147, T148, T149, T150, T151, T152, T153, elm] at h
  obtain ⟨c1, x1, y1, rfl, ⟨rfl, h1⟩, c2, x2, y2, rfl, ⟨rfl, h2⟩, c3, x3, y3, rfl, ⟨rfl, h3⟩, c4, x4, y4, rfl, ⟨rfl, h4⟩, c5, x5, y5, rfl, ⟨rfl, h5⟩, rfl⟩ := h
  obtain ⟨na, A, rfl, sA, iA⟩ := fit_mat (m := 1) T23 T22 h1
  obtain ⟨nb, B, rfl, sB, iB, _⟩ := fit_list (m := 2) T23 h2
  obtain ⟨nx, X, rfl, sX, iX, _⟩ := fit_list (m := 2) T23 h3
  obtain ⟨ny, Y, rfl, sY, iY, _⟩ := fit_list (m := 2) T23 h4
  obtain ⟨q, rfl, q1, _, q3⟩ := fit_raw (m := 3) h5
  exact lholds_walk awake5 na A nb B nx X ny Y q sA sB sX sY (by unfold maxLen at q3; omega) iA iB iX iY q1
theorem linearHolds_holds : Rows.LinearHoldsSaid := linearHolds.over linearHolds_pure
#print axioms linearHolds_holds
end Go.Proofs.YtnpomadbaanpkaaGreat
