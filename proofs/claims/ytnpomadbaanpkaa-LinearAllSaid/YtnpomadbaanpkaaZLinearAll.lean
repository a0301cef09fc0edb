/- Part 10 of a proof about this seat: RLinearAll, LAll. (Own work of this repo.) -/
import Derived.Test.YtnpomadbaanpkaaZLinearAll9
import Derived.WalkKit
import Derived.ProofKit
import Derived.OpenShut
import Derived.ShutString
import Derived.ChangeOld
import Derived.Below
import Derived.SizedLaws
set_option linter.unusedVariables false
set_option linter.unusedSimpArgs false
/- The row of LinearAll, out of what the machine over pure values says. (Own work of this repo.) -/
namespace Go.Proofs.Ytnpomadbaanpkaa
namespace linearAll
open Go.ChangeShapes Go.WideShapes Go.ChangeAt Go.RowKit
def Pure : Prop := ∀ xs, Vm.FitArgs E [22, 23, 23] xs → Vm.denP E 6 xs = some (.ret (.bool true))
theorem own : ownKnob Try.prog.godebug = none := by kernel_rfl
set_option maxRecDepth 100000 in
theorem lifted (hP : Pure) (os : Os) (started : os.Started) (H : Type) (enc : TypeId × Value → H) :
    ReturnsInHanded {} Try.checked os 6 .any (Rows.linearAllSpec.pre6 enc Try.prog Try.f6 Rows.linearAllRow.domain false) (Rows.linearAllSpec.post enc Try.prog Try.f6 false true false false) := by
  refine returnsInHanded_of_change_sized (C := Try.checked) own started (by kernel_rfl) Try.func6
    (ChangeSpec.witness6 (enc := enc) (C := Try.checked) false ⟨#[], #[(.slice none 0 0), (.slice none 0 0), (.slice none 0 0)], []⟩ 8 (by kernel_rfl) (by kernel_rfl) (by kernel_rfl) (by kernel_rfl)) ?_
  intro W base args ds gs before hval0 hW hcnd hsz0 _
  have hval : ∀ (j : Nat) t v, Try.f6.params[j]? = some t → args[j]? = some v → Value.okWide Try.prog W .any base t v := hval0
  have hW' := hW
  obtain ⟨p, q, hA0, hV, rfl, hfz, hnd⟩ := hW
  have hA : DataW.TrodAll enc Try.prog W 0 (fun _ => true) true Try.f6.params.toList args.toList ds p := hA0
  have hpar : Try.f6.params.toList = [22, 23, 23] := by rw [Try.params6]
  rw [hpar] at hA
  obtain ⟨xs, hfit, hrep, hpure, hst⟩ := Vm.open_args eok.toEOk (by kernel_rfl) _ _ _ _ (by kernel_rfl) hA (fun j t v ht hv => ⟨_, _, hval j t v (by rw [← Array.getElem?_toList, hpar]; exact ht) (by rw [← Array.getElem?_toList]; exact hv)⟩)
  have hlen := Vm.trodAll_len hA
  obtain ⟨rfl, rfl⟩ := trodVars_none hV
  clear hA0 hval0 hsz0 hval hA hcnd
  match ds, hlen, hst, hW' with
  | [d0, d1, d2], _, hst, hW =>
    refine (Vm.denP_calls eok (hP xs hfit) W args hrep hpure).mono fun e W' ⟨bel, v, he, hv⟩ => ?_
    subst he
    obtain rfl := Vm.rep_bool hv
    exact ⟨_, rfl, _, _, _, [], _, [], hW, trodAll_mk1 (shut_bool Try.underlying4 _), (by rw [hpar]; exact hst W' bel), rfl, bel.frame _, fun h => by cases h⟩
theorem over (hP : Pure) : Rows.linearAllRow.holds Try.pinned (OpenSpec.ofChange Rows.linearAllSpec) :=
  OpenClaim.holds_of_wide 6 Try.f6 rfl rfl rfl rfl rfl rfl rfl ⟨rfl, rfl, rfl, rfl, rfl⟩ rfl rfl rfl rfl rfl (by kernel_rfl) Try.func6 (by kernel_rfl)
    (of_decide_eq_true (by kernel_rfl)) (by unfold Func.isWrapper; first | (rw [if_pos (by decide +kernel)]; kernel_rfl) | (rw [if_neg (by decide +kernel)]; exact ⟨rfl, rfl⟩))
    (fun os started H enc _ => lifted hP os started H enc)
end linearAll

end Go.Proofs.Ytnpomadbaanpkaa

/- LinearAll: the system whose solution a list is made to be is solved, and Express tells the list, and any sum of multiples of the basis, by their multiples: shown by walking the program; a bound on Euclid's algorithm on columns shows that no number is too long. (Own work of this repo.) -/
namespace Go.Proofs.Ytnpomadbaanpkaa
open Vm
set_option maxRecDepth 10000

theorem linearAll_pure : linearAll.Pure := by
  intro xs h
  simp only [FitArgs, opn_eq, T1, T2, T3, T4, T5, T6, T9, T10, T11, T12, T15, T16, T17, T20, T21, T22, T23, T24, T25, T26, T27, T28, T29, T31, T32, T34, T35, T37, T38, T39, T40, T41, T42, T43, T44, T45, T46, T47, T48, T49, T50, T51, T52, T53, T54, T56, T57, T59, T60, T61, T62, T63, T64, T65, T66, T67, T69, T70, T71, T72, T73, T74, T75, T76, T77, T78, T80, T81, T82, T83, T84, T85, T86, T88, T89, T90, T91, T92, T93, T94, T95, T96, T98, T99, T100, T101, T102, T103, T104, T106, T107, T108, T109, T110, T111, T112, T113, T115, T116, T117, T118, T119, T120, T122, T123, T125, T126, T127, T128, T129, T131, T132, T133, T134, T135, T136, T137, T140, T143, T144, T145, T146, T147, T148, T149, elm] at h
  obtain ⟨c1, x1, y1, rfl, ⟨rfl, h1⟩, c2, x2, y2, rfl, ⟨rfl, h2⟩, c3, x3, y3, rfl, ⟨rfl, h3⟩, rfl⟩ := h
  obtain ⟨na, A, rfl, sA, iA, nA⟩ := fit_matN (m := 1) T23 T22 h1
  obtain ⟨nx, X, rfl, sX, iX, _⟩ := fit_list (m := 2) T23 h2
  obtain ⟨nb, By, rfl, sB, iB, _⟩ := fit_list (m := 2) T23 h3
  exact all_walk awake5 na A nx X nb By sA sX sB iA iX iB nA
theorem linearAll_holds : Rows.LinearAllSaid := linearAll.over linearAll_pure
#print axioms linearAll_holds
end Go.Proofs.Ytnpomadbaanpkaa
