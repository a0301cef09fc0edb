/- Part 8 of a proof about this seat: RLinearRows, LRow5. (Own work of this repo.) -/
import Derived.Test.YtnpomadbaanpkaaZLinearRows7
import Derived.WalkKit
import Derived.ProofKit
import Derived.OpenShut
import Derived.ShutString
import Derived.ChangeOld
import Derived.Below
import Derived.SizedLaws
set_option linter.unusedVariables false
set_option linter.unusedSimpArgs false
/- The row of LinearRows, out of what the machine over pure values says. (Own work of this repo.) -/
namespace Go.Proofs.Ytnpomadbaanpkaa
namespace linearRows
open Go.ChangeShapes Go.WideShapes Go.ChangeAt Go.RowKit
def Pure : Prop := ∀ xs, Vm.FitArgs E [22, 23, 23, 5, 5, 3] xs → Vm.denP E 5 xs = some (.ret (.bool true))
theorem own : ownKnob Try.prog.godebug = none := by kernel_rfl
set_option maxRecDepth 100000 in
theorem lifted (hP : Pure) (os : Os) (started : os.Started) (H : Type) (enc : TypeId × Value → H) :
    ReturnsInHanded {} Try.checked os 5 .any (Rows.linearRowsSpec.pre6 enc Try.prog Try.f5 Rows.linearRowsRow.domain false) (Rows.linearRowsSpec.post enc Try.prog Try.f5 false true false false) := by
  refine returnsInHanded_of_change_sized (C := Try.checked) own started (by kernel_rfl) Try.func5
    (ChangeSpec.witness6 (enc := enc) (C := Try.checked) false ⟨#[], #[(.slice none 0 0), (.slice none 0 0), (.slice none 0 0), (.int .u8 0), (.int .u8 0), (.int .i64 0)], []⟩ 8 (by kernel_rfl) (by kernel_rfl) (by kernel_rfl) (by kernel_rfl)) ?_
  intro W base args ds gs before hval0 hW hcnd hsz0 _
  have hval : ∀ (j : Nat) t v, Try.f5.params[j]? = some t → args[j]? = some v → Value.okWide Try.prog W .any base t v := hval0
  have hW' := hW
  obtain ⟨p, q, hA0, hV, rfl, hfz, hnd⟩ := hW
  have hA : DataW.TrodAll enc Try.prog W 0 (fun _ => true) true Try.f5.params.toList args.toList ds p := hA0
  have hpar : Try.f5.params.toList = [22, 23, 23, 5, 5, 3] := by rw [Try.params5]
  rw [hpar] at hA
  obtain ⟨xs, hfit, hrep, hpure, hst⟩ := Vm.open_args eok.toEOk (by kernel_rfl) _ _ _ _ (by kernel_rfl) hA (fun j t v ht hv => ⟨_, _, hval j t v (by rw [← Array.getElem?_toList, hpar]; exact ht) (by rw [← Array.getElem?_toList]; exact hv)⟩)
  have hlen := Vm.trodAll_len hA
  obtain ⟨rfl, rfl⟩ := trodVars_none hV
  clear hA0 hval0 hsz0 hval hA hcnd
  match ds, hlen, hst, hW' with
  | [d0, d1, d2, d3, d4, d5], _, hst, hW =>
    refine (Vm.denP_calls eok (hP xs hfit) W args hrep hpure).mono fun e W' ⟨bel, v, he, hv⟩ => ?_
    subst he
    obtain rfl := Vm.rep_bool hv
    exact ⟨_, rfl, _, _, _, [], _, [], hW, trodAll_mk1 (shut_bool Try.underlying4 _), (by rw [hpar]; exact hst W' bel), rfl, bel.frame _, fun h => by cases h⟩
theorem over (hP : Pure) : Rows.linearRowsRow.holds Try.pinned (OpenSpec.ofChange Rows.linearRowsSpec) :=
  OpenClaim.holds_of_wide 5 Try.f5 rfl rfl rfl rfl rfl rfl rfl ⟨rfl, rfl, rfl, rfl, rfl⟩ rfl rfl rfl rfl rfl (by kernel_rfl) Try.func5 (by kernel_rfl)
    (of_decide_eq_true (by kernel_rfl)) (by unfold Func.isWrapper; first | (rw [if_pos (by decide +kernel)]; kernel_rfl) | (rw [if_neg (by decide +kernel)]; exact ⟨rfl, rfl⟩))
    (fun os started H enc _ => lifted hP os started H enc)
end linearRows

end Go.Proofs.Ytnpomadbaanpkaa

/- The law LinearRows. (Own work of this repo.) -/
namespace Go.Proofs.Ytnpomadbaanpkaa
open Vm
set_option maxRecDepth 10000

theorem fit_u8 {m : Nat} {cs : List AV} {t : Nat} (ht : E.T t = some ⟨1, 1, false, .int .u8 0, .int .u8⟩) (h : Fit E (m + 1) t cs) : ∃ n : Nat, n < 256 ∧ cs = [.int .u8 n] := by
  simp only [Fit, ht, FitD] at h
  obtain ⟨_, i, rfl, hi⟩ := h
  have hi' : 0 ≤ i ∧ i < 256 := by simp [Lit.wf, IntKind.max, IntKind.min, IntKind.bits, IntKind.signed] at hi; omega
  refine ⟨i.toNat, by omega, ?_⟩
  rw [show ((i.toNat : Nat) : Int) = i by omega]
theorem linearRows_pure : linearRows.Pure := by
  intro xs h
  simp only [FitArgs, opn_eq, T1, T2, T3, T4, T5, T6, T9, T10, T11, T12, T15, T16, T17, T20, T21, T22, T23, T24, T25, T26, T27, T28, T29, T31, T32, T34, T35, T37, T38, T39, T40, T41, T42, T43, T44, T45, T46, T47, T48, T49, T50, T51, T52, T53, T54, T56, T57, T59, T60, T61, T62, T63, T64, T65, T66, T67, T69, T70, T71, T72, T73, T74, T75, T76, T77, T78, T80, T81, T82, T83, T84, T85, T86, T88, T89, T90, T91, T92, T93, T94, T95, T96, T98, T99, T100, T101, T102, T103, T104, T106, T107, T108, T109, T110, T111, T112, T113, T115, T116, T117, T118, T119, T120, T122, T123, T125, T126, T127, T128, T129, T131, T132, T133, T134, T135, T136, T137, T140, T143, T144, T145, T146, T147, T148, T149, elm] at h
  obtain ⟨c1, x1, y1, rfl, ⟨rfl, h1⟩, c2, x2, y2, rfl, ⟨rfl, h2⟩, c3, x3, y3, rfl, ⟨rfl, h3⟩, c4, x4, y4, rfl, ⟨rfl, h4⟩, c5, x5, y5, rfl, ⟨rfl, h5⟩, c6, x6, y6, rfl, ⟨rfl, h6⟩, rfl⟩ := h
  obtain ⟨na, A, rfl, sA, iA⟩ := fit_mat (m := 1) T23 T22 h1
  obtain ⟨nb, B, rfl, sB, iB, _⟩ := fit_list (m := 2) T23 h2
  obtain ⟨nx, X, rfl, sX, iX, _⟩ := fit_list (m := 2) T23 h3
  obtain ⟨i, hi, rfl⟩ := fit_u8 (m := 5) T5 h4
  obtain ⟨k, hk, rfl⟩ := fit_u8 (m := 5) T5 h5
  obtain ⟨b, hb1, hb2, rfl⟩ := fit_int8 (m := 5) h6
  exact rows_walk awake5 na A nb B nx X sA sB sX iA iB iX i k hi hk b ⟨hb1, hb2⟩
theorem linearRows_holds : Rows.LinearRowsSaid := linearRows.over linearRows_pure
#print axioms linearRows_holds
end Go.Proofs.Ytnpomadbaanpkaa
