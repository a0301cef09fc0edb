/-
  No cell of these rows narrows 'for every input' (looked for: loops, veiled, ifaces, maps, wideKeys, modest, calm, conditions, laid).
  DERIVED. THE GIVEN ROWS OF THIS SEAT. 6 by the template 'for every input the law returns true; each argument reads behind the call as it read before'; 0 by the template 'total and deterministic' (their statements: YtiglncbaomoceaaTotals.lean).
  GIVEN WITH THE SEED: the statements are not yours to turn. If you find one false, say at which input.
  Laid BY PROGRAM, IN A SANDBOX (cutbox-rows.mjs): the forced cells as the released guide's own fill.sh prints them over the translation 182b049c5cecd40b… (all of the seat's roots in one cut). By AI agents, Wed Nov 11 2026. No macro, syntax, notation, axiom, sorry.
-/
import Derived.Test.YtiglncbaomoceaaChecked
import GoSem.Claim
import GoSem.ClaimJoined
import GoSem.ClaimMapViews
import Derived.JoinedTies
import Derived.KernelRfl
namespace Go.Proofs.Ytiglncbaomoceaa
/- THE CELL 'sum', in the pinned program and in every row, IS THE sha256 OF THE DUMP (.gsa) THAT YtiglncbaomoceaaProg.lean LOADS. Nothing in Lean hashes anything: it is a label: what it is worth is what the hold of that sum in a sandbox is worth. -/
noncomputable def Try.pinned : Pinned := { name := "ytiglncbaomoceaa", sum := "182b049c5cecd40bf98f4f6489593559dd4c3d660e53137d8b8eff9d3d2f35ec", checked := Try.checked }
namespace Rows
def none {H : Type} : Left H := { results := [], args := [] }

/-- 'arithmancylaw07.PellPeriods': WHATEVER THE INPUT: true; the input reads as it did. -/
def pellPeriodsSpec : ChangeSpec := { name := "pellPeriods", fn := fun _ => fun
  | [d] => { results := [.lit (.bool true)], args := [d] }
  | _ => none }
def pellPeriodsRow : OpenClaim := { program := "ytiglncbaomoceaa", sum := "182b049c5cecd40bf98f4f6489593559dd4c3d660e53137d8b8eff9d3d2f35ec", func := "arithmancy/arithmancylaw07.PellPeriods", spec := "pellPeriods", unfollowed := true, recurses := true, apart := false }
def PellPeriodsSaid : Prop := pellPeriodsRow.holds Try.pinned (OpenSpec.ofChange pellPeriodsSpec)

/-- ITS FALSE NEIGHBOUR: 'it returns false'. Refute it at one input. -/
def pellPeriodsWrong : ChangeSpec := { name := "pellPeriods", fn := fun _ => fun
  | [d] => { results := [.lit (.bool false)], args := [d] }
  | _ => none }
def PellPeriodsWrongFalsely : Prop := pellPeriodsRow.holds Try.pinned (OpenSpec.ofChange pellPeriodsWrong)

/-- 'arithmancylaw07.PellNth': WHATEVER THE INPUT: true; the input reads as it did. -/
def pellNthSpec : ChangeSpec := { name := "pellNth", fn := fun _ => fun
  | [d1, d2] => { results := [.lit (.bool true)], args := [d1, d2] }
  | _ => none }
def pellNthRow : OpenClaim := { program := "ytiglncbaomoceaa", sum := "182b049c5cecd40bf98f4f6489593559dd4c3d660e53137d8b8eff9d3d2f35ec", func := "arithmancy/arithmancylaw07.PellNth", spec := "pellNth", unfollowed := true, recurses := true, apart := false }
def PellNthSaid : Prop := pellNthRow.holds Try.pinned (OpenSpec.ofChange pellNthSpec)

/-- ITS FALSE NEIGHBOUR: 'it returns false'. Refute it at one input. -/
def pellNthWrong : ChangeSpec := { name := "pellNth", fn := fun _ => fun
  | [d1, d2] => { results := [.lit (.bool false)], args := [d1, d2] }
  | _ => none }
def PellNthWrongFalsely : Prop := pellNthRow.holds Try.pinned (OpenSpec.ofChange pellNthWrong)

/-- 'arithmancylaw07.PellIndex': WHATEVER THE INPUT: true; the input reads as it did. -/
def pellIndexSpec : ChangeSpec := { name := "pellIndex", fn := fun _ => fun
  | [d1, d2, d3] => { results := [.lit (.bool true)], args := [d1, d2, d3] }
  | _ => none }
def pellIndexRow : OpenClaim := { program := "ytiglncbaomoceaa", sum := "182b049c5cecd40bf98f4f6489593559dd4c3d660e53137d8b8eff9d3d2f35ec", func := "arithmancy/arithmancylaw07.PellIndex", spec := "pellIndex", unfollowed := true, recurses := true, apart := false }
def PellIndexSaid : Prop := pellIndexRow.holds Try.pinned (OpenSpec.ofChange pellIndexSpec)

/-- ITS FALSE NEIGHBOUR: 'it returns false'. Refute it at one input. -/
def pellIndexWrong : ChangeSpec := { name := "pellIndex", fn := fun _ => fun
  | [d1, d2, d3] => { results := [.lit (.bool false)], args := [d1, d2, d3] }
  | _ => none }
def PellIndexWrongFalsely : Prop := pellIndexRow.holds Try.pinned (OpenSpec.ofChange pellIndexWrong)

/-- 'arithmancylaw07.PellSteps': WHATEVER THE INPUT: true; the input reads as it did. -/
def pellStepsSpec : ChangeSpec := { name := "pellSteps", fn := fun _ => fun
  | [d1, d2, d3, d4] => { results := [.lit (.bool true)], args := [d1, d2, d3, d4] }
  | _ => none }
def pellStepsRow : OpenClaim := { program := "ytiglncbaomoceaa", sum := "182b049c5cecd40bf98f4f6489593559dd4c3d660e53137d8b8eff9d3d2f35ec", func := "arithmancy/arithmancylaw07.PellSteps", spec := "pellSteps", unfollowed := true, recurses := true, apart := false }
def PellStepsSaid : Prop := pellStepsRow.holds Try.pinned (OpenSpec.ofChange pellStepsSpec)

/-- ITS FALSE NEIGHBOUR: 'it returns false'. Refute it at one input. -/
def pellStepsWrong : ChangeSpec := { name := "pellSteps", fn := fun _ => fun
  | [d1, d2, d3, d4] => { results := [.lit (.bool false)], args := [d1, d2, d3, d4] }
  | _ => none }
def PellStepsWrongFalsely : Prop := pellStepsRow.holds Try.pinned (OpenSpec.ofChange pellStepsWrong)

/-- 'arithmancytop.TopPell': WHATEVER THE INPUT: true; the input reads as it did. -/
def topPellSpec : ChangeSpec := { name := "topPell", fn := fun _ => fun
  | [d1, d2, d3] => { results := [.lit (.bool true)], args := [d1, d2, d3] }
  | _ => none }
def topPellRow : OpenClaim := { program := "ytiglncbaomoceaa", sum := "182b049c5cecd40bf98f4f6489593559dd4c3d660e53137d8b8eff9d3d2f35ec", func := "arithmancy/arithmancytop.TopPell", spec := "topPell", unfollowed := true, recurses := true, apart := false }
def TopPellSaid : Prop := topPellRow.holds Try.pinned (OpenSpec.ofChange topPellSpec)

/-- ITS FALSE NEIGHBOUR: 'it returns false'. Refute it at one input. -/
def topPellWrong : ChangeSpec := { name := "topPell", fn := fun _ => fun
  | [d1, d2, d3] => { results := [.lit (.bool false)], args := [d1, d2, d3] }
  | _ => none }
def TopPellWrongFalsely : Prop := topPellRow.holds Try.pinned (OpenSpec.ofChange topPellWrong)

/-- 'arithmancylaw07.PellNone': WHATEVER THE INPUT: true; the input reads as it did. -/
def pellNoneSpec : ChangeSpec := { name := "pellNone", fn := fun _ => fun
  | [d1, d2] => { results := [.lit (.bool true)], args := [d1, d2] }
  | _ => none }
def pellNoneRow : OpenClaim := { program := "ytiglncbaomoceaa", sum := "182b049c5cecd40bf98f4f6489593559dd4c3d660e53137d8b8eff9d3d2f35ec", func := "arithmancy/arithmancylaw07.PellNone", spec := "pellNone", unfollowed := true, recurses := true, apart := false }
def PellNoneSaid : Prop := pellNoneRow.holds Try.pinned (OpenSpec.ofChange pellNoneSpec)

/-- ITS FALSE NEIGHBOUR: 'it returns false'. Refute it at one input. -/
def pellNoneWrong : ChangeSpec := { name := "pellNone", fn := fun _ => fun
  | [d1, d2] => { results := [.lit (.bool false)], args := [d1, d2] }
  | _ => none }
def PellNoneWrongFalsely : Prop := pellNoneRow.holds Try.pinned (OpenSpec.ofChange pellNoneWrong)

/- THE SECOND FORM. 'bulk': how many values and letters a reading holds, each counted each time it is reached (what is shared counts as often as it is met; a slice's spare places count too). A statement '..UptoSaid' is the law's where the arguments, and the package variables that the reading takes, are together of bulk at most 1048576: NARROWER than '..Said'. Prove '..Said' where nothing that the law and all that it calls make is longer than what came in: it says more and counts as full. Else prove '..UptoSaid'. A law counts once. -/
mutual
def uptoBulk {H : Type} : DataW H → Nat
  | .lit (.string bytes) => bytes.length + 1
  | .lit _ => 1
  | .nil => 1
  | .ptr d => uptoBulk d + 1
  | .slice elems spare => uptoBulkAll elems + uptoBulkAll spare + 1
  | .agg parts => uptoBulkAll parts + 1
  | .iface _ d => uptoBulk d + 1
  | .map entries => uptoBulkEntries entries + 1
  | .held _ => 1
def uptoBulkAll {H : Type} : List (DataW H) → Nat
  | [] => 0
  | d :: r => uptoBulk d + uptoBulkAll r
def uptoBulkEntries {H : Type} : List (Lit × DataW H) → Nat
  | [] => 0
  | x :: r => uptoBulkEntry x + uptoBulkEntries r
def uptoBulkEntry {H : Type} : Lit × DataW H → Nat
  | (.string bytes, d) => bytes.length + uptoBulk d + 1
  | (_, d) => uptoBulk d + 1
 end
def uptoSmall : (H : Type) → List (DataW H) → Bool := fun _ ds => decide (uptoBulkAll ds ≤ 1048576)
def OpenSpec.upto (s : _root_.Go.ChangeSpec) : _root_.Go.OpenSpec := { _root_.Go.OpenSpec.ofChange s with cond := some uptoSmall }

/-- 'arithmancylaw07.PellPeriods', WHERE WHAT IT READS IS OF BULK AT MOST 1048576: true; the input reads as it did. -/
def pellPeriodsUptoRow : OpenClaim := { program := "ytiglncbaomoceaa", sum := "182b049c5cecd40bf98f4f6489593559dd4c3d660e53137d8b8eff9d3d2f35ec", func := "arithmancy/arithmancylaw07.PellPeriods", spec := "pellPeriods", unfollowed := true, recurses := true, apart := false, narrowed := true }
def PellPeriodsUptoSaid : Prop := pellPeriodsUptoRow.holds Try.pinned (OpenSpec.upto pellPeriodsSpec)

/-- 'arithmancylaw07.PellNth', WHERE WHAT IT READS IS OF BULK AT MOST 1048576: true; the input reads as it did. -/
def pellNthUptoRow : OpenClaim := { program := "ytiglncbaomoceaa", sum := "182b049c5cecd40bf98f4f6489593559dd4c3d660e53137d8b8eff9d3d2f35ec", func := "arithmancy/arithmancylaw07.PellNth", spec := "pellNth", unfollowed := true, recurses := true, apart := false, narrowed := true }
def PellNthUptoSaid : Prop := pellNthUptoRow.holds Try.pinned (OpenSpec.upto pellNthSpec)

/-- 'arithmancylaw07.PellIndex', WHERE WHAT IT READS IS OF BULK AT MOST 1048576: true; the input reads as it did. -/
def pellIndexUptoRow : OpenClaim := { program := "ytiglncbaomoceaa", sum := "182b049c5cecd40bf98f4f6489593559dd4c3d660e53137d8b8eff9d3d2f35ec", func := "arithmancy/arithmancylaw07.PellIndex", spec := "pellIndex", unfollowed := true, recurses := true, apart := false, narrowed := true }
def PellIndexUptoSaid : Prop := pellIndexUptoRow.holds Try.pinned (OpenSpec.upto pellIndexSpec)

/-- 'arithmancylaw07.PellSteps', WHERE WHAT IT READS IS OF BULK AT MOST 1048576: true; the input reads as it did. -/
def pellStepsUptoRow : OpenClaim := { program := "ytiglncbaomoceaa", sum := "182b049c5cecd40bf98f4f6489593559dd4c3d660e53137d8b8eff9d3d2f35ec", func := "arithmancy/arithmancylaw07.PellSteps", spec := "pellSteps", unfollowed := true, recurses := true, apart := false, narrowed := true }
def PellStepsUptoSaid : Prop := pellStepsUptoRow.holds Try.pinned (OpenSpec.upto pellStepsSpec)

/-- 'arithmancytop.TopPell', WHERE WHAT IT READS IS OF BULK AT MOST 1048576: true; the input reads as it did. -/
def topPellUptoRow : OpenClaim := { program := "ytiglncbaomoceaa", sum := "182b049c5cecd40bf98f4f6489593559dd4c3d660e53137d8b8eff9d3d2f35ec", func := "arithmancy/arithmancytop.TopPell", spec := "topPell", unfollowed := true, recurses := true, apart := false, narrowed := true }
def TopPellUptoSaid : Prop := topPellUptoRow.holds Try.pinned (OpenSpec.upto topPellSpec)

/-- 'arithmancylaw07.PellNone', WHERE WHAT IT READS IS OF BULK AT MOST 1048576: true; the input reads as it did. -/
def pellNoneUptoRow : OpenClaim := { program := "ytiglncbaomoceaa", sum := "182b049c5cecd40bf98f4f6489593559dd4c3d660e53137d8b8eff9d3d2f35ec", func := "arithmancy/arithmancylaw07.PellNone", spec := "pellNone", unfollowed := true, recurses := true, apart := false, narrowed := true }
def PellNoneUptoSaid : Prop := pellNoneUptoRow.holds Try.pinned (OpenSpec.upto pellNoneSpec)

end Rows
end Go.Proofs.Ytiglncbaomoceaa
