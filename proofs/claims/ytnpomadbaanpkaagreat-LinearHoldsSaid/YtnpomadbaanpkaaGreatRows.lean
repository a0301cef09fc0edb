/-
  No cell of these rows narrows 'for every input' (looked for: loops, veiled, ifaces, maps, wideKeys, modest, calm, conditions, laid).
  DERIVED. THE GIVEN ROWS OF THIS SEAT. 3 by the template 'for every input the law returns true; each argument reads behind the call as it read before'; 0 by the template 'total and deterministic' (their statements: YtnpomadbaanpkaaGreatTotals.lean).
  GIVEN WITH THE SEED: the statements are not yours to turn. If you find one false, say at which input.
  Laid BY PROGRAM, IN A SANDBOX (cutbox-rows.mjs): the forced cells as the released guide's own fill.sh prints them over the translation 569095d359ee3788… (all of the seat's roots in one cut). By AI agents, Wed Nov 11 2026. No macro, syntax, notation, axiom, sorry.
-/
import Derived.Test.YtnpomadbaanpkaaGreatChecked
import GoSem.Claim
import GoSem.ClaimJoined
import GoSem.ClaimMapViews
import Derived.JoinedTies
import Derived.KernelRfl
namespace Go.Proofs.YtnpomadbaanpkaaGreat
/- THE CELL 'sum', in the pinned program and in every row, IS THE sha256 OF THE DUMP (.gsa) THAT YtnpomadbaanpkaaGreatProg.lean LOADS. Nothing in Lean hashes anything: it is a label: what it is worth is what the hold of that sum in a sandbox is worth. -/
noncomputable def Tryz.pinned : Pinned := { name := "ytnpomadbaanpkaagreat", sum := "569095d359ee378893cce5304d8d1f46a688a80f86c6317ff178ffbc39ae2946", checked := Tryz.checked }
namespace Rows
def none {H : Type} : Left H := { results := [], args := [] }

/-- 'arithmancylaw05.LinearHolds': WHATEVER THE INPUT: true; the input reads as it did. -/
def linearHoldsSpec : ChangeSpec := { name := "linearHolds", fn := fun _ => fun
  | [d1, d2, d3, d4, d5] => { results := [.lit (.bool true)], args := [d1, d2, d3, d4, d5] }
  | _ => none }
def linearHoldsRow : OpenClaim := { program := "ytnpomadbaanpkaagreat", sum := "569095d359ee378893cce5304d8d1f46a688a80f86c6317ff178ffbc39ae2946", func := "arithmancy/arithmancylaw05.LinearHolds", spec := "linearHolds", unfollowed := true, recurses := true, apart := false }
def LinearHoldsSaid : Prop := linearHoldsRow.holds Tryz.pinned (OpenSpec.ofChange linearHoldsSpec)

/-- ITS FALSE NEIGHBOUR: 'it returns false'. Refute it at one input. -/
def linearHoldsWrong : ChangeSpec := { name := "linearHolds", fn := fun _ => fun
  | [d1, d2, d3, d4, d5] => { results := [.lit (.bool false)], args := [d1, d2, d3, d4, d5] }
  | _ => none }
def LinearHoldsWrongFalsely : Prop := linearHoldsRow.holds Tryz.pinned (OpenSpec.ofChange linearHoldsWrong)

/-- 'arithmancylaw05.LinearSolves': WHATEVER THE INPUT: true; the input reads as it did. -/
def linearSolvesSpec : ChangeSpec := { name := "linearSolves", fn := fun _ => fun
  | [d1, d2] => { results := [.lit (.bool true)], args := [d1, d2] }
  | _ => none }
def linearSolvesRow : OpenClaim := { program := "ytnpomadbaanpkaagreat", sum := "569095d359ee378893cce5304d8d1f46a688a80f86c6317ff178ffbc39ae2946", func := "arithmancy/arithmancylaw05.LinearSolves", spec := "linearSolves", unfollowed := true, recurses := true, apart := false }
def LinearSolvesSaid : Prop := linearSolvesRow.holds Tryz.pinned (OpenSpec.ofChange linearSolvesSpec)

/-- ITS FALSE NEIGHBOUR: 'it returns false'. Refute it at one input. -/
def linearSolvesWrong : ChangeSpec := { name := "linearSolves", fn := fun _ => fun
  | [d1, d2] => { results := [.lit (.bool false)], args := [d1, d2] }
  | _ => none }
def LinearSolvesWrongFalsely : Prop := linearSolvesRow.holds Tryz.pinned (OpenSpec.ofChange linearSolvesWrong)

/-- 'arithmancylaw05.LinearExpress': WHATEVER THE INPUT: true; the input reads as it did. -/
def linearExpressSpec : ChangeSpec := { name := "linearExpress", fn := fun _ => fun
  | [d1, d2, d3, d4] => { results := [.lit (.bool true)], args := [d1, d2, d3, d4] }
  | _ => none }
def linearExpressRow : OpenClaim := { program := "ytnpomadbaanpkaagreat", sum := "569095d359ee378893cce5304d8d1f46a688a80f86c6317ff178ffbc39ae2946", func := "arithmancy/arithmancylaw05.LinearExpress", spec := "linearExpress", unfollowed := true, recurses := true, apart := false }
def LinearExpressSaid : Prop := linearExpressRow.holds Tryz.pinned (OpenSpec.ofChange linearExpressSpec)

/-- ITS FALSE NEIGHBOUR: 'it returns false'. Refute it at one input. -/
def linearExpressWrong : ChangeSpec := { name := "linearExpress", fn := fun _ => fun
  | [d1, d2, d3, d4] => { results := [.lit (.bool false)], args := [d1, d2, d3, d4] }
  | _ => none }
def LinearExpressWrongFalsely : Prop := linearExpressRow.holds Tryz.pinned (OpenSpec.ofChange linearExpressWrong)

/- THE SECOND FORM. 'bulk': how many values and letters a reading holds, each counted each time it is reached (what is shared counts as often as it is met; a slice's spare places count too). A statement '..UptoSaid' is the law's where the arguments, and the package variables that the reading takes, are together of bulk at most 1048576: NARROWER than '..Said'. Prove '..Said' where nothing that the law and all that it calls make is longer than what came in: it says more and counts as full. Else prove '..UptoSaid'. A law counts once. -/
mutual
def uptoBulk {H : Type} : DataW H → Nat
  | .lit (.string bytes) => bytes.length + 1
  | .lit _ => 1
  | .nil => 1
  | .ptr d => uptoBulk d + 1
  | .slice elems spare => uptoBulkAll elems + uptoBulkAll spare + 1
  | .agg parts => uptoBulkAll parts + 1
  | .iface _ d => uptoBulk d + 1
  | .map entries => uptoBulkEntries entries + 1
  | .held _ => 1
def uptoBulkAll {H : Type} : List (DataW H) → Nat
  | [] => 0
  | d :: r => uptoBulk d + uptoBulkAll r
def uptoBulkEntries {H : Type} : List (Lit × DataW H) → Nat
  | [] => 0
  | x :: r => uptoBulkEntry x + uptoBulkEntries r
def uptoBulkEntry {H : Type} : Lit × DataW H → Nat
  | (.string bytes, d) => bytes.length + uptoBulk d + 1
  | (_, d) => uptoBulk d + 1
 end
def uptoSmall : (H : Type) → List (DataW H) → Bool := fun _ ds => decide (uptoBulkAll ds ≤ 1048576)
def OpenSpec.upto (s : _root_.Go.ChangeSpec) : _root_.Go.OpenSpec := { _root_.Go.OpenSpec.ofChange s with cond := some uptoSmall }

/-- 'arithmancylaw05.LinearHolds', WHERE WHAT IT READS IS OF BULK AT MOST 1048576: true; the input reads as it did. -/
def linearHoldsUptoRow : OpenClaim := { program := "ytnpomadbaanpkaagreat", sum := "569095d359ee378893cce5304d8d1f46a688a80f86c6317ff178ffbc39ae2946", func := "arithmancy/arithmancylaw05.LinearHolds", spec := "linearHolds", unfollowed := true, recurses := true, apart := false, narrowed := true }
def LinearHoldsUptoSaid : Prop := linearHoldsUptoRow.holds Tryz.pinned (OpenSpec.upto linearHoldsSpec)

/-- 'arithmancylaw05.LinearSolves', WHERE WHAT IT READS IS OF BULK AT MOST 1048576: true; the input reads as it did. -/
def linearSolvesUptoRow : OpenClaim := { program := "ytnpomadbaanpkaagreat", sum := "569095d359ee378893cce5304d8d1f46a688a80f86c6317ff178ffbc39ae2946", func := "arithmancy/arithmancylaw05.LinearSolves", spec := "linearSolves", unfollowed := true, recurses := true, apart := false, narrowed := true }
def LinearSolvesUptoSaid : Prop := linearSolvesUptoRow.holds Tryz.pinned (OpenSpec.upto linearSolvesSpec)

/-- 'arithmancylaw05.LinearExpress', WHERE WHAT IT READS IS OF BULK AT MOST 1048576: true; the input reads as it did. -/
def linearExpressUptoRow : OpenClaim := { program := "ytnpomadbaanpkaagreat", sum := "569095d359ee378893cce5304d8d1f46a688a80f86c6317ff178ffbc39ae2946", func := "arithmancy/arithmancylaw05.LinearExpress", spec := "linearExpress", unfollowed := true, recurses := true, apart := false, narrowed := true }
def LinearExpressUptoSaid : Prop := linearExpressUptoRow.holds Tryz.pinned (OpenSpec.upto linearExpressSpec)

end Rows
end Go.Proofs.YtnpomadbaanpkaaGreat
