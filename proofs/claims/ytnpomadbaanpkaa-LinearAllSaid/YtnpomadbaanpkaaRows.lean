/-
  No cell of these rows narrows 'for every input' (looked for: loops, veiled, ifaces, maps, wideKeys, modest, calm, conditions, laid).
  DERIVED. THE GIVEN ROWS OF THIS SEAT. 4 by the template 'for every input the law returns true; each argument reads behind the call as it read before'; 0 by the template 'total and deterministic' (their statements: YtnpomadbaanpkaaTotals.lean).
  GIVEN WITH THE SEED: the statements are not yours to turn. If you find one false, say at which input.
  Laid BY PROGRAM, IN A SANDBOX (cutbox-rows.mjs): the forced cells as the released guide's own fill.sh prints them over the translation 3453aef80b2d80da… (all of the seat's roots in one cut). By AI agents, Wed Nov 11 2026. No macro, syntax, notation, axiom, sorry.
-/
import Derived.Test.YtnpomadbaanpkaaChecked
import GoSem.Claim
import GoSem.ClaimJoined
import GoSem.ClaimMapViews
import Derived.JoinedTies
import Derived.KernelRfl
namespace Go.Proofs.Ytnpomadbaanpkaa
/- THE CELL 'sum', in the pinned program and in every row, IS THE sha256 OF THE DUMP (.gsa) THAT YtnpomadbaanpkaaProg.lean LOADS. Nothing in Lean hashes anything: it is a label: what it is worth is what the hold of that sum in a sandbox is worth. -/
noncomputable def Try.pinned : Pinned := { name := "ytnpomadbaanpkaa", sum := "3453aef80b2d80dad0d43baf93fba0353f853f74cc8994ef11a854d842c0cce7", checked := Try.checked }
namespace Rows
def none {H : Type} : Left H := { results := [], args := [] }

/-- 'arithmancytop.TopLinear': WHATEVER THE INPUT: true; the input reads as it did. -/
def topLinearSpec : ChangeSpec := { name := "topLinear", fn := fun _ => fun
  | [d1, d2, d3] => { results := [.lit (.bool true)], args := [d1, d2, d3] }
  | _ => none }
def topLinearRow : OpenClaim := { program := "ytnpomadbaanpkaa", sum := "3453aef80b2d80dad0d43baf93fba0353f853f74cc8994ef11a854d842c0cce7", func := "arithmancy/arithmancytop.TopLinear", spec := "topLinear", unfollowed := true, recurses := true, apart := false }
def TopLinearSaid : Prop := topLinearRow.holds Try.pinned (OpenSpec.ofChange topLinearSpec)

/-- ITS FALSE NEIGHBOUR: 'it returns false'. Refute it at one input. -/
def topLinearWrong : ChangeSpec := { name := "topLinear", fn := fun _ => fun
  | [d1, d2, d3] => { results := [.lit (.bool false)], args := [d1, d2, d3] }
  | _ => none }
def TopLinearWrongFalsely : Prop := topLinearRow.holds Try.pinned (OpenSpec.ofChange topLinearWrong)

/-- 'arithmancylaw05.LinearNever': WHATEVER THE INPUT: true; the input reads as it did. -/
def linearNeverSpec : ChangeSpec := { name := "linearNever", fn := fun _ => fun
  | [d1, d2, d3, d4, d5] => { results := [.lit (.bool true)], args := [d1, d2, d3, d4, d5] }
  | _ => none }
def linearNeverRow : OpenClaim := { program := "ytnpomadbaanpkaa", sum := "3453aef80b2d80dad0d43baf93fba0353f853f74cc8994ef11a854d842c0cce7", func := "arithmancy/arithmancylaw05.LinearNever", spec := "linearNever", unfollowed := true, recurses := true, apart := false }
def LinearNeverSaid : Prop := linearNeverRow.holds Try.pinned (OpenSpec.ofChange linearNeverSpec)

/-- ITS FALSE NEIGHBOUR: 'it returns false'. Refute it at one input. -/
def linearNeverWrong : ChangeSpec := { name := "linearNever", fn := fun _ => fun
  | [d1, d2, d3, d4, d5] => { results := [.lit (.bool false)], args := [d1, d2, d3, d4, d5] }
  | _ => none }
def LinearNeverWrongFalsely : Prop := linearNeverRow.holds Try.pinned (OpenSpec.ofChange linearNeverWrong)

/-- 'arithmancylaw05.LinearRows': WHATEVER THE INPUT: true; the input reads as it did. -/
def linearRowsSpec : ChangeSpec := { name := "linearRows", fn := fun _ => fun
  | [d1, d2, d3, d4, d5, d6] => { results := [.lit (.bool true)], args := [d1, d2, d3, d4, d5, d6] }
  | _ => none }
def linearRowsRow : OpenClaim := { program := "ytnpomadbaanpkaa", sum := "3453aef80b2d80dad0d43baf93fba0353f853f74cc8994ef11a854d842c0cce7", func := "arithmancy/arithmancylaw05.LinearRows", spec := "linearRows", unfollowed := true, recurses := true, apart := false }
def LinearRowsSaid : Prop := linearRowsRow.holds Try.pinned (OpenSpec.ofChange linearRowsSpec)

/-- ITS FALSE NEIGHBOUR: 'it returns false'. Refute it at one input. -/
def linearRowsWrong : ChangeSpec := { name := "linearRows", fn := fun _ => fun
  | [d1, d2, d3, d4, d5, d6] => { results := [.lit (.bool false)], args := [d1, d2, d3, d4, d5, d6] }
  | _ => none }
def LinearRowsWrongFalsely : Prop := linearRowsRow.holds Try.pinned (OpenSpec.ofChange linearRowsWrong)

/-- 'arithmancylaw05.LinearAll': WHATEVER THE INPUT: true; the input reads as it did. -/
def linearAllSpec : ChangeSpec := { name := "linearAll", fn := fun _ => fun
  | [d1, d2, d3] => { results := [.lit (.bool true)], args := [d1, d2, d3] }
  | _ => none }
def linearAllRow : OpenClaim := { program := "ytnpomadbaanpkaa", sum := "3453aef80b2d80dad0d43baf93fba0353f853f74cc8994ef11a854d842c0cce7", func := "arithmancy/arithmancylaw05.LinearAll", spec := "linearAll", unfollowed := true, recurses := true, apart := false }
def LinearAllSaid : Prop := linearAllRow.holds Try.pinned (OpenSpec.ofChange linearAllSpec)

/-- ITS FALSE NEIGHBOUR: 'it returns false'. Refute it at one input. -/
def linearAllWrong : ChangeSpec := { name := "linearAll", fn := fun _ => fun
  | [d1, d2, d3] => { results := [.lit (.bool false)], args := [d1, d2, d3] }
  | _ => none }
def LinearAllWrongFalsely : Prop := linearAllRow.holds Try.pinned (OpenSpec.ofChange linearAllWrong)

/- THE SECOND FORM. 'bulk': how many values and letters a reading holds, each counted each time it is reached (what is shared counts as often as it is met; a slice's spare places count too). A statement '..UptoSaid' is the law's where the arguments, and the package variables that the reading takes, are together of bulk at most 1048576: NARROWER than '..Said'. Prove '..Said' where nothing that the law and all that it calls make is longer than what came in: it says more and counts as full. Else prove '..UptoSaid'. A law counts once. -/
mutual
def uptoBulk {H : Type} : DataW H → Nat
  | .lit (.string bytes) => bytes.length + 1
  | .lit _ => 1
  | .nil => 1
  | .ptr d => uptoBulk d + 1
  | .slice elems spare => uptoBulkAll elems + uptoBulkAll spare + 1
  | .agg parts => uptoBulkAll parts + 1
  | .iface _ d => uptoBulk d + 1
  | .map entries => uptoBulkEntries entries + 1
  | .held _ => 1
def uptoBulkAll {H : Type} : List (DataW H) → Nat
  | [] => 0
  | d :: r => uptoBulk d + uptoBulkAll r
def uptoBulkEntries {H : Type} : List (Lit × DataW H) → Nat
  | [] => 0
  | x :: r => uptoBulkEntry x + uptoBulkEntries r
def uptoBulkEntry {H : Type} : Lit × DataW H → Nat
  | (.string bytes, d) => bytes.length + uptoBulk d + 1
  | (_, d) => uptoBulk d + 1
 end
def uptoSmall : (H : Type) → List (DataW H) → Bool := fun _ ds => decide (uptoBulkAll ds ≤ 1048576)
def OpenSpec.upto (s : _root_.Go.ChangeSpec) : _root_.Go.OpenSpec := { _root_.Go.OpenSpec.ofChange s with cond := some uptoSmall }

/-- 'arithmancytop.TopLinear', WHERE WHAT IT READS IS OF BULK AT MOST 1048576: true; the input reads as it did. -/
def topLinearUptoRow : OpenClaim := { program := "ytnpomadbaanpkaa", sum := "3453aef80b2d80dad0d43baf93fba0353f853f74cc8994ef11a854d842c0cce7", func := "arithmancy/arithmancytop.TopLinear", spec := "topLinear", unfollowed := true, recurses := true, apart := false, narrowed := true }
def TopLinearUptoSaid : Prop := topLinearUptoRow.holds Try.pinned (OpenSpec.upto topLinearSpec)

/-- 'arithmancylaw05.LinearNever', WHERE WHAT IT READS IS OF BULK AT MOST 1048576: true; the input reads as it did. -/
def linearNeverUptoRow : OpenClaim := { program := "ytnpomadbaanpkaa", sum := "3453aef80b2d80dad0d43baf93fba0353f853f74cc8994ef11a854d842c0cce7", func := "arithmancy/arithmancylaw05.LinearNever", spec := "linearNever", unfollowed := true, recurses := true, apart := false, narrowed := true }
def LinearNeverUptoSaid : Prop := linearNeverUptoRow.holds Try.pinned (OpenSpec.upto linearNeverSpec)

/-- 'arithmancylaw05.LinearRows', WHERE WHAT IT READS IS OF BULK AT MOST 1048576: true; the input reads as it did. -/
def linearRowsUptoRow : OpenClaim := { program := "ytnpomadbaanpkaa", sum := "3453aef80b2d80dad0d43baf93fba0353f853f74cc8994ef11a854d842c0cce7", func := "arithmancy/arithmancylaw05.LinearRows", spec := "linearRows", unfollowed := true, recurses := true, apart := false, narrowed := true }
def LinearRowsUptoSaid : Prop := linearRowsUptoRow.holds Try.pinned (OpenSpec.upto linearRowsSpec)

/-- 'arithmancylaw05.LinearAll', WHERE WHAT IT READS IS OF BULK AT MOST 1048576: true; the input reads as it did. -/
def linearAllUptoRow : OpenClaim := { program := "ytnpomadbaanpkaa", sum := "3453aef80b2d80dad0d43baf93fba0353f853f74cc8994ef11a854d842c0cce7", func := "arithmancy/arithmancylaw05.LinearAll", spec := "linearAll", unfollowed := true, recurses := true, apart := false, narrowed := true }
def LinearAllUptoSaid : Prop := linearAllUptoRow.holds Try.pinned (OpenSpec.upto linearAllSpec)

end Rows
end Go.Proofs.Ytnpomadbaanpkaa
