/-
  No cell of these rows narrows 'for every input' (looked for: loops, veiled, ifaces, maps, wideKeys, modest, calm, conditions, laid).
  DERIVED. THE GIVEN ROWS OF THIS SEAT. 10 by the template 'for every input the law returns true; each argument reads behind the call as it read before'; 0 by the template 'total and deterministic' (their statements: YtmgmcnoobgljpaaTotals.lean).
  GIVEN WITH THE SEED: the statements are not yours to turn. If you find one false, say at which input.
  Laid BY PROGRAM, IN A SANDBOX (cutbox-rows.mjs): the forced cells as the released guide's own fill.sh prints them over the translation f05fc20a2aa7a30b… (all of the seat's roots in one cut). By AI agents, Wed Nov 11 2026. No macro, syntax, notation, axiom, sorry.
-/
import Derived.Test.YtmgmcnoobgljpaaChecked
import GoSem.Claim
import GoSem.ClaimJoined
import GoSem.ClaimMapViews
import Derived.JoinedTies
import Derived.KernelRfl
namespace Go.Proofs.Ytmgmcnoobgljpaa
/- THE CELL 'sum', in the pinned program and in every row, IS THE sha256 OF THE DUMP (.gsa) THAT YtmgmcnoobgljpaaProg.lean LOADS. Nothing in Lean hashes anything: it is a label: what it is worth is what the hold of that sum in a sandbox is worth. -/
noncomputable def Try.pinned : Pinned := { name := "ytmgmcnoobgljpaa", sum := "f05fc20a2aa7a30b012f63e94e8c83a5fce8656310587b279f7be3eaa30b9301", checked := Try.checked }
namespace Rows
def none {H : Type} : Left H := { results := [], args := [] }

/-- 'arithmancylaw08.LucasTells': WHATEVER THE INPUT: true; the input reads as it did. -/
def lucasTellsSpec : ChangeSpec := { name := "lucasTells", fn := fun _ => fun
  | [d1, d2] => { results := [.lit (.bool true)], args := [d1, d2] }
  | _ => none }
def lucasTellsRow : OpenClaim := { program := "ytmgmcnoobgljpaa", sum := "f05fc20a2aa7a30b012f63e94e8c83a5fce8656310587b279f7be3eaa30b9301", func := "arithmancy/arithmancylaw08.LucasTells", spec := "lucasTells", unfollowed := true, recurses := true, apart := false }
def LucasTellsSaid : Prop := lucasTellsRow.holds Try.pinned (OpenSpec.ofChange lucasTellsSpec)

/-- ITS FALSE NEIGHBOUR: 'it returns false'. Refute it at one input. -/
def lucasTellsWrong : ChangeSpec := { name := "lucasTells", fn := fun _ => fun
  | [d1, d2] => { results := [.lit (.bool false)], args := [d1, d2] }
  | _ => none }
def LucasTellsWrongFalsely : Prop := lucasTellsRow.holds Try.pinned (OpenSpec.ofChange lucasTellsWrong)

/-- 'arithmancylaw08.LucasRank': WHATEVER THE INPUT: true; the input reads as it did. -/
def lucasRankSpec : ChangeSpec := { name := "lucasRank", fn := fun _ => fun
  | [d1, d2, d3] => { results := [.lit (.bool true)], args := [d1, d2, d3] }
  | _ => none }
def lucasRankRow : OpenClaim := { program := "ytmgmcnoobgljpaa", sum := "f05fc20a2aa7a30b012f63e94e8c83a5fce8656310587b279f7be3eaa30b9301", func := "arithmancy/arithmancylaw08.LucasRank", spec := "lucasRank", unfollowed := true, recurses := true, apart := false }
def LucasRankSaid : Prop := lucasRankRow.holds Try.pinned (OpenSpec.ofChange lucasRankSpec)

/-- ITS FALSE NEIGHBOUR: 'it returns false'. Refute it at one input. -/
def lucasRankWrong : ChangeSpec := { name := "lucasRank", fn := fun _ => fun
  | [d1, d2, d3] => { results := [.lit (.bool false)], args := [d1, d2, d3] }
  | _ => none }
def LucasRankWrongFalsely : Prop := lucasRankRow.holds Try.pinned (OpenSpec.ofChange lucasRankWrong)

/-- 'arithmancylaw08.LucasPell': WHATEVER THE INPUT: true; the input reads as it did. -/
def lucasPellSpec : ChangeSpec := { name := "lucasPell", fn := fun _ => fun
  | [d1, d2, d3] => { results := [.lit (.bool true)], args := [d1, d2, d3] }
  | _ => none }
def lucasPellRow : OpenClaim := { program := "ytmgmcnoobgljpaa", sum := "f05fc20a2aa7a30b012f63e94e8c83a5fce8656310587b279f7be3eaa30b9301", func := "arithmancy/arithmancylaw08.LucasPell", spec := "lucasPell", unfollowed := true, recurses := true, apart := false }
def LucasPellSaid : Prop := lucasPellRow.holds Try.pinned (OpenSpec.ofChange lucasPellSpec)

/-- ITS FALSE NEIGHBOUR: 'it returns false'. Refute it at one input. -/
def lucasPellWrong : ChangeSpec := { name := "lucasPell", fn := fun _ => fun
  | [d1, d2, d3] => { results := [.lit (.bool false)], args := [d1, d2, d3] }
  | _ => none }
def LucasPellWrongFalsely : Prop := lucasPellRow.holds Try.pinned (OpenSpec.ofChange lucasPellWrong)

/-- 'arithmancylaw08.LucasDivides': WHATEVER THE INPUT: true; the input reads as it did. -/
def lucasDividesSpec : ChangeSpec := { name := "lucasDivides", fn := fun _ => fun
  | [d1, d2, d3] => { results := [.lit (.bool true)], args := [d1, d2, d3] }
  | _ => none }
def lucasDividesRow : OpenClaim := { program := "ytmgmcnoobgljpaa", sum := "f05fc20a2aa7a30b012f63e94e8c83a5fce8656310587b279f7be3eaa30b9301", func := "arithmancy/arithmancylaw08.LucasDivides", spec := "lucasDivides", unfollowed := true, recurses := true, apart := false }
def LucasDividesSaid : Prop := lucasDividesRow.holds Try.pinned (OpenSpec.ofChange lucasDividesSpec)

/-- ITS FALSE NEIGHBOUR: 'it returns false'. Refute it at one input. -/
def lucasDividesWrong : ChangeSpec := { name := "lucasDivides", fn := fun _ => fun
  | [d1, d2, d3] => { results := [.lit (.bool false)], args := [d1, d2, d3] }
  | _ => none }
def LucasDividesWrongFalsely : Prop := lucasDividesRow.holds Try.pinned (OpenSpec.ofChange lucasDividesWrong)

/-- 'arithmancylaw08.LucasNear': WHATEVER THE INPUT: true; the input reads as it did. -/
def lucasNearSpec : ChangeSpec := { name := "lucasNear", fn := fun _ => fun
  | [d1, d2, d3] => { results := [.lit (.bool true)], args := [d1, d2, d3] }
  | _ => none }
def lucasNearRow : OpenClaim := { program := "ytmgmcnoobgljpaa", sum := "f05fc20a2aa7a30b012f63e94e8c83a5fce8656310587b279f7be3eaa30b9301", func := "arithmancy/arithmancylaw08.LucasNear", spec := "lucasNear", unfollowed := true, recurses := true, apart := false }
def LucasNearSaid : Prop := lucasNearRow.holds Try.pinned (OpenSpec.ofChange lucasNearSpec)

/-- ITS FALSE NEIGHBOUR: 'it returns false'. Refute it at one input. -/
def lucasNearWrong : ChangeSpec := { name := "lucasNear", fn := fun _ => fun
  | [d1, d2, d3] => { results := [.lit (.bool false)], args := [d1, d2, d3] }
  | _ => none }
def LucasNearWrongFalsely : Prop := lucasNearRow.holds Try.pinned (OpenSpec.ofChange lucasNearWrong)

/-- 'arithmancylaw08.LucasPower': WHATEVER THE INPUT: true; the input reads as it did. -/
def lucasPowerSpec : ChangeSpec := { name := "lucasPower", fn := fun _ => fun
  | [d1, d2, d3] => { results := [.lit (.bool true)], args := [d1, d2, d3] }
  | _ => none }
def lucasPowerRow : OpenClaim := { program := "ytmgmcnoobgljpaa", sum := "f05fc20a2aa7a30b012f63e94e8c83a5fce8656310587b279f7be3eaa30b9301", func := "arithmancy/arithmancylaw08.LucasPower", spec := "lucasPower", unfollowed := true, recurses := true, apart := false }
def LucasPowerSaid : Prop := lucasPowerRow.holds Try.pinned (OpenSpec.ofChange lucasPowerSpec)

/-- ITS FALSE NEIGHBOUR: 'it returns false'. Refute it at one input. -/
def lucasPowerWrong : ChangeSpec := { name := "lucasPower", fn := fun _ => fun
  | [d1, d2, d3] => { results := [.lit (.bool false)], args := [d1, d2, d3] }
  | _ => none }
def LucasPowerWrongFalsely : Prop := lucasPowerRow.holds Try.pinned (OpenSpec.ofChange lucasPowerWrong)

/-- 'arithmancylaw08.LucasRests': WHATEVER THE INPUT: true; the input reads as it did. -/
def lucasRestsSpec : ChangeSpec := { name := "lucasRests", fn := fun _ => fun
  | [d1, d2, d3] => { results := [.lit (.bool true)], args := [d1, d2, d3] }
  | _ => none }
def lucasRestsRow : OpenClaim := { program := "ytmgmcnoobgljpaa", sum := "f05fc20a2aa7a30b012f63e94e8c83a5fce8656310587b279f7be3eaa30b9301", func := "arithmancy/arithmancylaw08.LucasRests", spec := "lucasRests", unfollowed := true, recurses := true, apart := false }
def LucasRestsSaid : Prop := lucasRestsRow.holds Try.pinned (OpenSpec.ofChange lucasRestsSpec)

/-- ITS FALSE NEIGHBOUR: 'it returns false'. Refute it at one input. -/
def lucasRestsWrong : ChangeSpec := { name := "lucasRests", fn := fun _ => fun
  | [d1, d2, d3] => { results := [.lit (.bool false)], args := [d1, d2, d3] }
  | _ => none }
def LucasRestsWrongFalsely : Prop := lucasRestsRow.holds Try.pinned (OpenSpec.ofChange lucasRestsWrong)

/-- 'arithmancylaw08.LucasSteps': WHATEVER THE INPUT: true; the input reads as it did. -/
def lucasStepsSpec : ChangeSpec := { name := "lucasSteps", fn := fun _ => fun
  | [d1, d2, d3, d4] => { results := [.lit (.bool true)], args := [d1, d2, d3, d4] }
  | _ => none }
def lucasStepsRow : OpenClaim := { program := "ytmgmcnoobgljpaa", sum := "f05fc20a2aa7a30b012f63e94e8c83a5fce8656310587b279f7be3eaa30b9301", func := "arithmancy/arithmancylaw08.LucasSteps", spec := "lucasSteps", unfollowed := true, recurses := true, apart := false }
def LucasStepsSaid : Prop := lucasStepsRow.holds Try.pinned (OpenSpec.ofChange lucasStepsSpec)

/-- ITS FALSE NEIGHBOUR: 'it returns false'. Refute it at one input. -/
def lucasStepsWrong : ChangeSpec := { name := "lucasSteps", fn := fun _ => fun
  | [d1, d2, d3, d4] => { results := [.lit (.bool false)], args := [d1, d2, d3, d4] }
  | _ => none }
def LucasStepsWrongFalsely : Prop := lucasStepsRow.holds Try.pinned (OpenSpec.ofChange lucasStepsWrong)

/-- 'arithmancylaw08.LucasIndex': WHATEVER THE INPUT: true; the input reads as it did. -/
def lucasIndexSpec : ChangeSpec := { name := "lucasIndex", fn := fun _ => fun
  | [d1, d2] => { results := [.lit (.bool true)], args := [d1, d2] }
  | _ => none }
def lucasIndexRow : OpenClaim := { program := "ytmgmcnoobgljpaa", sum := "f05fc20a2aa7a30b012f63e94e8c83a5fce8656310587b279f7be3eaa30b9301", func := "arithmancy/arithmancylaw08.LucasIndex", spec := "lucasIndex", unfollowed := true, recurses := true, apart := false }
def LucasIndexSaid : Prop := lucasIndexRow.holds Try.pinned (OpenSpec.ofChange lucasIndexSpec)

/-- ITS FALSE NEIGHBOUR: 'it returns false'. Refute it at one input. -/
def lucasIndexWrong : ChangeSpec := { name := "lucasIndex", fn := fun _ => fun
  | [d1, d2] => { results := [.lit (.bool false)], args := [d1, d2] }
  | _ => none }
def LucasIndexWrongFalsely : Prop := lucasIndexRow.holds Try.pinned (OpenSpec.ofChange lucasIndexWrong)

/-- 'arithmancylaw08.LucasOnly': WHATEVER THE INPUT: true; the input reads as it did. -/
def lucasOnlySpec : ChangeSpec := { name := "lucasOnly", fn := fun _ => fun
  | [d1, d2, d3] => { results := [.lit (.bool true)], args := [d1, d2, d3] }
  | _ => none }
def lucasOnlyRow : OpenClaim := { program := "ytmgmcnoobgljpaa", sum := "f05fc20a2aa7a30b012f63e94e8c83a5fce8656310587b279f7be3eaa30b9301", func := "arithmancy/arithmancylaw08.LucasOnly", spec := "lucasOnly", unfollowed := true, recurses := true, apart := false }
def LucasOnlySaid : Prop := lucasOnlyRow.holds Try.pinned (OpenSpec.ofChange lucasOnlySpec)

/-- ITS FALSE NEIGHBOUR: 'it returns false'. Refute it at one input. -/
def lucasOnlyWrong : ChangeSpec := { name := "lucasOnly", fn := fun _ => fun
  | [d1, d2, d3] => { results := [.lit (.bool false)], args := [d1, d2, d3] }
  | _ => none }
def LucasOnlyWrongFalsely : Prop := lucasOnlyRow.holds Try.pinned (OpenSpec.ofChange lucasOnlyWrong)

/- THE SECOND FORM. 'bulk': how many values and letters a reading holds, each counted each time it is reached (what is shared counts as often as it is met; a slice's spare places count too). A statement '..UptoSaid' is the law's where the arguments, and the package variables that the reading takes, are together of bulk at most 1048576: NARROWER than '..Said'. Prove '..Said' where nothing that the law and all that it calls make is longer than what came in: it says more and counts as full. Else prove '..UptoSaid'. A law counts once. -/
mutual
def uptoBulk {H : Type} : DataW H → Nat
  | .lit (.string bytes) => bytes.length + 1
  | .lit _ => 1
  | .nil => 1
  | .ptr d => uptoBulk d + 1
  | .slice elems spare => uptoBulkAll elems + uptoBulkAll spare + 1
  | .agg parts => uptoBulkAll parts + 1
  | .iface _ d => uptoBulk d + 1
  | .map entries => uptoBulkEntries entries + 1
  | .held _ => 1
def uptoBulkAll {H : Type} : List (DataW H) → Nat
  | [] => 0
  | d :: r => uptoBulk d + uptoBulkAll r
def uptoBulkEntries {H : Type} : List (Lit × DataW H) → Nat
  | [] => 0
  | x :: r => uptoBulkEntry x + uptoBulkEntries r
def uptoBulkEntry {H : Type} : Lit × DataW H → Nat
  | (.string bytes, d) => bytes.length + uptoBulk d + 1
  | (_, d) => uptoBulk d + 1
 end
def uptoSmall : (H : Type) → List (DataW H) → Bool := fun _ ds => decide (uptoBulkAll ds ≤ 1048576)
def OpenSpec.upto (s : _root_.Go.ChangeSpec) : _root_.Go.OpenSpec := { _root_.Go.OpenSpec.ofChange s with cond := some uptoSmall }

/-- 'arithmancylaw08.LucasTells', WHERE WHAT IT READS IS OF BULK AT MOST 1048576: true; the input reads as it did. -/
def lucasTellsUptoRow : OpenClaim := { program := "ytmgmcnoobgljpaa", sum := "f05fc20a2aa7a30b012f63e94e8c83a5fce8656310587b279f7be3eaa30b9301", func := "arithmancy/arithmancylaw08.LucasTells", spec := "lucasTells", unfollowed := true, recurses := true, apart := false, narrowed := true }
def LucasTellsUptoSaid : Prop := lucasTellsUptoRow.holds Try.pinned (OpenSpec.upto lucasTellsSpec)

/-- 'arithmancylaw08.LucasRank', WHERE WHAT IT READS IS OF BULK AT MOST 1048576: true; the input reads as it did. -/
def lucasRankUptoRow : OpenClaim := { program := "ytmgmcnoobgljpaa", sum := "f05fc20a2aa7a30b012f63e94e8c83a5fce8656310587b279f7be3eaa30b9301", func := "arithmancy/arithmancylaw08.LucasRank", spec := "lucasRank", unfollowed := true, recurses := true, apart := false, narrowed := true }
def LucasRankUptoSaid : Prop := lucasRankUptoRow.holds Try.pinned (OpenSpec.upto lucasRankSpec)

/-- 'arithmancylaw08.LucasPell', WHERE WHAT IT READS IS OF BULK AT MOST 1048576: true; the input reads as it did. -/
def lucasPellUptoRow : OpenClaim := { program := "ytmgmcnoobgljpaa", sum := "f05fc20a2aa7a30b012f63e94e8c83a5fce8656310587b279f7be3eaa30b9301", func := "arithmancy/arithmancylaw08.LucasPell", spec := "lucasPell", unfollowed := true, recurses := true, apart := false, narrowed := true }
def LucasPellUptoSaid : Prop := lucasPellUptoRow.holds Try.pinned (OpenSpec.upto lucasPellSpec)

/-- 'arithmancylaw08.LucasDivides', WHERE WHAT IT READS IS OF BULK AT MOST 1048576: true; the input reads as it did. -/
def lucasDividesUptoRow : OpenClaim := { program := "ytmgmcnoobgljpaa", sum := "f05fc20a2aa7a30b012f63e94e8c83a5fce8656310587b279f7be3eaa30b9301", func := "arithmancy/arithmancylaw08.LucasDivides", spec := "lucasDivides", unfollowed := true, recurses := true, apart := false, narrowed := true }
def LucasDividesUptoSaid : Prop := lucasDividesUptoRow.holds Try.pinned (OpenSpec.upto lucasDividesSpec)

/-- 'arithmancylaw08.LucasNear', WHERE WHAT IT READS IS OF BULK AT MOST 1048576: true; the input reads as it did. -/
def lucasNearUptoRow : OpenClaim := { program := "ytmgmcnoobgljpaa", sum := "f05fc20a2aa7a30b012f63e94e8c83a5fce8656310587b279f7be3eaa30b9301", func := "arithmancy/arithmancylaw08.LucasNear", spec := "lucasNear", unfollowed := true, recurses := true, apart := false, narrowed := true }
def LucasNearUptoSaid : Prop := lucasNearUptoRow.holds Try.pinned (OpenSpec.upto lucasNearSpec)

/-- 'arithmancylaw08.LucasPower', WHERE WHAT IT READS IS OF BULK AT MOST 1048576: true; the input reads as it did. -/
def lucasPowerUptoRow : OpenClaim := { program := "ytmgmcnoobgljpaa", sum := "f05fc20a2aa7a30b012f63e94e8c83a5fce8656310587b279f7be3eaa30b9301", func := "arithmancy/arithmancylaw08.LucasPower", spec := "lucasPower", unfollowed := true, recurses := true, apart := false, narrowed := true }
def LucasPowerUptoSaid : Prop := lucasPowerUptoRow.holds Try.pinned (OpenSpec.upto lucasPowerSpec)

/-- 'arithmancylaw08.LucasRests', WHERE WHAT IT READS IS OF BULK AT MOST 1048576: true; the input reads as it did. -/
def lucasRestsUptoRow : OpenClaim := { program := "ytmgmcnoobgljpaa", sum := "f05fc20a2aa7a30b012f63e94e8c83a5fce8656310587b279f7be3eaa30b9301", func := "arithmancy/arithmancylaw08.LucasRests", spec := "lucasRests", unfollowed := true, recurses := true, apart := false, narrowed := true }
def LucasRestsUptoSaid : Prop := lucasRestsUptoRow.holds Try.pinned (OpenSpec.upto lucasRestsSpec)

/-- 'arithmancylaw08.LucasSteps', WHERE WHAT IT READS IS OF BULK AT MOST 1048576: true; the input reads as it did. -/
def lucasStepsUptoRow : OpenClaim := { program := "ytmgmcnoobgljpaa", sum := "f05fc20a2aa7a30b012f63e94e8c83a5fce8656310587b279f7be3eaa30b9301", func := "arithmancy/arithmancylaw08.LucasSteps", spec := "lucasSteps", unfollowed := true, recurses := true, apart := false, narrowed := true }
def LucasStepsUptoSaid : Prop := lucasStepsUptoRow.holds Try.pinned (OpenSpec.upto lucasStepsSpec)

/-- 'arithmancylaw08.LucasIndex', WHERE WHAT IT READS IS OF BULK AT MOST 1048576: true; the input reads as it did. -/
def lucasIndexUptoRow : OpenClaim := { program := "ytmgmcnoobgljpaa", sum := "f05fc20a2aa7a30b012f63e94e8c83a5fce8656310587b279f7be3eaa30b9301", func := "arithmancy/arithmancylaw08.LucasIndex", spec := "lucasIndex", unfollowed := true, recurses := true, apart := false, narrowed := true }
def LucasIndexUptoSaid : Prop := lucasIndexUptoRow.holds Try.pinned (OpenSpec.upto lucasIndexSpec)

/-- 'arithmancylaw08.LucasOnly', WHERE WHAT IT READS IS OF BULK AT MOST 1048576: true; the input reads as it did. -/
def lucasOnlyUptoRow : OpenClaim := { program := "ytmgmcnoobgljpaa", sum := "f05fc20a2aa7a30b012f63e94e8c83a5fce8656310587b279f7be3eaa30b9301", func := "arithmancy/arithmancylaw08.LucasOnly", spec := "lucasOnly", unfollowed := true, recurses := true, apart := false, narrowed := true }
def LucasOnlyUptoSaid : Prop := lucasOnlyUptoRow.holds Try.pinned (OpenSpec.upto lucasOnlySpec)

end Rows
end Go.Proofs.Ytmgmcnoobgljpaa
