/-
  No cell of these rows narrows 'for every input' (looked for: loops, veiled, ifaces, maps, wideKeys, modest, calm, conditions, laid).
  DERIVED. THE GIVEN ROWS OF THIS SEAT. 8 by the template 'for every input the law returns true; each argument reads behind the call as it read before'; 0 by the template 'total and deterministic' (their statements: YtpfcijgcjghgeaaTotals.lean).
  GIVEN WITH THE SEED: the statements are not yours to turn. If you find one false, say at which input.
  Laid BY PROGRAM, IN A SANDBOX (cutbox-rows.mjs): the forced cells as the released guide's own fill.sh prints them over the translation c8706257e474a52b… (all of the seat's roots in one cut). By AI agents, Wed Nov 11 2026. No macro, syntax, notation, axiom, sorry.
-/
import Derived.Test.YtpfcijgcjghgeaaChecked
import GoSem.Claim
import GoSem.ClaimJoined
import GoSem.ClaimMapViews
import Derived.JoinedTies
import Derived.KernelRfl
namespace Go.Proofs.Ytpfcijgcjghgeaa
/- THE CELL 'sum', in the pinned program and in every row, IS THE sha256 OF THE DUMP (.gsa) THAT YtpfcijgcjghgeaaProg.lean LOADS. Nothing in Lean hashes anything: it is a label: what it is worth is what the hold of that sum in a sandbox is worth. -/
noncomputable def Try.pinned : Pinned := { name := "ytpfcijgcjghgeaa", sum := "c8706257e474a52b5e9d5f90152aa7daaac7a1535cc1dc35979547af934cd67b", checked := Try.checked }
namespace Rows
def none {H : Type} : Left H := { results := [], args := [] }

/-- 'arithmancylaw01.LargeUnder': WHATEVER THE INPUT: true; the input reads as it did. -/
def largeUnderSpec : ChangeSpec := { name := "largeUnder", fn := fun _ => fun
  | [d1, d2] => { results := [.lit (.bool true)], args := [d1, d2] }
  | _ => none }
def largeUnderRow : OpenClaim := { program := "ytpfcijgcjghgeaa", sum := "c8706257e474a52b5e9d5f90152aa7daaac7a1535cc1dc35979547af934cd67b", func := "arithmancy/arithmancylaw01.LargeUnder", spec := "largeUnder", unfollowed := true, recurses := true, apart := false }
def LargeUnderSaid : Prop := largeUnderRow.holds Try.pinned (OpenSpec.ofChange largeUnderSpec)

/-- ITS FALSE NEIGHBOUR: 'it returns false'. Refute it at one input. -/
def largeUnderWrong : ChangeSpec := { name := "largeUnder", fn := fun _ => fun
  | [d1, d2] => { results := [.lit (.bool false)], args := [d1, d2] }
  | _ => none }
def LargeUnderWrongFalsely : Prop := largeUnderRow.holds Try.pinned (OpenSpec.ofChange largeUnderWrong)

/-- 'arithmancylaw01.LargeRing': WHATEVER THE INPUT: true; the input reads as it did. -/
def largeRingSpec : ChangeSpec := { name := "largeRing", fn := fun _ => fun
  | [d1, d2, d3] => { results := [.lit (.bool true)], args := [d1, d2, d3] }
  | _ => none }
def largeRingRow : OpenClaim := { program := "ytpfcijgcjghgeaa", sum := "c8706257e474a52b5e9d5f90152aa7daaac7a1535cc1dc35979547af934cd67b", func := "arithmancy/arithmancylaw01.LargeRing", spec := "largeRing", unfollowed := true, recurses := true, apart := false }
def LargeRingSaid : Prop := largeRingRow.holds Try.pinned (OpenSpec.ofChange largeRingSpec)

/-- ITS FALSE NEIGHBOUR: 'it returns false'. Refute it at one input. -/
def largeRingWrong : ChangeSpec := { name := "largeRing", fn := fun _ => fun
  | [d1, d2, d3] => { results := [.lit (.bool false)], args := [d1, d2, d3] }
  | _ => none }
def LargeRingWrongFalsely : Prop := largeRingRow.holds Try.pinned (OpenSpec.ofChange largeRingWrong)

/-- 'arithmancylaw01.LargeSums': WHATEVER THE INPUT: true; the input reads as it did. -/
def largeSumsSpec : ChangeSpec := { name := "largeSums", fn := fun _ => fun
  | [d1, d2] => { results := [.lit (.bool true)], args := [d1, d2] }
  | _ => none }
def largeSumsRow : OpenClaim := { program := "ytpfcijgcjghgeaa", sum := "c8706257e474a52b5e9d5f90152aa7daaac7a1535cc1dc35979547af934cd67b", func := "arithmancy/arithmancylaw01.LargeSums", spec := "largeSums", unfollowed := true, recurses := true, apart := false }
def LargeSumsSaid : Prop := largeSumsRow.holds Try.pinned (OpenSpec.ofChange largeSumsSpec)

/-- ITS FALSE NEIGHBOUR: 'it returns false'. Refute it at one input. -/
def largeSumsWrong : ChangeSpec := { name := "largeSums", fn := fun _ => fun
  | [d1, d2] => { results := [.lit (.bool false)], args := [d1, d2] }
  | _ => none }
def LargeSumsWrongFalsely : Prop := largeSumsRow.holds Try.pinned (OpenSpec.ofChange largeSumsWrong)

/-- 'arithmancylaw01.LargeOrder': WHATEVER THE INPUT: true; the input reads as it did. -/
def largeOrderSpec : ChangeSpec := { name := "largeOrder", fn := fun _ => fun
  | [d1, d2, d3] => { results := [.lit (.bool true)], args := [d1, d2, d3] }
  | _ => none }
def largeOrderRow : OpenClaim := { program := "ytpfcijgcjghgeaa", sum := "c8706257e474a52b5e9d5f90152aa7daaac7a1535cc1dc35979547af934cd67b", func := "arithmancy/arithmancylaw01.LargeOrder", spec := "largeOrder", unfollowed := true, recurses := true, apart := false }
def LargeOrderSaid : Prop := largeOrderRow.holds Try.pinned (OpenSpec.ofChange largeOrderSpec)

/-- ITS FALSE NEIGHBOUR: 'it returns false'. Refute it at one input. -/
def largeOrderWrong : ChangeSpec := { name := "largeOrder", fn := fun _ => fun
  | [d1, d2, d3] => { results := [.lit (.bool false)], args := [d1, d2, d3] }
  | _ => none }
def LargeOrderWrongFalsely : Prop := largeOrderRow.holds Try.pinned (OpenSpec.ofChange largeOrderWrong)

/-- 'arithmancylaw01.LargePowers': WHATEVER THE INPUT: true; the input reads as it did. -/
def largePowersSpec : ChangeSpec := { name := "largePowers", fn := fun _ => fun
  | [d1, d2, d3] => { results := [.lit (.bool true)], args := [d1, d2, d3] }
  | _ => none }
def largePowersRow : OpenClaim := { program := "ytpfcijgcjghgeaa", sum := "c8706257e474a52b5e9d5f90152aa7daaac7a1535cc1dc35979547af934cd67b", func := "arithmancy/arithmancylaw01.LargePowers", spec := "largePowers", unfollowed := true, recurses := true, apart := false }
def LargePowersSaid : Prop := largePowersRow.holds Try.pinned (OpenSpec.ofChange largePowersSpec)

/-- ITS FALSE NEIGHBOUR: 'it returns false'. Refute it at one input. -/
def largePowersWrong : ChangeSpec := { name := "largePowers", fn := fun _ => fun
  | [d1, d2, d3] => { results := [.lit (.bool false)], args := [d1, d2, d3] }
  | _ => none }
def LargePowersWrongFalsely : Prop := largePowersRow.holds Try.pinned (OpenSpec.ofChange largePowersWrong)

/-- 'arithmancylaw01.LargeBits': WHATEVER THE INPUT: true; the input reads as it did. -/
def largeBitsSpec : ChangeSpec := { name := "largeBits", fn := fun _ => fun
  | [d1, d2, d3] => { results := [.lit (.bool true)], args := [d1, d2, d3] }
  | _ => none }
def largeBitsRow : OpenClaim := { program := "ytpfcijgcjghgeaa", sum := "c8706257e474a52b5e9d5f90152aa7daaac7a1535cc1dc35979547af934cd67b", func := "arithmancy/arithmancylaw01.LargeBits", spec := "largeBits", unfollowed := true, recurses := true, apart := false }
def LargeBitsSaid : Prop := largeBitsRow.holds Try.pinned (OpenSpec.ofChange largeBitsSpec)

/-- ITS FALSE NEIGHBOUR: 'it returns false'. Refute it at one input. -/
def largeBitsWrong : ChangeSpec := { name := "largeBits", fn := fun _ => fun
  | [d1, d2, d3] => { results := [.lit (.bool false)], args := [d1, d2, d3] }
  | _ => none }
def LargeBitsWrongFalsely : Prop := largeBitsRow.holds Try.pinned (OpenSpec.ofChange largeBitsWrong)

/-- 'arithmancylaw01.LargeDivides': WHATEVER THE INPUT: true; the input reads as it did. -/
def largeDividesSpec : ChangeSpec := { name := "largeDivides", fn := fun _ => fun
  | [d1, d2] => { results := [.lit (.bool true)], args := [d1, d2] }
  | _ => none }
def largeDividesRow : OpenClaim := { program := "ytpfcijgcjghgeaa", sum := "c8706257e474a52b5e9d5f90152aa7daaac7a1535cc1dc35979547af934cd67b", func := "arithmancy/arithmancylaw01.LargeDivides", spec := "largeDivides", unfollowed := true, recurses := true, apart := false }
def LargeDividesSaid : Prop := largeDividesRow.holds Try.pinned (OpenSpec.ofChange largeDividesSpec)

/-- ITS FALSE NEIGHBOUR: 'it returns false'. Refute it at one input. -/
def largeDividesWrong : ChangeSpec := { name := "largeDivides", fn := fun _ => fun
  | [d1, d2] => { results := [.lit (.bool false)], args := [d1, d2] }
  | _ => none }
def LargeDividesWrongFalsely : Prop := largeDividesRow.holds Try.pinned (OpenSpec.ofChange largeDividesWrong)

/-- 'arithmancylaw01.LargeTexts': WHATEVER THE INPUT: true; the input reads as it did. -/
def largeTextsSpec : ChangeSpec := { name := "largeTexts", fn := fun _ => fun
  | [d1, d2, d3] => { results := [.lit (.bool true)], args := [d1, d2, d3] }
  | _ => none }
def largeTextsRow : OpenClaim := { program := "ytpfcijgcjghgeaa", sum := "c8706257e474a52b5e9d5f90152aa7daaac7a1535cc1dc35979547af934cd67b", func := "arithmancy/arithmancylaw01.LargeTexts", spec := "largeTexts", unfollowed := true, recurses := true, apart := false }
def LargeTextsSaid : Prop := largeTextsRow.holds Try.pinned (OpenSpec.ofChange largeTextsSpec)

/-- ITS FALSE NEIGHBOUR: 'it returns false'. Refute it at one input. -/
def largeTextsWrong : ChangeSpec := { name := "largeTexts", fn := fun _ => fun
  | [d1, d2, d3] => { results := [.lit (.bool false)], args := [d1, d2, d3] }
  | _ => none }
def LargeTextsWrongFalsely : Prop := largeTextsRow.holds Try.pinned (OpenSpec.ofChange largeTextsWrong)

/- THE SECOND FORM. 'bulk': how many values and letters a reading holds, each counted each time it is reached (what is shared counts as often as it is met; a slice's spare places count too). A statement '..UptoSaid' is the law's where the arguments, and the package variables that the reading takes, are together of bulk at most 1048576: NARROWER than '..Said'. Prove '..Said' where nothing that the law and all that it calls make is longer than what came in: it says more and counts as full. Else prove '..UptoSaid'. A law counts once. -/
mutual
def uptoBulk {H : Type} : DataW H → Nat
  | .lit (.string bytes) => bytes.length + 1
  | .lit _ => 1
  | .nil => 1
  | .ptr d => uptoBulk d + 1
  | .slice elems spare => uptoBulkAll elems + uptoBulkAll spare + 1
  | .agg parts => uptoBulkAll parts + 1
  | .iface _ d => uptoBulk d + 1
  | .map entries => uptoBulkEntries entries + 1
  | .held _ => 1
def uptoBulkAll {H : Type} : List (DataW H) → Nat
  | [] => 0
  | d :: r => uptoBulk d + uptoBulkAll r
def uptoBulkEntries {H : Type} : List (Lit × DataW H) → Nat
  | [] => 0
  | x :: r => uptoBulkEntry x + uptoBulkEntries r
def uptoBulkEntry {H : Type} : Lit × DataW H → Nat
  | (.string bytes, d) => bytes.length + uptoBulk d + 1
  | (_, d) => uptoBulk d + 1
 end
def uptoSmall : (H : Type) → List (DataW H) → Bool := fun _ ds => decide (uptoBulkAll ds ≤ 1048576)
def OpenSpec.upto (s : _root_.Go.ChangeSpec) : _root_.Go.OpenSpec := { _root_.Go.OpenSpec.ofChange s with cond := some uptoSmall }

/-- 'arithmancylaw01.LargeUnder', WHERE WHAT IT READS IS OF BULK AT MOST 1048576: true; the input reads as it did. -/
def largeUnderUptoRow : OpenClaim := { program := "ytpfcijgcjghgeaa", sum := "c8706257e474a52b5e9d5f90152aa7daaac7a1535cc1dc35979547af934cd67b", func := "arithmancy/arithmancylaw01.LargeUnder", spec := "largeUnder", unfollowed := true, recurses := true, apart := false, narrowed := true }
def LargeUnderUptoSaid : Prop := largeUnderUptoRow.holds Try.pinned (OpenSpec.upto largeUnderSpec)

/-- 'arithmancylaw01.LargeRing', WHERE WHAT IT READS IS OF BULK AT MOST 1048576: true; the input reads as it did. -/
def largeRingUptoRow : OpenClaim := { program := "ytpfcijgcjghgeaa", sum := "c8706257e474a52b5e9d5f90152aa7daaac7a1535cc1dc35979547af934cd67b", func := "arithmancy/arithmancylaw01.LargeRing", spec := "largeRing", unfollowed := true, recurses := true, apart := false, narrowed := true }
def LargeRingUptoSaid : Prop := largeRingUptoRow.holds Try.pinned (OpenSpec.upto largeRingSpec)

/-- 'arithmancylaw01.LargeSums', WHERE WHAT IT READS IS OF BULK AT MOST 1048576: true; the input reads as it did. -/
def largeSumsUptoRow : OpenClaim := { program := "ytpfcijgcjghgeaa", sum := "c8706257e474a52b5e9d5f90152aa7daaac7a1535cc1dc35979547af934cd67b", func := "arithmancy/arithmancylaw01.LargeSums", spec := "largeSums", unfollowed := true, recurses := true, apart := false, narrowed := true }
def LargeSumsUptoSaid : Prop := largeSumsUptoRow.holds Try.pinned (OpenSpec.upto largeSumsSpec)

/-- 'arithmancylaw01.LargeOrder', WHERE WHAT IT READS IS OF BULK AT MOST 1048576: true; the input reads as it did. -/
def largeOrderUptoRow : OpenClaim := { program := "ytpfcijgcjghgeaa", sum := "c8706257e474a52b5e9d5f90152aa7daaac7a1535cc1dc35979547af934cd67b", func := "arithmancy/arithmancylaw01.LargeOrder", spec := "largeOrder", unfollowed := true, recurses := true, apart := false, narrowed := true }
def LargeOrderUptoSaid : Prop := largeOrderUptoRow.holds Try.pinned (OpenSpec.upto largeOrderSpec)

/-- 'arithmancylaw01.LargePowers', WHERE WHAT IT READS IS OF BULK AT MOST 1048576: true; the input reads as it did. -/
def largePowersUptoRow : OpenClaim := { program := "ytpfcijgcjghgeaa", sum := "c8706257e474a52b5e9d5f90152aa7daaac7a1535cc1dc35979547af934cd67b", func := "arithmancy/arithmancylaw01.LargePowers", spec := "largePowers", unfollowed := true, recurses := true, apart := false, narrowed := true }
def LargePowersUptoSaid : Prop := largePowersUptoRow.holds Try.pinned (OpenSpec.upto largePowersSpec)

/-- 'arithmancylaw01.LargeBits', WHERE WHAT IT READS IS OF BULK AT MOST 1048576: true; the input reads as it did. -/
def largeBitsUptoRow : OpenClaim := { program := "ytpfcijgcjghgeaa", sum := "c8706257e474a52b5e9d5f90152aa7daaac7a1535cc1dc35979547af934cd67b", func := "arithmancy/arithmancylaw01.LargeBits", spec := "largeBits", unfollowed := true, recurses := true, apart := false, narrowed := true }
def LargeBitsUptoSaid : Prop := largeBitsUptoRow.holds Try.pinned (OpenSpec.upto largeBitsSpec)

/-- 'arithmancylaw01.LargeDivides', WHERE WHAT IT READS IS OF BULK AT MOST 1048576: true; the input reads as it did. -/
def largeDividesUptoRow : OpenClaim := { program := "ytpfcijgcjghgeaa", sum := "c8706257e474a52b5e9d5f90152aa7daaac7a1535cc1dc35979547af934cd67b", func := "arithmancy/arithmancylaw01.LargeDivides", spec := "largeDivides", unfollowed := true, recurses := true, apart := false, narrowed := true }
def LargeDividesUptoSaid : Prop := largeDividesUptoRow.holds Try.pinned (OpenSpec.upto largeDividesSpec)

/-- 'arithmancylaw01.LargeTexts', WHERE WHAT IT READS IS OF BULK AT MOST 1048576: true; the input reads as it did. -/
def largeTextsUptoRow : OpenClaim := { program := "ytpfcijgcjghgeaa", sum := "c8706257e474a52b5e9d5f90152aa7daaac7a1535cc1dc35979547af934cd67b", func := "arithmancy/arithmancylaw01.LargeTexts", spec := "largeTexts", unfollowed := true, recurses := true, apart := false, narrowed := true }
def LargeTextsUptoSaid : Prop := largeTextsUptoRow.holds Try.pinned (OpenSpec.upto largeTextsSpec)

end Rows
end Go.Proofs.Ytpfcijgcjghgeaa
