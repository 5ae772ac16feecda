/-
  No cell of these rows narrows 'for every input' (looked for: loops, veiled, ifaces, maps, wideKeys, modest, calm, conditions, laid).
  DERIVED. THE GIVEN ROWS OF THIS SEAT. 6 by the template 'for every input the law returns true; each argument reads behind the call as it read before'; 0 by the template 'total and deterministic' (their statements: YtbhkoipmojdkhaaTotals.lean).
  GIVEN WITH THE SEED: the statements are not yours to turn. If you find one false, say at which input.
  Laid BY PROGRAM, IN A SANDBOX (cutbox-rows.mjs): the forced cells as the released guide's own fill.sh prints them over the translation 973d06c7b4d963a2… (all of the seat's roots in one cut). By AI agents, Wed Nov 11 2026. No macro, syntax, notation, axiom, sorry.
-/
import Derived.Test.YtbhkoipmojdkhaaChecked
import GoSem.Claim
import GoSem.ClaimJoined
import GoSem.ClaimMapViews
import Derived.JoinedTies
import Derived.KernelRfl
namespace Go.Proofs.Ytbhkoipmojdkhaa
/- THE CELL 'sum', in the pinned program and in every row, IS THE sha256 OF THE DUMP (.gsa) THAT YtbhkoipmojdkhaaProg.lean LOADS. Nothing in Lean hashes anything: it is a label: what it is worth is what the hold of that sum in a sandbox is worth. -/
noncomputable def Try.pinned : Pinned := { name := "ytbhkoipmojdkhaa", sum := "973d06c7b4d963a25fef01cf99839e0ca05332fb9ff074f7934e6e6151b00f5e", checked := Try.checked }
namespace Rows
def none {H : Type} : Left H := { results := [], args := [] }

/-- 'bastidelaw20.PickSelects': WHATEVER THE INPUT: true; the input reads as it did. -/
def pickSelectsSpec : ChangeSpec := { name := "pickSelects", fn := fun _ => fun
  | [d1, d2] => { results := [.lit (.bool true)], args := [d1, d2] }
  | _ => none }
def pickSelectsRow : OpenClaim := { program := "ytbhkoipmojdkhaa", sum := "973d06c7b4d963a25fef01cf99839e0ca05332fb9ff074f7934e6e6151b00f5e", func := "bastide/bastidelaw20.PickSelects", spec := "pickSelects", inPlace := ["internal/bytealg.Compare"], unfollowed := true, recurses := true, apart := false }
def PickSelectsSaid : Prop := pickSelectsRow.holds Try.pinned (OpenSpec.ofChange pickSelectsSpec)

/-- ITS FALSE NEIGHBOUR: 'it returns false'. Refute it at one input. -/
def pickSelectsWrong : ChangeSpec := { name := "pickSelects", fn := fun _ => fun
  | [d1, d2] => { results := [.lit (.bool false)], args := [d1, d2] }
  | _ => none }
def PickSelectsWrongFalsely : Prop := pickSelectsRow.holds Try.pinned (OpenSpec.ofChange pickSelectsWrong)

/-- 'bastidelaw20.PickKeeps': WHATEVER THE INPUT: true; the input reads as it did. -/
def pickKeepsSpec : ChangeSpec := { name := "pickKeeps", fn := fun _ => fun
  | [d1, d2, d3] => { results := [.lit (.bool true)], args := [d1, d2, d3] }
  | _ => none }
def pickKeepsRow : OpenClaim := { program := "ytbhkoipmojdkhaa", sum := "973d06c7b4d963a25fef01cf99839e0ca05332fb9ff074f7934e6e6151b00f5e", func := "bastide/bastidelaw20.PickKeeps", spec := "pickKeeps", inPlace := ["internal/bytealg.Compare"], unfollowed := true, recurses := true, apart := false }
def PickKeepsSaid : Prop := pickKeepsRow.holds Try.pinned (OpenSpec.ofChange pickKeepsSpec)

/-- ITS FALSE NEIGHBOUR: 'it returns false'. Refute it at one input. -/
def pickKeepsWrong : ChangeSpec := { name := "pickKeeps", fn := fun _ => fun
  | [d1, d2, d3] => { results := [.lit (.bool false)], args := [d1, d2, d3] }
  | _ => none }
def PickKeepsWrongFalsely : Prop := pickKeepsRow.holds Try.pinned (OpenSpec.ofChange pickKeepsWrong)

/-- 'bastidelaw20.PickNothing': WHATEVER THE INPUT: true; the input reads as it did. -/
def pickNothingSpec : ChangeSpec := { name := "pickNothing", fn := fun _ => fun
  | [d1, d2, d3] => { results := [.lit (.bool true)], args := [d1, d2, d3] }
  | _ => none }
def pickNothingRow : OpenClaim := { program := "ytbhkoipmojdkhaa", sum := "973d06c7b4d963a25fef01cf99839e0ca05332fb9ff074f7934e6e6151b00f5e", func := "bastide/bastidelaw20.PickNothing", spec := "pickNothing", inPlace := ["internal/bytealg.Compare"], unfollowed := true, recurses := true, apart := false }
def PickNothingSaid : Prop := pickNothingRow.holds Try.pinned (OpenSpec.ofChange pickNothingSpec)

/-- ITS FALSE NEIGHBOUR: 'it returns false'. Refute it at one input. -/
def pickNothingWrong : ChangeSpec := { name := "pickNothing", fn := fun _ => fun
  | [d1, d2, d3] => { results := [.lit (.bool false)], args := [d1, d2, d3] }
  | _ => none }
def PickNothingWrongFalsely : Prop := pickNothingRow.holds Try.pinned (OpenSpec.ofChange pickNothingWrong)

/-- 'bastidelaw20.PickOrder': WHATEVER THE INPUT: true; the input reads as it did. -/
def pickOrderSpec : ChangeSpec := { name := "pickOrder", fn := fun _ => fun
  | [d1, d2, d3] => { results := [.lit (.bool true)], args := [d1, d2, d3] }
  | _ => none }
def pickOrderRow : OpenClaim := { program := "ytbhkoipmojdkhaa", sum := "973d06c7b4d963a25fef01cf99839e0ca05332fb9ff074f7934e6e6151b00f5e", func := "bastide/bastidelaw20.PickOrder", spec := "pickOrder", inPlace := ["internal/bytealg.Compare"], unfollowed := true, recurses := true, apart := false }
def PickOrderSaid : Prop := pickOrderRow.holds Try.pinned (OpenSpec.ofChange pickOrderSpec)

/-- ITS FALSE NEIGHBOUR: 'it returns false'. Refute it at one input. -/
def pickOrderWrong : ChangeSpec := { name := "pickOrder", fn := fun _ => fun
  | [d1, d2, d3] => { results := [.lit (.bool false)], args := [d1, d2, d3] }
  | _ => none }
def PickOrderWrongFalsely : Prop := pickOrderRow.holds Try.pinned (OpenSpec.ofChange pickOrderWrong)

/-- 'bastidelaw20.PickVouched': WHATEVER THE INPUT: true; the input reads as it did. -/
def pickVouchedSpec : ChangeSpec := { name := "pickVouched", fn := fun _ => fun
  | [d1, d2] => { results := [.lit (.bool true)], args := [d1, d2] }
  | _ => none }
def pickVouchedRow : OpenClaim := { program := "ytbhkoipmojdkhaa", sum := "973d06c7b4d963a25fef01cf99839e0ca05332fb9ff074f7934e6e6151b00f5e", func := "bastide/bastidelaw20.PickVouched", spec := "pickVouched", inPlace := ["internal/bytealg.Compare"], unfollowed := true, recurses := true, apart := false }
def PickVouchedSaid : Prop := pickVouchedRow.holds Try.pinned (OpenSpec.ofChange pickVouchedSpec)

/-- ITS FALSE NEIGHBOUR: 'it returns false'. Refute it at one input. -/
def pickVouchedWrong : ChangeSpec := { name := "pickVouched", fn := fun _ => fun
  | [d1, d2] => { results := [.lit (.bool false)], args := [d1, d2] }
  | _ => none }
def PickVouchedWrongFalsely : Prop := pickVouchedRow.holds Try.pinned (OpenSpec.ofChange pickVouchedWrong)

/-- 'bastidelaw20.PickNames': WHATEVER THE INPUT: true; the input reads as it did. -/
def pickNamesSpec : ChangeSpec := { name := "pickNames", fn := fun _ => fun
  | [] => { results := [.lit (.bool true)], args := [] }
  | _ => none }
def pickNamesRow : OpenClaim := { program := "ytbhkoipmojdkhaa", sum := "973d06c7b4d963a25fef01cf99839e0ca05332fb9ff074f7934e6e6151b00f5e", func := "bastide/bastidelaw20.PickNames", spec := "pickNames", inPlace := ["internal/bytealg.Compare"], unfollowed := true, recurses := true, apart := false }
def PickNamesSaid : Prop := pickNamesRow.holds Try.pinned (OpenSpec.ofChange pickNamesSpec)

/-- ITS FALSE NEIGHBOUR: 'it returns false'. Refute it at one input. -/
def pickNamesWrong : ChangeSpec := { name := "pickNames", fn := fun _ => fun
  | [] => { results := [.lit (.bool false)], args := [] }
  | _ => none }
def PickNamesWrongFalsely : Prop := pickNamesRow.holds Try.pinned (OpenSpec.ofChange pickNamesWrong)

/- THE SECOND FORM. 'bulk': how many values and letters a reading holds, each counted each time it is reached (what is shared counts as often as it is met; a slice's spare places count too). A statement '..UptoSaid' is the law's where the arguments, and the package variables that the reading takes, are together of bulk at most 1048576: NARROWER than '..Said'. Prove '..Said' where nothing that the law and all that it calls make is longer than what came in: it says more and counts as full. Else prove '..UptoSaid'. A law counts once. -/
mutual
def uptoBulk {H : Type} : DataW H → Nat
  | .lit (.string bytes) => bytes.length + 1
  | .lit _ => 1
  | .nil => 1
  | .ptr d => uptoBulk d + 1
  | .slice elems spare => uptoBulkAll elems + uptoBulkAll spare + 1
  | .agg parts => uptoBulkAll parts + 1
  | .iface _ d => uptoBulk d + 1
  | .map entries => uptoBulkEntries entries + 1
  | .held _ => 1
def uptoBulkAll {H : Type} : List (DataW H) → Nat
  | [] => 0
  | d :: r => uptoBulk d + uptoBulkAll r
def uptoBulkEntries {H : Type} : List (Lit × DataW H) → Nat
  | [] => 0
  | x :: r => uptoBulkEntry x + uptoBulkEntries r
def uptoBulkEntry {H : Type} : Lit × DataW H → Nat
  | (.string bytes, d) => bytes.length + uptoBulk d + 1
  | (_, d) => uptoBulk d + 1
 end
def uptoSmall : (H : Type) → List (DataW H) → Bool := fun _ ds => decide (uptoBulkAll ds ≤ 1048576)
def OpenSpec.upto (s : _root_.Go.ChangeSpec) : _root_.Go.OpenSpec := { _root_.Go.OpenSpec.ofChange s with cond := some uptoSmall }

/-- 'bastidelaw20.PickSelects', WHERE WHAT IT READS IS OF BULK AT MOST 1048576: true; the input reads as it did. -/
def pickSelectsUptoRow : OpenClaim := { program := "ytbhkoipmojdkhaa", sum := "973d06c7b4d963a25fef01cf99839e0ca05332fb9ff074f7934e6e6151b00f5e", func := "bastide/bastidelaw20.PickSelects", spec := "pickSelects", inPlace := ["internal/bytealg.Compare"], unfollowed := true, recurses := true, apart := false, narrowed := true }
def PickSelectsUptoSaid : Prop := pickSelectsUptoRow.holds Try.pinned (OpenSpec.upto pickSelectsSpec)

/-- 'bastidelaw20.PickKeeps', WHERE WHAT IT READS IS OF BULK AT MOST 1048576: true; the input reads as it did. -/
def pickKeepsUptoRow : OpenClaim := { program := "ytbhkoipmojdkhaa", sum := "973d06c7b4d963a25fef01cf99839e0ca05332fb9ff074f7934e6e6151b00f5e", func := "bastide/bastidelaw20.PickKeeps", spec := "pickKeeps", inPlace := ["internal/bytealg.Compare"], unfollowed := true, recurses := true, apart := false, narrowed := true }
def PickKeepsUptoSaid : Prop := pickKeepsUptoRow.holds Try.pinned (OpenSpec.upto pickKeepsSpec)

/-- 'bastidelaw20.PickNothing', WHERE WHAT IT READS IS OF BULK AT MOST 1048576: true; the input reads as it did. -/
def pickNothingUptoRow : OpenClaim := { program := "ytbhkoipmojdkhaa", sum := "973d06c7b4d963a25fef01cf99839e0ca05332fb9ff074f7934e6e6151b00f5e", func := "bastide/bastidelaw20.PickNothing", spec := "pickNothing", inPlace := ["internal/bytealg.Compare"], unfollowed := true, recurses := true, apart := false, narrowed := true }
def PickNothingUptoSaid : Prop := pickNothingUptoRow.holds Try.pinned (OpenSpec.upto pickNothingSpec)

/-- 'bastidelaw20.PickOrder', WHERE WHAT IT READS IS OF BULK AT MOST 1048576: true; the input reads as it did. -/
def pickOrderUptoRow : OpenClaim := { program := "ytbhkoipmojdkhaa", sum := "973d06c7b4d963a25fef01cf99839e0ca05332fb9ff074f7934e6e6151b00f5e", func := "bastide/bastidelaw20.PickOrder", spec := "pickOrder", inPlace := ["internal/bytealg.Compare"], unfollowed := true, recurses := true, apart := false, narrowed := true }
def PickOrderUptoSaid : Prop := pickOrderUptoRow.holds Try.pinned (OpenSpec.upto pickOrderSpec)

/-- 'bastidelaw20.PickVouched', WHERE WHAT IT READS IS OF BULK AT MOST 1048576: true; the input reads as it did. -/
def pickVouchedUptoRow : OpenClaim := { program := "ytbhkoipmojdkhaa", sum := "973d06c7b4d963a25fef01cf99839e0ca05332fb9ff074f7934e6e6151b00f5e", func := "bastide/bastidelaw20.PickVouched", spec := "pickVouched", inPlace := ["internal/bytealg.Compare"], unfollowed := true, recurses := true, apart := false, narrowed := true }
def PickVouchedUptoSaid : Prop := pickVouchedUptoRow.holds Try.pinned (OpenSpec.upto pickVouchedSpec)

/-- 'bastidelaw20.PickNames', WHERE WHAT IT READS IS OF BULK AT MOST 1048576: true; the input reads as it did. -/
def pickNamesUptoRow : OpenClaim := { program := "ytbhkoipmojdkhaa", sum := "973d06c7b4d963a25fef01cf99839e0ca05332fb9ff074f7934e6e6151b00f5e", func := "bastide/bastidelaw20.PickNames", spec := "pickNames", inPlace := ["internal/bytealg.Compare"], unfollowed := true, recurses := true, apart := false, narrowed := true }
def PickNamesUptoSaid : Prop := pickNamesUptoRow.holds Try.pinned (OpenSpec.upto pickNamesSpec)

end Rows
end Go.Proofs.Ytbhkoipmojdkhaa
