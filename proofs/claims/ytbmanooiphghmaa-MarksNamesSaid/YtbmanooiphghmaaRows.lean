/-
  No cell of these rows narrows 'for every input' (looked for: loops, veiled, ifaces, maps, wideKeys, modest, calm, conditions, laid).
  DERIVED. THE GIVEN ROWS OF THIS SEAT. 6 by the template 'for every input the law returns true; each argument reads behind the call as it read before'; 0 by the template 'total and deterministic' (their statements: YtbmanooiphghmaaTotals.lean).
  GIVEN WITH THE SEED: the statements are not yours to turn. If you find one false, say at which input.
  Laid BY PROGRAM, IN A SANDBOX (cutbox-rows.mjs): the forced cells as the released guide's own fill.sh prints them over the translation d72e550b3abfa63b… (all of the seat's roots in one cut). By AI agents, Wed Nov 11 2026. No macro, syntax, notation, axiom, sorry.
-/
import Derived.Test.YtbmanooiphghmaaChecked
import GoSem.Claim
import GoSem.ClaimJoined
import GoSem.ClaimMapViews
import Derived.JoinedTies
import Derived.KernelRfl
namespace Go.Proofs.Ytbmanooiphghmaa
/- THE CELL 'sum', in the pinned program and in every row, IS THE sha256 OF THE DUMP (.gsa) THAT YtbmanooiphghmaaProg.lean LOADS. Nothing in Lean hashes anything: it is a label: what it is worth is what the hold of that sum in a sandbox is worth. -/
noncomputable def Try.pinned : Pinned := { name := "ytbmanooiphghmaa", sum := "d72e550b3abfa63b2b5c167f8953273dda74cf326c6765bc426f87527ec9d531", checked := Try.checked }
namespace Rows
def none {H : Type} : Left H := { results := [], args := [] }

/-- 'bastidelaw15.MarksPlays': WHATEVER THE INPUT: true; the input reads as it did. -/
def marksPlaysSpec : ChangeSpec := { name := "marksPlays", fn := fun _ => fun
  | [d1, d2, d3] => { results := [.lit (.bool true)], args := [d1, d2, d3] }
  | _ => none }
def marksPlaysRow : OpenClaim := { program := "ytbmanooiphghmaa", sum := "d72e550b3abfa63b2b5c167f8953273dda74cf326c6765bc426f87527ec9d531", func := "bastide/bastidelaw15.MarksPlays", spec := "marksPlays", inPlace := ["slices.overlaps[bastide/api.Mark]", "internal/bytealg.Compare"], unfollowed := true, recurses := true, plainKeys := false, apart := false }
def MarksPlaysSaid : Prop := marksPlaysRow.holds Try.pinned (OpenSpec.ofChange marksPlaysSpec)

/-- ITS FALSE NEIGHBOUR: 'it returns false'. Refute it at one input. -/
def marksPlaysWrong : ChangeSpec := { name := "marksPlays", fn := fun _ => fun
  | [d1, d2, d3] => { results := [.lit (.bool false)], args := [d1, d2, d3] }
  | _ => none }
def MarksPlaysWrongFalsely : Prop := marksPlaysRow.holds Try.pinned (OpenSpec.ofChange marksPlaysWrong)

/-- 'bastidelaw15.MarksTrue': WHATEVER THE INPUT: true; the input reads as it did. -/
def marksTrueSpec : ChangeSpec := { name := "marksTrue", fn := fun _ => fun
  | [d1, d2] => { results := [.lit (.bool true)], args := [d1, d2] }
  | _ => none }
def marksTrueRow : OpenClaim := { program := "ytbmanooiphghmaa", sum := "d72e550b3abfa63b2b5c167f8953273dda74cf326c6765bc426f87527ec9d531", func := "bastide/bastidelaw15.MarksTrue", spec := "marksTrue", inPlace := ["slices.overlaps[bastide/api.Mark]", "internal/bytealg.Compare"], unfollowed := true, recurses := true, plainKeys := false, apart := false }
def MarksTrueSaid : Prop := marksTrueRow.holds Try.pinned (OpenSpec.ofChange marksTrueSpec)

/-- ITS FALSE NEIGHBOUR: 'it returns false'. Refute it at one input. -/
def marksTrueWrong : ChangeSpec := { name := "marksTrue", fn := fun _ => fun
  | [d1, d2] => { results := [.lit (.bool false)], args := [d1, d2] }
  | _ => none }
def MarksTrueWrongFalsely : Prop := marksTrueRow.holds Try.pinned (OpenSpec.ofChange marksTrueWrong)

/-- 'bastidelaw15.MarksOrder': WHATEVER THE INPUT: true; the input reads as it did. -/
def marksOrderSpec : ChangeSpec := { name := "marksOrder", fn := fun _ => fun
  | [d] => { results := [.lit (.bool true)], args := [d] }
  | _ => none }
def marksOrderRow : OpenClaim := { program := "ytbmanooiphghmaa", sum := "d72e550b3abfa63b2b5c167f8953273dda74cf326c6765bc426f87527ec9d531", func := "bastide/bastidelaw15.MarksOrder", spec := "marksOrder", inPlace := ["slices.overlaps[bastide/api.Mark]", "internal/bytealg.Compare"], unfollowed := true, recurses := true, plainKeys := false, apart := false }
def MarksOrderSaid : Prop := marksOrderRow.holds Try.pinned (OpenSpec.ofChange marksOrderSpec)

/-- ITS FALSE NEIGHBOUR: 'it returns false'. Refute it at one input. -/
def marksOrderWrong : ChangeSpec := { name := "marksOrder", fn := fun _ => fun
  | [d] => { results := [.lit (.bool false)], args := [d] }
  | _ => none }
def MarksOrderWrongFalsely : Prop := marksOrderRow.holds Try.pinned (OpenSpec.ofChange marksOrderWrong)

/-- 'bastidelaw15.MarksRaised': WHATEVER THE INPUT: true; the input reads as it did. -/
def marksRaisedSpec : ChangeSpec := { name := "marksRaised", fn := fun _ => fun
  | [d1, d2] => { results := [.lit (.bool true)], args := [d1, d2] }
  | _ => none }
def marksRaisedRow : OpenClaim := { program := "ytbmanooiphghmaa", sum := "d72e550b3abfa63b2b5c167f8953273dda74cf326c6765bc426f87527ec9d531", func := "bastide/bastidelaw15.MarksRaised", spec := "marksRaised", inPlace := ["slices.overlaps[bastide/api.Mark]", "internal/bytealg.Compare"], unfollowed := true, recurses := true, plainKeys := false, apart := false }
def MarksRaisedSaid : Prop := marksRaisedRow.holds Try.pinned (OpenSpec.ofChange marksRaisedSpec)

/-- ITS FALSE NEIGHBOUR: 'it returns false'. Refute it at one input. -/
def marksRaisedWrong : ChangeSpec := { name := "marksRaised", fn := fun _ => fun
  | [d1, d2] => { results := [.lit (.bool false)], args := [d1, d2] }
  | _ => none }
def MarksRaisedWrongFalsely : Prop := marksRaisedRow.holds Try.pinned (OpenSpec.ofChange marksRaisedWrong)

/-- 'bastidelaw15.MarksFour': WHATEVER THE INPUT: true; the input reads as it did. -/
def marksFourSpec : ChangeSpec := { name := "marksFour", fn := fun _ => fun
  | [d] => { results := [.lit (.bool true)], args := [d] }
  | _ => none }
def marksFourRow : OpenClaim := { program := "ytbmanooiphghmaa", sum := "d72e550b3abfa63b2b5c167f8953273dda74cf326c6765bc426f87527ec9d531", func := "bastide/bastidelaw15.MarksFour", spec := "marksFour", inPlace := ["slices.overlaps[bastide/api.Mark]", "internal/bytealg.Compare"], unfollowed := true, recurses := true, plainKeys := false, apart := false }
def MarksFourSaid : Prop := marksFourRow.holds Try.pinned (OpenSpec.ofChange marksFourSpec)

/-- ITS FALSE NEIGHBOUR: 'it returns false'. Refute it at one input. -/
def marksFourWrong : ChangeSpec := { name := "marksFour", fn := fun _ => fun
  | [d] => { results := [.lit (.bool false)], args := [d] }
  | _ => none }
def MarksFourWrongFalsely : Prop := marksFourRow.holds Try.pinned (OpenSpec.ofChange marksFourWrong)

/-- 'bastidelaw15.MarksNames': WHATEVER THE INPUT: true; the input reads as it did. -/
def marksNamesSpec : ChangeSpec := { name := "marksNames", fn := fun _ => fun
  | [] => { results := [.lit (.bool true)], args := [] }
  | _ => none }
def marksNamesRow : OpenClaim := { program := "ytbmanooiphghmaa", sum := "d72e550b3abfa63b2b5c167f8953273dda74cf326c6765bc426f87527ec9d531", func := "bastide/bastidelaw15.MarksNames", spec := "marksNames", inPlace := ["internal/bytealg.Compare", "slices.overlaps[bastide/api.Mark]"], unfollowed := true, recurses := true, plainKeys := false, apart := false }
def MarksNamesSaid : Prop := marksNamesRow.holds Try.pinned (OpenSpec.ofChange marksNamesSpec)

/-- ITS FALSE NEIGHBOUR: 'it returns false'. Refute it at one input. -/
def marksNamesWrong : ChangeSpec := { name := "marksNames", fn := fun _ => fun
  | [] => { results := [.lit (.bool false)], args := [] }
  | _ => none }
def MarksNamesWrongFalsely : Prop := marksNamesRow.holds Try.pinned (OpenSpec.ofChange marksNamesWrong)

/- THE SECOND FORM. 'bulk': how many values and letters a reading holds, each counted each time it is reached (what is shared counts as often as it is met; a slice's spare places count too). A statement '..UptoSaid' is the law's where the arguments, and the package variables that the reading takes, are together of bulk at most 1048576: NARROWER than '..Said'. Prove '..Said' where nothing that the law and all that it calls make is longer than what came in: it says more and counts as full. Else prove '..UptoSaid'. A law counts once. -/
mutual
def uptoBulk {H : Type} : DataW H → Nat
  | .lit (.string bytes) => bytes.length + 1
  | .lit _ => 1
  | .nil => 1
  | .ptr d => uptoBulk d + 1
  | .slice elems spare => uptoBulkAll elems + uptoBulkAll spare + 1
  | .agg parts => uptoBulkAll parts + 1
  | .iface _ d => uptoBulk d + 1
  | .map entries => uptoBulkEntries entries + 1
  | .held _ => 1
def uptoBulkAll {H : Type} : List (DataW H) → Nat
  | [] => 0
  | d :: r => uptoBulk d + uptoBulkAll r
def uptoBulkEntries {H : Type} : List (Lit × DataW H) → Nat
  | [] => 0
  | x :: r => uptoBulkEntry x + uptoBulkEntries r
def uptoBulkEntry {H : Type} : Lit × DataW H → Nat
  | (.string bytes, d) => bytes.length + uptoBulk d + 1
  | (_, d) => uptoBulk d + 1
 end
def uptoSmall : (H : Type) → List (DataW H) → Bool := fun _ ds => decide (uptoBulkAll ds ≤ 1048576)
def OpenSpec.upto (s : _root_.Go.ChangeSpec) : _root_.Go.OpenSpec := { _root_.Go.OpenSpec.ofChange s with cond := some uptoSmall }

/-- 'bastidelaw15.MarksPlays', WHERE WHAT IT READS IS OF BULK AT MOST 1048576: true; the input reads as it did. -/
def marksPlaysUptoRow : OpenClaim := { program := "ytbmanooiphghmaa", sum := "d72e550b3abfa63b2b5c167f8953273dda74cf326c6765bc426f87527ec9d531", func := "bastide/bastidelaw15.MarksPlays", spec := "marksPlays", inPlace := ["slices.overlaps[bastide/api.Mark]", "internal/bytealg.Compare"], unfollowed := true, recurses := true, plainKeys := false, apart := false, narrowed := true }
def MarksPlaysUptoSaid : Prop := marksPlaysUptoRow.holds Try.pinned (OpenSpec.upto marksPlaysSpec)

/-- 'bastidelaw15.MarksTrue', WHERE WHAT IT READS IS OF BULK AT MOST 1048576: true; the input reads as it did. -/
def marksTrueUptoRow : OpenClaim := { program := "ytbmanooiphghmaa", sum := "d72e550b3abfa63b2b5c167f8953273dda74cf326c6765bc426f87527ec9d531", func := "bastide/bastidelaw15.MarksTrue", spec := "marksTrue", inPlace := ["slices.overlaps[bastide/api.Mark]", "internal/bytealg.Compare"], unfollowed := true, recurses := true, plainKeys := false, apart := false, narrowed := true }
def MarksTrueUptoSaid : Prop := marksTrueUptoRow.holds Try.pinned (OpenSpec.upto marksTrueSpec)

/-- 'bastidelaw15.MarksOrder', WHERE WHAT IT READS IS OF BULK AT MOST 1048576: true; the input reads as it did. -/
def marksOrderUptoRow : OpenClaim := { program := "ytbmanooiphghmaa", sum := "d72e550b3abfa63b2b5c167f8953273dda74cf326c6765bc426f87527ec9d531", func := "bastide/bastidelaw15.MarksOrder", spec := "marksOrder", inPlace := ["slices.overlaps[bastide/api.Mark]", "internal/bytealg.Compare"], unfollowed := true, recurses := true, plainKeys := false, apart := false, narrowed := true }
def MarksOrderUptoSaid : Prop := marksOrderUptoRow.holds Try.pinned (OpenSpec.upto marksOrderSpec)

/-- 'bastidelaw15.MarksRaised', WHERE WHAT IT READS IS OF BULK AT MOST 1048576: true; the input reads as it did. -/
def marksRaisedUptoRow : OpenClaim := { program := "ytbmanooiphghmaa", sum := "d72e550b3abfa63b2b5c167f8953273dda74cf326c6765bc426f87527ec9d531", func := "bastide/bastidelaw15.MarksRaised", spec := "marksRaised", inPlace := ["slices.overlaps[bastide/api.Mark]", "internal/bytealg.Compare"], unfollowed := true, recurses := true, plainKeys := false, apart := false, narrowed := true }
def MarksRaisedUptoSaid : Prop := marksRaisedUptoRow.holds Try.pinned (OpenSpec.upto marksRaisedSpec)

/-- 'bastidelaw15.MarksFour', WHERE WHAT IT READS IS OF BULK AT MOST 1048576: true; the input reads as it did. -/
def marksFourUptoRow : OpenClaim := { program := "ytbmanooiphghmaa", sum := "d72e550b3abfa63b2b5c167f8953273dda74cf326c6765bc426f87527ec9d531", func := "bastide/bastidelaw15.MarksFour", spec := "marksFour", inPlace := ["slices.overlaps[bastide/api.Mark]", "internal/bytealg.Compare"], unfollowed := true, recurses := true, plainKeys := false, apart := false, narrowed := true }
def MarksFourUptoSaid : Prop := marksFourUptoRow.holds Try.pinned (OpenSpec.upto marksFourSpec)

/-- 'bastidelaw15.MarksNames', WHERE WHAT IT READS IS OF BULK AT MOST 1048576: true; the input reads as it did. -/
def marksNamesUptoRow : OpenClaim := { program := "ytbmanooiphghmaa", sum := "d72e550b3abfa63b2b5c167f8953273dda74cf326c6765bc426f87527ec9d531", func := "bastide/bastidelaw15.MarksNames", spec := "marksNames", inPlace := ["internal/bytealg.Compare", "slices.overlaps[bastide/api.Mark]"], unfollowed := true, recurses := true, plainKeys := false, apart := false, narrowed := true }
def MarksNamesUptoSaid : Prop := marksNamesUptoRow.holds Try.pinned (OpenSpec.upto marksNamesSpec)

end Rows
end Go.Proofs.Ytbmanooiphghmaa
