/-
  NARROWER THAN 'FOR EVERY INPUT', by the rows' own cells (each row's printed sentence says how): SlotsOrder: laid · SlotsKeeps: laid · SlotsSafe: laid · SlotsWindow: laid · SlotsBack: laid.
  DERIVED. THE GIVEN ROWS OF THIS SEAT. 5 by the template 'for every input the law returns true; each argument reads behind the call as it read before'; 0 by the template 'total and deterministic' (their statements: YtljcgggflgbenaaDoorTotals.lean).
  GIVEN WITH THE SEED: the statements are not yours to turn. If you find one false, say at which input.
  Laid BY PROGRAM, IN A SANDBOX (cutbox-rows.mjs): the forced cells as the released guide's own fill.sh prints them over the translation 4617dc48af3fea44… (all of the seat's roots in one cut). By AI agents, Wed Nov 11 2026. No macro, syntax, notation, axiom, sorry.
-/
import Derived.Test.YtljcgggflgbenaaDoorChecked
import GoSem.Claim
import GoSem.ClaimJoined
import GoSem.ClaimMapViews
import Derived.JoinedTies
import Derived.KernelRfl
namespace Go.Proofs.YtljcgggflgbenaaDoor
/- THE CELL 'sum', in the pinned program and in every row, IS THE sha256 OF THE DUMP (.gsa) THAT YtljcgggflgbenaaDoorProg.lean LOADS. Nothing in Lean hashes anything: it is a label: what it is worth is what the hold of that sum in a sandbox is worth. -/
noncomputable def Tryd.pinned : Pinned := { name := "ytljcgggflgbenaadoor", sum := "4617dc48af3fea4490f59425a124e0d1b5649bc0ed3161bbd5840705dd1199d5", checked := Tryd.checked }
namespace Rows
def none {H : Type} : Left H := { results := [], args := [] }

/- WHAT THE LISTED PACKAGE-LEVEL VARIABLES READ AS WHEN THE CALL BEGINS. Each datum BY PROGRAM (the guide's laid-datum.mjs) off the statement by which the dump's own 'gosem.cut.vars' lays the variable. In a bare row this is a premise. The card (YtljcgggflgbenaaDoorCards.lean) ties it to the program's text. -/
def laid_bastide_slots_silence {H : Type} : DataW H := .agg [.lit (.int .i64 (-1)), .agg [.lit (.int .u8 0), .lit (.int .u8 0), .lit (.int .u8 0), .lit (.int .u8 0), .lit (.int .u8 0), .lit (.int .u8 0), .lit (.int .u8 0), .lit (.int .u8 0), .lit (.int .u8 0), .lit (.int .u8 0), .lit (.int .u8 0), .lit (.int .u8 0), .lit (.int .u8 0), .lit (.int .u8 0), .lit (.int .u8 0), .lit (.int .u8 0), .lit (.int .u8 0), .lit (.int .u8 0), .lit (.int .u8 0), .lit (.int .u8 0), .lit (.int .u8 0), .lit (.int .u8 0), .lit (.int .u8 0), .lit (.int .u8 0), .lit (.int .u8 0), .lit (.int .u8 0), .lit (.int .u8 0), .lit (.int .u8 0), .lit (.int .u8 0), .lit (.int .u8 0), .lit (.int .u8 0), .lit (.int .u8 0)]]

/-- 'bastidelaw14.SlotsOrder': WHATEVER THE INPUT: true; the input reads as it did. -/
def slotsOrderSpec : ChangeSpec := { name := "slotsOrder", fn := fun _ => fun
  | [d1, d2] => { results := [.lit (.bool true)], args := [d1, d2] }
  | _ => none }
def slotsOrderRow : OpenClaim := { program := "ytljcgggflgbenaadoor", sum := "4617dc48af3fea4490f59425a124e0d1b5649bc0ed3161bbd5840705dd1199d5", func := "bastide/bastidelaw14.SlotsOrder", spec := "slotsOrder", inPlace := ["internal/bytealg.Compare"], unfollowed := true, recurses := true, named := ["bastide/slots.silence"], plainKeys := false, apart := false, laid := [("bastide/slots.silence", laid_bastide_slots_silence)] }
def SlotsOrderSaid : Prop := slotsOrderRow.holds Tryd.pinned (OpenSpec.ofChange slotsOrderSpec)

/-- ITS FALSE NEIGHBOUR: 'it returns false'. Refute it at one input. -/
def slotsOrderWrong : ChangeSpec := { name := "slotsOrder", fn := fun _ => fun
  | [d1, d2] => { results := [.lit (.bool false)], args := [d1, d2] }
  | _ => none }
def SlotsOrderWrongFalsely : Prop := slotsOrderRow.holds Tryd.pinned (OpenSpec.ofChange slotsOrderWrong)

/-- 'bastidelaw14.SlotsKeeps': WHATEVER THE INPUT: true; the input reads as it did. -/
def slotsKeepsSpec : ChangeSpec := { name := "slotsKeeps", fn := fun _ => fun
  | [d] => { results := [.lit (.bool true)], args := [d] }
  | _ => none }
def slotsKeepsRow : OpenClaim := { program := "ytljcgggflgbenaadoor", sum := "4617dc48af3fea4490f59425a124e0d1b5649bc0ed3161bbd5840705dd1199d5", func := "bastide/bastidelaw14.SlotsKeeps", spec := "slotsKeeps", inPlace := ["internal/bytealg.Compare"], unfollowed := true, recurses := true, named := ["bastide/slots.silence"], plainKeys := false, apart := false, laid := [("bastide/slots.silence", laid_bastide_slots_silence)] }
def SlotsKeepsSaid : Prop := slotsKeepsRow.holds Tryd.pinned (OpenSpec.ofChange slotsKeepsSpec)

/-- ITS FALSE NEIGHBOUR: 'it returns false'. Refute it at one input. -/
def slotsKeepsWrong : ChangeSpec := { name := "slotsKeeps", fn := fun _ => fun
  | [d] => { results := [.lit (.bool false)], args := [d] }
  | _ => none }
def SlotsKeepsWrongFalsely : Prop := slotsKeepsRow.holds Tryd.pinned (OpenSpec.ofChange slotsKeepsWrong)

/-- 'bastidelaw14.SlotsSafe': WHATEVER THE INPUT: true; the input reads as it did. -/
def slotsSafeSpec : ChangeSpec := { name := "slotsSafe", fn := fun _ => fun
  | [d1, d2, d3] => { results := [.lit (.bool true)], args := [d1, d2, d3] }
  | _ => none }
def slotsSafeRow : OpenClaim := { program := "ytljcgggflgbenaadoor", sum := "4617dc48af3fea4490f59425a124e0d1b5649bc0ed3161bbd5840705dd1199d5", func := "bastide/bastidelaw14.SlotsSafe", spec := "slotsSafe", inPlace := ["internal/bytealg.Compare"], unfollowed := true, recurses := true, named := ["bastide/slots.silence"], plainKeys := false, apart := false, laid := [("bastide/slots.silence", laid_bastide_slots_silence)] }
def SlotsSafeSaid : Prop := slotsSafeRow.holds Tryd.pinned (OpenSpec.ofChange slotsSafeSpec)

/-- ITS FALSE NEIGHBOUR: 'it returns false'. Refute it at one input. -/
def slotsSafeWrong : ChangeSpec := { name := "slotsSafe", fn := fun _ => fun
  | [d1, d2, d3] => { results := [.lit (.bool false)], args := [d1, d2, d3] }
  | _ => none }
def SlotsSafeWrongFalsely : Prop := slotsSafeRow.holds Tryd.pinned (OpenSpec.ofChange slotsSafeWrong)

/-- 'bastidelaw14.SlotsWindow': WHATEVER THE INPUT: true; the input reads as it did. -/
def slotsWindowSpec : ChangeSpec := { name := "slotsWindow", fn := fun _ => fun
  | [d1, d2, d3] => { results := [.lit (.bool true)], args := [d1, d2, d3] }
  | _ => none }
def slotsWindowRow : OpenClaim := { program := "ytljcgggflgbenaadoor", sum := "4617dc48af3fea4490f59425a124e0d1b5649bc0ed3161bbd5840705dd1199d5", func := "bastide/bastidelaw14.SlotsWindow", spec := "slotsWindow", inPlace := ["internal/bytealg.Compare"], unfollowed := true, recurses := true, named := ["bastide/slots.silence"], plainKeys := false, apart := false, laid := [("bastide/slots.silence", laid_bastide_slots_silence)] }
def SlotsWindowSaid : Prop := slotsWindowRow.holds Tryd.pinned (OpenSpec.ofChange slotsWindowSpec)

/-- ITS FALSE NEIGHBOUR: 'it returns false'. Refute it at one input. -/
def slotsWindowWrong : ChangeSpec := { name := "slotsWindow", fn := fun _ => fun
  | [d1, d2, d3] => { results := [.lit (.bool false)], args := [d1, d2, d3] }
  | _ => none }
def SlotsWindowWrongFalsely : Prop := slotsWindowRow.holds Tryd.pinned (OpenSpec.ofChange slotsWindowWrong)

/-- 'bastidelaw14.SlotsBack': WHATEVER THE INPUT: true; the input reads as it did. -/
def slotsBackSpec : ChangeSpec := { name := "slotsBack", fn := fun _ => fun
  | [d1, d2] => { results := [.lit (.bool true)], args := [d1, d2] }
  | _ => none }
def slotsBackRow : OpenClaim := { program := "ytljcgggflgbenaadoor", sum := "4617dc48af3fea4490f59425a124e0d1b5649bc0ed3161bbd5840705dd1199d5", func := "bastide/bastidelaw14.SlotsBack", spec := "slotsBack", inPlace := ["internal/bytealg.Compare"], unfollowed := true, recurses := true, named := ["bastide/slots.silence"], plainKeys := false, apart := false, laid := [("bastide/slots.silence", laid_bastide_slots_silence)] }
def SlotsBackSaid : Prop := slotsBackRow.holds Tryd.pinned (OpenSpec.ofChange slotsBackSpec)

/-- ITS FALSE NEIGHBOUR: 'it returns false'. Refute it at one input. -/
def slotsBackWrong : ChangeSpec := { name := "slotsBack", fn := fun _ => fun
  | [d1, d2] => { results := [.lit (.bool false)], args := [d1, d2] }
  | _ => none }
def SlotsBackWrongFalsely : Prop := slotsBackRow.holds Tryd.pinned (OpenSpec.ofChange slotsBackWrong)

/- THE SECOND FORM. 'bulk': how many values and letters a reading holds, each counted each time it is reached (what is shared counts as often as it is met; a slice's spare places count too). A statement '..UptoSaid' is the law's where the arguments, and the package variables that the reading takes, are together of bulk at most 1048576: NARROWER than '..Said'. Prove '..Said' where nothing that the law and all that it calls make is longer than what came in: it says more and counts as full. Else prove '..UptoSaid'. A law counts once. -/
mutual
def uptoBulk {H : Type} : DataW H → Nat
  | .lit (.string bytes) => bytes.length + 1
  | .lit _ => 1
  | .nil => 1
  | .ptr d => uptoBulk d + 1
  | .slice elems spare => uptoBulkAll elems + uptoBulkAll spare + 1
  | .agg parts => uptoBulkAll parts + 1
  | .iface _ d => uptoBulk d + 1
  | .map entries => uptoBulkEntries entries + 1
  | .held _ => 1
def uptoBulkAll {H : Type} : List (DataW H) → Nat
  | [] => 0
  | d :: r => uptoBulk d + uptoBulkAll r
def uptoBulkEntries {H : Type} : List (Lit × DataW H) → Nat
  | [] => 0
  | x :: r => uptoBulkEntry x + uptoBulkEntries r
def uptoBulkEntry {H : Type} : Lit × DataW H → Nat
  | (.string bytes, d) => bytes.length + uptoBulk d + 1
  | (_, d) => uptoBulk d + 1
 end
def uptoSmall : (H : Type) → List (DataW H) → Bool := fun _ ds => decide (uptoBulkAll ds ≤ 1048576)
def OpenSpec.upto (s : _root_.Go.ChangeSpec) : _root_.Go.OpenSpec := { _root_.Go.OpenSpec.ofChange s with cond := some uptoSmall }

/-- 'bastidelaw14.SlotsOrder', WHERE WHAT IT READS IS OF BULK AT MOST 1048576: true; the input reads as it did. -/
def slotsOrderUptoRow : OpenClaim := { program := "ytljcgggflgbenaadoor", sum := "4617dc48af3fea4490f59425a124e0d1b5649bc0ed3161bbd5840705dd1199d5", func := "bastide/bastidelaw14.SlotsOrder", spec := "slotsOrder", inPlace := ["internal/bytealg.Compare"], unfollowed := true, recurses := true, named := ["bastide/slots.silence"], plainKeys := false, apart := false, laid := [("bastide/slots.silence", laid_bastide_slots_silence)], narrowed := true }
def SlotsOrderUptoSaid : Prop := slotsOrderUptoRow.holds Tryd.pinned (OpenSpec.upto slotsOrderSpec)

/-- 'bastidelaw14.SlotsKeeps', WHERE WHAT IT READS IS OF BULK AT MOST 1048576: true; the input reads as it did. -/
def slotsKeepsUptoRow : OpenClaim := { program := "ytljcgggflgbenaadoor", sum := "4617dc48af3fea4490f59425a124e0d1b5649bc0ed3161bbd5840705dd1199d5", func := "bastide/bastidelaw14.SlotsKeeps", spec := "slotsKeeps", inPlace := ["internal/bytealg.Compare"], unfollowed := true, recurses := true, named := ["bastide/slots.silence"], plainKeys := false, apart := false, laid := [("bastide/slots.silence", laid_bastide_slots_silence)], narrowed := true }
def SlotsKeepsUptoSaid : Prop := slotsKeepsUptoRow.holds Tryd.pinned (OpenSpec.upto slotsKeepsSpec)

/-- 'bastidelaw14.SlotsSafe', WHERE WHAT IT READS IS OF BULK AT MOST 1048576: true; the input reads as it did. -/
def slotsSafeUptoRow : OpenClaim := { program := "ytljcgggflgbenaadoor", sum := "4617dc48af3fea4490f59425a124e0d1b5649bc0ed3161bbd5840705dd1199d5", func := "bastide/bastidelaw14.SlotsSafe", spec := "slotsSafe", inPlace := ["internal/bytealg.Compare"], unfollowed := true, recurses := true, named := ["bastide/slots.silence"], plainKeys := false, apart := false, laid := [("bastide/slots.silence", laid_bastide_slots_silence)], narrowed := true }
def SlotsSafeUptoSaid : Prop := slotsSafeUptoRow.holds Tryd.pinned (OpenSpec.upto slotsSafeSpec)

/-- 'bastidelaw14.SlotsWindow', WHERE WHAT IT READS IS OF BULK AT MOST 1048576: true; the input reads as it did. -/
def slotsWindowUptoRow : OpenClaim := { program := "ytljcgggflgbenaadoor", sum := "4617dc48af3fea4490f59425a124e0d1b5649bc0ed3161bbd5840705dd1199d5", func := "bastide/bastidelaw14.SlotsWindow", spec := "slotsWindow", inPlace := ["internal/bytealg.Compare"], unfollowed := true, recurses := true, named := ["bastide/slots.silence"], plainKeys := false, apart := false, laid := [("bastide/slots.silence", laid_bastide_slots_silence)], narrowed := true }
def SlotsWindowUptoSaid : Prop := slotsWindowUptoRow.holds Tryd.pinned (OpenSpec.upto slotsWindowSpec)

/-- 'bastidelaw14.SlotsBack', WHERE WHAT IT READS IS OF BULK AT MOST 1048576: true; the input reads as it did. -/
def slotsBackUptoRow : OpenClaim := { program := "ytljcgggflgbenaadoor", sum := "4617dc48af3fea4490f59425a124e0d1b5649bc0ed3161bbd5840705dd1199d5", func := "bastide/bastidelaw14.SlotsBack", spec := "slotsBack", inPlace := ["internal/bytealg.Compare"], unfollowed := true, recurses := true, named := ["bastide/slots.silence"], plainKeys := false, apart := false, laid := [("bastide/slots.silence", laid_bastide_slots_silence)], narrowed := true }
def SlotsBackUptoSaid : Prop := slotsBackUptoRow.holds Tryd.pinned (OpenSpec.upto slotsBackSpec)

end Rows
end Go.Proofs.YtljcgggflgbenaaDoor
