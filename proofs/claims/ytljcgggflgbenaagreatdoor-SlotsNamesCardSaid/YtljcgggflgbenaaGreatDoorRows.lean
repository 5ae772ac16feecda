/-
  NARROWER THAN 'FOR EVERY INPUT', by the rows' own cells (each row's printed sentence says how): SlotsPlays: laid · SlotsNames: laid.
  DERIVED. THE GIVEN ROWS OF THIS SEAT. 2 by the template 'for every input the law returns true; each argument reads behind the call as it read before'; 0 by the template 'total and deterministic' (their statements: YtljcgggflgbenaaGreatDoorTotals.lean).
  GIVEN WITH THE SEED: the statements are not yours to turn. If you find one false, say at which input.
  Laid BY PROGRAM, IN A SANDBOX (cutbox-rows.mjs): the forced cells as the released guide's own fill.sh prints them over the translation 40132c1ea5268910… (all of the seat's roots in one cut). By AI agents, Wed Nov 11 2026. No macro, syntax, notation, axiom, sorry.
-/
import Derived.Test.YtljcgggflgbenaaGreatDoorChecked
import GoSem.Claim
import GoSem.ClaimJoined
import GoSem.ClaimMapViews
import Derived.JoinedTies
import Derived.KernelRfl
namespace Go.Proofs.YtljcgggflgbenaaGreatDoor
/- THE CELL 'sum', in the pinned program and in every row, IS THE sha256 OF THE DUMP (.gsa) THAT YtljcgggflgbenaaGreatDoorProg.lean LOADS. Nothing in Lean hashes anything: it is a label: what it is worth is what the hold of that sum in a sandbox is worth. -/
noncomputable def Tryz.pinned : Pinned := { name := "ytljcgggflgbenaagreatdoor", sum := "40132c1ea526891033e4bc9beac369038c89d27e2a40637f17d43b6bf252bbd0", checked := Tryz.checked }
namespace Rows
def none {H : Type} : Left H := { results := [], args := [] }

/- WHAT THE LISTED PACKAGE-LEVEL VARIABLES READ AS WHEN THE CALL BEGINS. Each datum BY PROGRAM (the guide's laid-datum.mjs) off the statement by which the dump's own 'gosem.cut.vars' lays the variable. In a bare row this is a premise. The card (YtljcgggflgbenaaGreatDoorCards.lean) ties it to the program's text. -/
def laid_bastide_slots_silence {H : Type} : DataW H := .agg [.lit (.int .i64 (-1)), .agg [.lit (.int .u8 0), .lit (.int .u8 0), .lit (.int .u8 0), .lit (.int .u8 0), .lit (.int .u8 0), .lit (.int .u8 0), .lit (.int .u8 0), .lit (.int .u8 0), .lit (.int .u8 0), .lit (.int .u8 0), .lit (.int .u8 0), .lit (.int .u8 0), .lit (.int .u8 0), .lit (.int .u8 0), .lit (.int .u8 0), .lit (.int .u8 0), .lit (.int .u8 0), .lit (.int .u8 0), .lit (.int .u8 0), .lit (.int .u8 0), .lit (.int .u8 0), .lit (.int .u8 0), .lit (.int .u8 0), .lit (.int .u8 0), .lit (.int .u8 0), .lit (.int .u8 0), .lit (.int .u8 0), .lit (.int .u8 0), .lit (.int .u8 0), .lit (.int .u8 0), .lit (.int .u8 0), .lit (.int .u8 0)]]

/-- 'bastidelaw14.SlotsPlays': WHATEVER THE INPUT: true; the input reads as it did. -/
def slotsPlaysSpec : ChangeSpec := { name := "slotsPlays", fn := fun _ => fun
  | [d1, d2, d3] => { results := [.lit (.bool true)], args := [d1, d2, d3] }
  | _ => none }
def slotsPlaysRow : OpenClaim := { program := "ytljcgggflgbenaagreatdoor", sum := "40132c1ea526891033e4bc9beac369038c89d27e2a40637f17d43b6bf252bbd0", func := "bastide/bastidelaw14.SlotsPlays", spec := "slotsPlays", inPlace := ["internal/bytealg.Compare"], unfollowed := true, recurses := true, named := ["bastide/slots.silence"], plainKeys := false, apart := false, laid := [("bastide/slots.silence", laid_bastide_slots_silence)] }
def SlotsPlaysSaid : Prop := slotsPlaysRow.holds Tryz.pinned (OpenSpec.ofChange slotsPlaysSpec)

/-- ITS FALSE NEIGHBOUR: 'it returns false'. Refute it at one input. -/
def slotsPlaysWrong : ChangeSpec := { name := "slotsPlays", fn := fun _ => fun
  | [d1, d2, d3] => { results := [.lit (.bool false)], args := [d1, d2, d3] }
  | _ => none }
def SlotsPlaysWrongFalsely : Prop := slotsPlaysRow.holds Tryz.pinned (OpenSpec.ofChange slotsPlaysWrong)

/-- 'bastidelaw14.SlotsNames': WHATEVER THE INPUT: true; the input reads as it did. -/
def slotsNamesSpec : ChangeSpec := { name := "slotsNames", fn := fun _ => fun
  | [] => { results := [.lit (.bool true)], args := [] }
  | _ => none }
def slotsNamesRow : OpenClaim := { program := "ytljcgggflgbenaagreatdoor", sum := "40132c1ea526891033e4bc9beac369038c89d27e2a40637f17d43b6bf252bbd0", func := "bastide/bastidelaw14.SlotsNames", spec := "slotsNames", inPlace := ["internal/bytealg.Compare"], unfollowed := true, recurses := true, named := ["bastide/slots.silence"], plainKeys := false, apart := false, laid := [("bastide/slots.silence", laid_bastide_slots_silence)] }
def SlotsNamesSaid : Prop := slotsNamesRow.holds Tryz.pinned (OpenSpec.ofChange slotsNamesSpec)

/-- ITS FALSE NEIGHBOUR: 'it returns false'. Refute it at one input. -/
def slotsNamesWrong : ChangeSpec := { name := "slotsNames", fn := fun _ => fun
  | [] => { results := [.lit (.bool false)], args := [] }
  | _ => none }
def SlotsNamesWrongFalsely : Prop := slotsNamesRow.holds Tryz.pinned (OpenSpec.ofChange slotsNamesWrong)

/- THE SECOND FORM. 'bulk': how many values and letters a reading holds, each counted each time it is reached (what is shared counts as often as it is met; a slice's spare places count too). A statement '..UptoSaid' is the law's where the arguments, and the package variables that the reading takes, are together of bulk at most 1048576: NARROWER than '..Said'. Prove '..Said' where nothing that the law and all that it calls make is longer than what came in: it says more and counts as full. Else prove '..UptoSaid'. A law counts once. -/
mutual
def uptoBulk {H : Type} : DataW H → Nat
  | .lit (.string bytes) => bytes.length + 1
  | .lit _ => 1
  | .nil => 1
  | .ptr d => uptoBulk d + 1
  | .slice elems spare => uptoBulkAll elems + uptoBulkAll spare + 1
  | .agg parts => uptoBulkAll parts + 1
  | .iface _ d => uptoBulk d + 1
  | .map entries => uptoBulkEntries entries + 1
  | .held _ => 1
def uptoBulkAll {H : Type} : List (DataW H) → Nat
  | [] => 0
  | d :: r => uptoBulk d + uptoBulkAll r
def uptoBulkEntries {H : Type} : List (Lit × DataW H) → Nat
  | [] => 0
  | x :: r => uptoBulkEntry x + uptoBulkEntries r
def uptoBulkEntry {H : Type} : Lit × DataW H → Nat
  | (.string bytes, d) => bytes.length + uptoBulk d + 1
  | (_, d) => uptoBulk d + 1
 end
def uptoSmall : (H : Type) → List (DataW H) → Bool := fun _ ds => decide (uptoBulkAll ds ≤ 1048576)
def OpenSpec.upto (s : _root_.Go.ChangeSpec) : _root_.Go.OpenSpec := { _root_.Go.OpenSpec.ofChange s with cond := some uptoSmall }

/-- 'bastidelaw14.SlotsPlays', WHERE WHAT IT READS IS OF BULK AT MOST 1048576: true; the input reads as it did. -/
def slotsPlaysUptoRow : OpenClaim := { program := "ytljcgggflgbenaagreatdoor", sum := "40132c1ea526891033e4bc9beac369038c89d27e2a40637f17d43b6bf252bbd0", func := "bastide/bastidelaw14.SlotsPlays", spec := "slotsPlays", inPlace := ["internal/bytealg.Compare"], unfollowed := true, recurses := true, named := ["bastide/slots.silence"], plainKeys := false, apart := false, laid := [("bastide/slots.silence", laid_bastide_slots_silence)], narrowed := true }
def SlotsPlaysUptoSaid : Prop := slotsPlaysUptoRow.holds Tryz.pinned (OpenSpec.upto slotsPlaysSpec)

/-- 'bastidelaw14.SlotsNames', WHERE WHAT IT READS IS OF BULK AT MOST 1048576: true; the input reads as it did. -/
def slotsNamesUptoRow : OpenClaim := { program := "ytljcgggflgbenaagreatdoor", sum := "40132c1ea526891033e4bc9beac369038c89d27e2a40637f17d43b6bf252bbd0", func := "bastide/bastidelaw14.SlotsNames", spec := "slotsNames", inPlace := ["internal/bytealg.Compare"], unfollowed := true, recurses := true, named := ["bastide/slots.silence"], plainKeys := false, apart := false, laid := [("bastide/slots.silence", laid_bastide_slots_silence)], narrowed := true }
def SlotsNamesUptoSaid : Prop := slotsNamesUptoRow.holds Tryz.pinned (OpenSpec.upto slotsNamesSpec)

end Rows
end Go.Proofs.YtljcgggflgbenaaGreatDoor
