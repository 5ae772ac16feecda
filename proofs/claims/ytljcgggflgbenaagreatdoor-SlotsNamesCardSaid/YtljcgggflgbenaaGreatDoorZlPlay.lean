/- SlotsPlays answers true, for all calls whose numbers are of 64 bits; and what comes in is such. No condition. -/
import Derived.Test.YtljcgggflgbenaaGreatDoorGxThree
import Derived.Test.YtljcgggflgbenaaGreatDoorZlG12
set_option linter.all false
namespace Go.Proofs.YtljcgggflgbenaaGreatDoor
open Go Go.Gx Go.RowKit Go.ChangeShapes Go.WideShapes
theorem plays_ret (G0 : Gh) (w0 : World) (hw : Holds G0 w0) (csc : List Value) (c : Crew) (hc : Rp.Is G0 csc c) (low : Int) (vl : Value) (l : List Do) (hl : Sl G0 vl l) (hsil : RowG G0 0 0 silence.cells) (hdo : ∀ d ∈ l, DoOk d) :
    RetS Tryz.prog 3 #[.agg csc.toArray, .int .i64 low, vl] G0 w0 (.bool true) := by
  cases h : newOk c (selfI c) low
  · exact playsN_ret G0 w0 hw csc c hc low vl l hl hsil h hdo
  · exact playsY_ret G0 w0 hw csc c hc low vl l hl hsil h hdo
def StandI : Type := {s : Stand // I6 s.seq}
def DoI : Type := {d : Do // DoOk d}
instance : Rp StandI := ⟨Rp.sz Stand, fun G cs x => Rp.Is G cs x.1, fun h => Rp.len h, fun h => Rp.one h, fun hg h => Rp.mono hg h⟩
instance : Rp DoI := ⟨Rp.sz Do, fun G cs x => Rp.Is G cs x.1, fun h => Rp.len h, fun h => Rp.one h, fun hg h => Rp.mono hg h⟩
end Go.Proofs.YtljcgggflgbenaaGreatDoor
