/- SlotsPlays answers true, for all calls whose numbers are of 64 bits; and what comes in is such. No condition. -/
import Derived.Test.YtljcgggflgbenaaGreatDoorGxOpen
import Derived.Test.YtljcgggflgbenaaGreatDoorZlG12
set_option linter.all false
namespace Go.Proofs.YtljcgggflgbenaaGreatDoor
open Go Go.Gx Go.RowKit Go.ChangeShapes Go.WideShapes
theorem plays_ret (G0 : Gh) (w0 : World) (hw : Holds G0 w0) (csc : List Value) (c : Crew) (hc : Rp.Is G0 csc c) (low : Int) (vl : Value) (l : List Do) (hl : Sl G0 vl l) (hsil : RowG G0 0 0 silence.cells) (hdo : ∀ d ∈ l, DoOk d) :
    RetS Tryz.prog 3 #[.agg csc.toArray, .int .i64 low, vl] G0 w0 (.bool true) := by
  cases h : newOk c (selfI c) low
  · exact playsN_ret G0 w0 hw csc c hc low vl l hl hsil h hdo
  · exact playsY_ret G0 w0 hw csc c hc low vl l hl hsil h hdo
def StandI : Type := {s : Stand // I6 s.seq}
def DoI : Type := {d : Do // DoOk d}
instance : Rp StandI := ⟨Rp.sz Stand, fun G cs x => Rp.Is G cs x.1, fun h => Rp.len h, fun h => Rp.one h, fun hg h => Rp.mono hg h⟩
instance : Rp DoI := ⟨Rp.sz Do, fun G cs x => Rp.Is G cs x.1, fun h => Rp.len h, fun h => Rp.one h, fun hg h => Rp.mono hg h⟩
theorem slMap {α β : Type} [Rp α] [Rp β] (f : α → β) (hs : Rp.sz α = Rp.sz β) (hI : ∀ (G : Gh) cs x, Rp.Is G cs x → Rp.Is G cs (f x)) {G : Gh} {v : Value} {l : List α} (h : Sl G v l) : Sl G v (l.map f) := by
  obtain ⟨A, cap, h1, h2, h3, h4⟩ := h
  refine ⟨A, cap, by rw [List.length_map]; exact h1, by rw [List.length_map]; exact h2, by rw [List.length_map]; exact h3, fun k x hk => ?_⟩
  rw [List.getElem?_map] at hk
  obtain ⟨y, hy, rfl⟩ := Option.map_eq_some_iff.1 hk
  obtain ⟨b, o, row, e1, e2, e3⟩ := h4 k y hy
  exact ⟨b, o, row, e1, by rw [← hs]; exact e2, hI _ _ _ e3⟩
theorem slStand {G : Gh} {v : Value} {l : List StandI} (h : Sl G v l) : Sl G v (l.map (·.1)) := slMap (fun x : StandI => x.1) rfl (fun _ _ _ h => h) h
theorem slDo {G : Gh} {v : Value} {l : List DoI} (h : Sl G v l) : Sl G v (l.map (·.1)) := slMap (fun x : DoI => x.1) rfl (fun _ _ _ h => h) h
theorem allSt (l : List StandI) : ∀ x ∈ l.map (·.1), I6 x.seq := by
  intro x hx; obtain ⟨y, _, rfl⟩ := List.mem_map.1 hx; exact y.2
theorem allDo (l : List DoI) : ∀ d ∈ l.map (·.1), DoOk d := by
  intro x hx; obtain ⟨y, _, rfl⟩ := List.mem_map.1 hx; exact y.2
theorem trodI6 {P : Program} {T : Nat} (hT : P.underlying T = some (.int .i64)) {H : Type} {enc : TypeId × Value → H} {W : World} {sp : Nat → Bool} {fuel : Nat} {cs : List Value} {d : DataW H} {ps : List MemPlace}
    (h : DataW.trod enc P W 0 sp true fuel T cs = some (d, ps)) : ∃ x : Int, Rp.Is (hG W) cs x ∧ I6 x := by
  obtain ⟨n, h1, _, h3⟩ := DataW.trod_int hT h
  refine ⟨n, h1, ?_⟩
  simp [Lit.wf] at h3
  have e1 : IntKind.i64.min = -9223372036854775808 := rfl
  have e2 : IntKind.i64.max = 9223372036854775807 := rfl
  unfold I6; omega
end Go.Proofs.YtljcgggflgbenaaGreatDoor
