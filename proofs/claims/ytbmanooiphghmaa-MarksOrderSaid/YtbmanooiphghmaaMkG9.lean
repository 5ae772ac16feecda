/- What functions of the marks seat return, part 9. No condition. -/
import Derived.Test.YtbmanooiphghmaaMkG8
set_option linter.all false
namespace Go.Proofs.Ytbmanooiphghmaa
open Go Go.Gx Go.RowKit
section
variable {m : RSt} {d0 : List (List Mark)} {x : Mark} {k : Nat} {y : List Mark}
end
def newOk (c : Crew) (low : Mark) : Bool := !(check c != 0) && mayB low.seq
theorem newOk_1 {c : Crew} {low : Mark} (h : newOk c low = true) : (check c != 0) = false := by unfold newOk at h; cases hc : check c != 0 <;> simp_all
theorem newOk_2 {c : Crew} {low : Mark} (h : newOk c low = true) : mayB low.seq = true := by unfold newOk at h; cases hc : mayB low.seq <;> simp_all
theorem new_l7 {c : Crew} (h : (check c != 0) = false) : c.nodes.length ≤ 7 := by
  have h1 : check c = 0 := by simpa using h
  unfold check at h1
  cases h2 : decide (c.faults < 0) || (decide (2 < c.faults) || ((c.nodes.length : Int) != IntKind.wrap .i64 (IntKind.wrap .i64 (3 * c.faults) + 1))) with
  | true => rw [h2] at h1; cases h1
  | false =>
    simp only [Bool.or_eq_false_iff, decide_eq_false_iff_not, bne_eq_false_iff_eq] at h2
    obtain ⟨a, b, e⟩ := h2
    rw [IntWalk.i64_in (3 * c.faults) (by omega), IntWalk.i64_in _ (by omega)] at e
    omega
theorem new_l6 {c : Crew} (h : (check c != 0) = false) : c.nodes.length ≤ 1000000 := Nat.le_trans (new_l7 h) (by decide)
theorem new_le {c : Crew} (h : (check c != 0) = false) : c.nodes.length ≤ maxL := Nat.le_trans (new_l7 h) (by decide)
theorem newinv {c : Crew} {low : Mark} (_ : (check c != 0) = false) : MInv ⟨c, low, []⟩ := fun p hp => (List.not_mem_nil hp).elim
theorem co29 : callOk Try.prog 29 = true := by kernel_rfl
theorem so64 : structOk Try.prog 64 [(0, 2), (2, 33), (35, 1)] = true := by kernel_rfl
theorem zero64 : (Try.prog.info? 64).bind (fun i => i.zero.map Value.cells) = some (((.int .i64 0) :: ((.slice none 0 0) :: ((.int .i64 0) :: (Dig.zero.cells ++ ((.map none) :: []))))) : List Value).toArray := by kernel_rfl
theorem new_ok (G0 : Gh) (w0 : World) (hw : Holds G0 w0) (csc : List Value) (c : Crew) (hc : Rp.Is G0 csc c) (low : Mark) (hok : newOk c low = true) :
    RetN Try.prog 9 #[.agg csc.toArray, .agg low.cells.toArray] G0 w0 (fun G L v => ∃ b l o q, L = [(b, o), (l, q)] ∧ MarksO G o q l ((MSt.mk c low [])) ∧ v = (.tuple #[(.pointer (some ⟨b, 0, none⟩)), .int .i64 0])) := by
  have hC := Cx.refl hw
  have hB : Bxs G0 w0 w0.heap.size [] := Bxs.nil _ _ _
  obtain ⟨v1, rfl, hs2⟩ := Crew.opIs hc
  obtain ⟨A3, cap4, rfl⟩ := hs2.form
  have hk1 := newOk_1 hok
  have hk2 := newOk_2 hok
  refine callsOf Try.func9 rfl _ Try.ntmps9 rfl _ (argsCons (argsCons argsNil (t := 0) rfl) (t := 1) rfl) ?_; intro Q0 hQ
  refine wcSeq ?_
  refine wcRegion ?_
  refine wlBox (cs := [(.int .i64 c.faults), (.slice A3 c.nodes.length cap4)]) hC hB rfl rfl rfl ?_; intro b5 w hk hC hB
  refine wlBox (cs := low.cells) hC hB rfl rfl rfl ?_; intro b6 w hk hC hB
  refine wlVal (opAssign rfl) rfl ?_
  refine wlVal (opAssign rfl) rfl ?_
  refine wlThen ?_
  refine wcSeq ?_
  refine wcBlock ?_
  refine wcSeq ?_
  refine wcRegion ?_
  refine wlVal (opLoadRow (cs := [(.int .i64 c.faults), (.slice A3 c.nodes.length cap4)]) rfl (hB.range (i := 1) (m := 2) rfl rfl) row24 rfl) rfl ?_
  refine wlCallS hC hB rfl co27 rfl rfl (check_ret _ _ hC.holds _ c (Crew.mkIs (x := c) hs2)) ?_; intro w hk hC hB
  refine wlVal (OpVal.cast (opNeq rfl rfl) (congrArg Value.bool hk1)) rfl ?_
  refine wlVal (opAssign rfl) rfl ?_
  refine wlThen ?_
  refine wcCondF rfl ?_
  refine wcSeq ?_
  refine wcRegion ?_
  refine wlVal (opFieldAddr rfl fo28_0) rfl ?_
  refine wlVal (opLoadOne (v := (.int .i64 low.seq)) rfl (hB.cell (i := 0) rfl (by simp [Mark.cells, Do.cells, Word.cells])) one3) rfl ?_
  refine wlCallS hC hB rfl co28 rfl rfl (RetS.cast (may_ret _ _ hC.holds low.seq) (congrArg Value.bool hk2)) ?_; intro w hk hC hB
  refine wlVal (opNot rfl) rfl ?_
  refine wlVal (opAssign rfl) rfl ?_
  refine wlThen ?_
  refine wcCondF rfl ?_
  refine wcSkip ?_
  refine wcOf ?_
  refine wcSeq ?_
  refine wcRegion ?_
  refine wlVal (opFieldAddr rfl fo24_1) rfl ?_
  refine wlVal (opLoadOne (v := (.slice A3 c.nodes.length cap4)) rfl (hB.cell (i := 1) rfl rfl) one22) rfl ?_
  refine wlCallO (bl := [(b6, 28, low.cells), (b5, 24, [(.int .i64 c.faults), (.slice A3 c.nodes.length cap4)])]) (r := []) hC hB rfl co29 rfl rfl (cloneI_ret _ _ hC.holds _ c.nodes hs2 (new_l6 hk1)) ?_; rintro v11 G o9 w hk hC hB ⟨A7, cap8, rfl, hO10⟩
  replace hs2 := hs2.mono hk.gle
  refine wlVal (opFieldAddr rfl fo24_1) rfl ?_
  refine wlStore 1 (vs := [(.slice A7 c.nodes.length cap8)]) (cs := [(.int .i64 c.faults), (.slice A3 c.nodes.length cap4)]) (cs' := [(.int .i64 c.faults), (.slice A7 c.nodes.length cap8)]) hC hB rfl rfl rfl sz22 rfl rfl rfl (by simp [Mark.cells, Do.cells, Word.cells]) rfl rfl ?_; intro w hC hB
  replace hB : Bxs G w w0.heap.size ([(b6, 28, low.cells), (b5, 24, [(.int .i64 c.faults), (.slice A7 c.nodes.length cap8)])] ++ (Option.toList o9 ++ [])) := hB
  refine wlThen ?_
  refine wcSeq ?_
  refine wcRegion ?_
  refine wlVal (opLoadRow (cs := [(.int .i64 c.faults), (.slice A7 c.nodes.length cap8)]) rfl (hB.range (i := 1) (m := 2) rfl rfl) row24 rfl) rfl ?_
  refine wlVal (opLoadRow (cs := low.cells) rfl (hB.range (i := 0) (m := 33) rfl (by simp [Mark.cells, Do.cells, Word.cells])) row28 (by simp [Mark.cells, Do.cells, Word.cells])) rfl ?_
  refine wlMakeMapH hC hB rfl ?_; intro b12 w hC hB
  have hM13 : MpO kI G (.map #[] 0) ([] : List (Int × (List Mark))) := MpO.nil_ _ _
  replace hC : Cx w0 G0 G w ⟨[], [(b12, .map #[] 0)]⟩ := hC
  replace hB : Bxs G w w0.heap.size ([(b6, 28, low.cells), (b5, 24, [(.int .i64 c.faults), (.slice A7 c.nodes.length cap8)])] ++ (Option.toList o9 ++ [])) ⟨[], [(b12, .map #[] 0)]⟩ := hB
  refine wlVal (opBuild (ps := [(0, .tmp 19), (1, .tmp 20), (2, .tmp 21)]) (cs := ((.int .i64 c.faults) :: ((.slice A7 c.nodes.length cap8) :: ((.int .i64 low.seq) :: (low.dig.cells ++ ((.map (some b12)) :: [])))))) so64 zero64 rfl rfl (by first | (simp [buildCells, Value.cells]; done) | simp [buildCells, Value.cells, Mark.cells, Do.cells, Word.cells])) rfl ?_
  obtain ⟨G, hg16, hC, hB, hs15⟩ := Ow.freeze' (bl := [(b6, 28, low.cells), (b5, 24, [(.int .i64 c.faults), (.slice A7 c.nodes.length cap8)])]) (r := []) hO10 hC (Nat.le_refl _) hB (new_le hk1)
  replace hs2 := hs2.mono hg16; replace hM13 := hM13.mono hg16
  replace hB : Bxs G w w0.heap.size [(b6, 28, low.cells), (b5, 24, [(.int .i64 c.faults), (.slice A7 c.nodes.length cap8)])] ⟨[], [(b12, .map #[] 0)]⟩ := hB
  refine wlBox (cs := ((.int .i64 c.faults) :: ((.slice A7 c.nodes.length cap8) :: ((.int .i64 low.seq) :: (low.dig.cells ++ ((.map (some b12)) :: [])))))) hC hB rfl rfl rfl ?_; intro b14 w hk hC hB
  obtain ⟨hC, hB⟩ := hold hC hB (i := 0) rfl
  replace hC : Cx w0 G0 G w ⟨[], [(b14, .cells ((.int .i64 c.faults) :: ((.slice A7 c.nodes.length cap8) :: ((.int .i64 low.seq) :: (low.dig.cells ++ ((.map (some b12)) :: []))))).toArray 64 (0, 0)), (b12, .map #[] 0)]⟩ := hC
  replace hB : Bxs G w w0.heap.size [(b6, 28, low.cells), (b5, 24, [(.int .i64 c.faults), (.slice A7 c.nodes.length cap8)])] ⟨[], [(b14, .cells ((.int .i64 c.faults) :: ((.slice A7 c.nodes.length cap8) :: ((.int .i64 low.seq) :: (low.dig.cells ++ ((.map (some b12)) :: []))))).toArray 64 (0, 0)), (b12, .map #[] 0)]⟩ := hB
  refine wlVal (opAssign rfl) rfl ?_
  refine wlVal (opAssign rfl) rfl ?_
  refine wlThen ?_
  refine wcRet ?_
  exact fun ac_ ha => hQ _ _ _ (results2 ha rfl rfl rfl) ha.df (endN hC [(b14, .cells ((.int .i64 c.faults) :: ((.slice A7 c.nodes.length cap8) :: ((.int .i64 low.seq) :: (low.dig.cells ++ ((.map (some b12)) :: []))))).toArray 64 (0, 0)), (b12, .map #[] 0)] (.cons₂ _ (.cons₂ _ .slnil)) ⟨_, _, _, _, rfl, (by have e_ : (MSt.mk c low []) = (MSt.mk ((Crew.mk c.faults c.nodes)) low ([])) := rfl; rw [e_]; exact ⟨_, rfl, hs15, hM13, (newinv hk1)⟩), rfl⟩)

end Go.Proofs.Ytbmanooiphghmaa
