/- What functions of the pick seat return, part 7. No condition. -/
import Derived.Test.YtbhkoipmojdkhaaPkG6
set_option linter.all false
namespace Go.Proofs.Ytbhkoipmojdkhaa
open Go Go.Gx Go.RowKit
theorem co37 : callOk Try.prog 37 = true := by kernel_rfl
theorem co43 : callOk Try.prog 43 = true := by kernel_rfl
theorem co42 : callOk Try.prog 42 = true := by kernel_rfl
theorem elo31 : elemOk Try.prog 31 30 33 40 = true := by kernel_rfl
theorem low_ret (G0 : Gh) (w0 : World) (hw : Holds G0 w0) (csc : List Value) (c : Council) (hc : Rp.Is G0 csc c) (hs : (c.list.flatMap (·.marks)).length ≤ 1000000) :
  RetS Try.prog 27 #[.agg csc.toArray] G0 w0 (.tuple #[(.agg ((lowI c).1).cells.toArray), (.bool ((lowI c).2))]) := by
 have hC := Cx.refl hw
 have hB : Bxs G0 w0 w0.heap.size [] := Bxs.nil _ _ _
 obtain ⟨v1, rfl, hs2⟩ := Council.opIs hc
 obtain ⟨A3, cap4, rfl⟩ := hs2.form
 refine callsOf Try.func27 rfl _ Try.ntmps27 rfl _ (argsCons argsNil (t := 0) rfl) ?_; intro Q0 hQ
 refine wcSeq (wcRegion ?_)
 refine wlBox (cs := [(.int .i64 c.most), (.int .i64 c.some_), (.slice A3 c.list.length cap4)]) hC hB rfl rfl rfl ?_; intro b5 w hk hC hB
 refine wlAlloc hC hB zero30 rfl ?_; intro b6 w hk hC hB
 refine wlVal (opAssign rfl) rfl ?_
 refine wlThen (wcSeq (wcRegion ?_))
 refine wlVal (opAssign rfl) rfl ?_
 refine wlThen (wcSeq (wcSeq (wcRegion ?_)))
 refine wlVal (opFieldAddr rfl fo70_2) rfl ?_
 refine wlVal (opLoadOne (v := (.slice A3 c.list.length cap4)) rfl (hB.cell (i := 1) rfl rfl) one25) rfl ?_
 refine wlVal (opLen rfl isl25) rfl ?_
 refine wlVal (opMove rfl) rfl ?_
 refine wlThen ?_
 refine wcBlock ?_
 refine WC.sub (wrInd (ι := Nat × (Option Addr) × Nat × (Option Bx) × (List Mark)) (fun i => match i with | (k, msA, msC, msO, ms) => c.list.length - k) (fun i G w => match i with | (k, msA, msC, msO, ms) => Cx w0 G0 G w ∧ Bxs G w w0.heap.size ([(b6, 30, ((.int .i64 0) :: (Dig.zero.cells ++ []))), (b5, 70, [(.int .i64 c.most), (.int .i64 c.some_), (.slice A3 c.list.length cap4)])] ++ (Option.toList msO ++ [])) ∧ Sl G (.slice A3 c.list.length cap4) c.list ∧ Ow G msO 30 (.slice msA ms.length msC) ms ∧ ms = (c.list.take k).flatMap (·.marks)) (fun i => match i with | (k, msA, msC, msO, ms) => ((((((Env.nil.put 1 (.pointer (some ⟨b5, 0, none⟩))).put 2 (.pointer (some ⟨b6, 0, none⟩))).put 4 (.slice msA ms.length msC)).put 9 (.slice A3 c.list.length cap4)).put 10 (.int .i64 (((c.list.length : Nat) : Int)))).put 11 (.int .i64 (((k : Nat) : Int))))) ?_ (0, none, 0, none, []) _ _ ⟨hC, hB, hs2, (Ow.nil_ _ 30), (by simp)⟩) (fun _ ha => ((((((ha.start.cons ha (t := 1) rfl).cons ha (t := 2) rfl).cons ha (t := 4) rfl).cons ha (t := 9) rfl).cons ha (t := 10) rfl).cons ha (t := 11) rfl))
 rintro ⟨k, msA, msC, msO, ms⟩ G w N0 IH0 ⟨hC, hB, hs2, hOms, hI⟩
 show WC _ _ _ _ ((((((Env.nil.put 1 (.pointer (some ⟨b5, 0, none⟩))).put 2 (.pointer (some ⟨b6, 0, none⟩))).put 4 (.slice msA ms.length msC)).put 9 (.slice A3 c.list.length cap4)).put 10 (.int .i64 (((c.list.length : Nat) : Int)))).put 11 (.int .i64 (((k : Nat) : Int)))) w
 refine wcSeq (wcRegion ?_)
 refine wlVal (opLssN rfl rfl) rfl ?_
 refine wlThen (wcSeq ?_)
 cases h7 : decide (k < c.list.length)
 ·
  skip
  refine wcCondF rfl ?_
  refine wcExit ?_
  refine wcOf ?_
  refine wcSeq (wcRegion ?_)
  obtain ⟨G, hg9, hC, hB, hF8⟩ := freezeBox (cs := [(.int .i64 c.most), (.int .i64 c.some_), (.slice A3 c.list.length cap4)]) hC (Nat.le_refl _) hB (i := 1) rfl
  replace hs2 := hs2.mono hg9; replace hOms := hOms.mono hg9
  refine wlVal (opMakeFunc (fun a ha => ha.evals (xs := []) rfl) (fun a ha => ha.evals (xs := [.tmp 1]) rfl)) rfl ?_
  refine wlVal (opAssign rfl) rfl ?_
  refine wlThen (wcSeq (wcRegion ?_))
  refine wlVal (opMove rfl) rfl ?_
  refine wlVal (opMove rfl) rfl ?_
  obtain ⟨G, hg11, hC, hB, hs10⟩ := Ow.freeze' (bl := [(b6, 30, ((.int .i64 0) :: (Dig.zero.cells ++ [])))]) (r := []) hOms hC (Nat.le_refl _) hB (by rw [hI, List.take_of_length_le (Nat.le_of_not_lt (of_decide_eq_false h7))]; unfold maxL; omega)
  replace hs2 := hs2.mono hg11
  replace hF8 := hF8.mono hg11
  refine wlCallS hC hB rfl co42 rfl rfl (bestM_ret _ _ hC.holds _ ms hs10 37 [(.pointer (some ⟨b5, 0, none⟩))] (fun may_x0 => lowMayB c may_x0) co37 (fun G w may_x0 hg hw  => low1_ret G w hw may_x0 _ _ c (hF8.mono hg) (Rp.mono hg (Council.mkIs (x := c) hs2)) ) 43 [] (fun cmp_x0 cmp_x1 => orI [cmpI cmp_x0.seq cmp_x1.seq, cmpB cmp_x1.dig.l cmp_x0.dig.l]) co43 (fun G w cmp_x0 cmp_x1 hg hw  => low2_ret G w hw cmp_x0 cmp_x1  )) ?_; intro w hk hC hB
  refine wlVal (opExtract rfl rfl) rfl ?_
  refine wlVal (opExtract rfl rfl) rfl ?_
  refine wlStore 0 (vs := (((bestG (fun may_x0 => lowMayB c may_x0) (fun cmp_x0 cmp_x1 => orI [cmpI cmp_x0.seq cmp_x1.seq, cmpB cmp_x1.dig.l cmp_x0.dig.l]) ms default false).1)).cells) (cs := ((.int .i64 0) :: (Dig.zero.cells ++ []))) (cs' := (((bestG (fun may_x0 => lowMayB c may_x0) (fun cmp_x0 cmp_x1 => orI [cmpI cmp_x0.seq cmp_x1.seq, cmpB cmp_x1.dig.l cmp_x0.dig.l]) ms default false).1)).cells) hC hB rfl rfl rfl sz30 rfl (by simp [Mark.cells, Stand.cells]) (by simp [Mark.cells, Stand.cells, Value.oneCell']) (by simp [Mark.cells, Stand.cells]) (by simp [Mark.cells, Stand.cells]) rfl ?_; intro w hC hB
  refine wlVal (opAssign rfl) rfl ?_
  refine wlThen ?_
  refine wcRet ?_
  exact fun ac_ ha => hQ _ _ _ (results2 ha rfl ⟨_, _, (((bestG (fun may_x0 => lowMayB c may_x0) (fun cmp_x0 cmp_x1 => orI [cmpI cmp_x0.seq cmp_x1.seq, cmpB cmp_x1.dig.l cmp_x0.dig.l]) ms default false).1)).cells, rfl, row30, (by simp [Mark.cells, Stand.cells]), hB.range (i := 0) (m := 33) rfl (by simp [Mark.cells, Stand.cells]), rfl⟩ rfl) ha.df (endS hC hw (by rw [hI, List.take_of_length_le (Nat.le_of_not_lt (of_decide_eq_false h7))]; rfl))
 ·
  skip
  refine wcCondT rfl ?_
  refine wcSkip ?_
  refine wcOf ?_
  refine wcSeq ?_
  refine wcBlock (wcSeq (wcRegion ?_))
  obtain ⟨x12, hx13⟩ : ∃ y_, c.list[k]? = some y_ := ⟨_, List.getElem?_eq_getElem (of_decide_eq_true h7)⟩
  obtain ⟨b14, o15, row16, hA19, hr17, hi18⟩ := hs2.elem hx13; subst hA19
  obtain ⟨v20, v22, v24, rfl, hs21, hs23, hs25⟩ := Change.opIs hi18
  obtain ⟨A26, cap27, rfl⟩ := hs21.form
  obtain ⟨A28, cap29, rfl⟩ := hs23.form
  obtain ⟨A30, cap31, rfl⟩ := hs25.form
  refine wlVal (opIndexAddr rfl rfl slo25 (of_decide_eq_true h7)) rfl ?_
  refine wlVal (opLoadRow (cs := [(.int .i64 x12.node), (.int .i64 x12.view), (.int .i64 x12.low), (.slice A26 x12.marks.length cap27), (.slice A28 x12.p.length cap29), (.slice A30 x12.q.length cap31)]) rfl (RowG.range hC.holds hr17) row49 rfl) rfl ?_
  refine wlAlloc hC hB zero49 rfl ?_; intro b32 w hk hC hB
  replace hB : Bxs G w w0.heap.size ([(b32, 49, [(.int .i64 0), (.int .i64 0), (.int .i64 0), (.slice none 0 0), (.slice none 0 0), (.slice none 0 0)]), (b6, 30, ((.int .i64 0) :: (Dig.zero.cells ++ []))), (b5, 70, [(.int .i64 c.most), (.int .i64 c.some_), (.slice (some ⟨b14, o15, none⟩) c.list.length cap4)])] ++ (Option.toList msO ++ [])) := hB
  refine wlStore 0 (vs := [(.int .i64 x12.node), (.int .i64 x12.view), (.int .i64 x12.low), (.slice A26 x12.marks.length cap27), (.slice A28 x12.p.length cap29), (.slice A30 x12.q.length cap31)]) (cs := [(.int .i64 0), (.int .i64 0), (.int .i64 0), (.slice none 0 0), (.slice none 0 0), (.slice none 0 0)]) (cs' := [(.int .i64 x12.node), (.int .i64 x12.view), (.int .i64 x12.low), (.slice A26 x12.marks.length cap27), (.slice A28 x12.p.length cap29), (.slice A30 x12.q.length cap31)]) hC hB rfl rfl rfl sz49 rfl rfl rfl (by simp [Mark.cells, Stand.cells]) rfl rfl ?_; intro w hC hB
  replace hB : Bxs G w w0.heap.size ([(b32, 49, [(.int .i64 x12.node), (.int .i64 x12.view), (.int .i64 x12.low), (.slice A26 x12.marks.length cap27), (.slice A28 x12.p.length cap29), (.slice A30 x12.q.length cap31)]), (b6, 30, ((.int .i64 0) :: (Dig.zero.cells ++ []))), (b5, 70, [(.int .i64 c.most), (.int .i64 c.some_), (.slice (some ⟨b14, o15, none⟩) c.list.length cap4)])] ++ (Option.toList msO ++ [])) := hB
  refine wlThen (wcRegion ?_)
  refine wlVal (opMove rfl) rfl ?_
  refine wlVal (opFieldAddr rfl fo49_3) rfl ?_
  refine wlVal (opLoadOne (v := (.slice A26 x12.marks.length cap27)) rfl (hB.cell (i := 0) rfl rfl) one31) rfl ?_
  refine wlAppend (α := Mark) (bl := [(b32, 49, [(.int .i64 x12.node), (.int .i64 x12.view), (.int .i64 x12.low), (.slice A26 x12.marks.length cap27), (.slice A28 x12.p.length cap29), (.slice A30 x12.q.length cap31)]), (b6, 30, ((.int .i64 0) :: (Dig.zero.cells ++ []))), (b5, 70, [(.int .i64 c.most), (.int .i64 c.some_), (.slice (some ⟨b14, o15, none⟩) c.list.length cap4)])]) (o := msO) (r := []) elo31 hC hB rfl rfl hOms hs21 (by have := flat_le hs hx13; rw [hI]; omega) rfl rfl ?_; intro A33 cap34 o35 w hC hB hO36
  refine wlVal (opAssign rfl) rfl ?_
  refine wlNil ?_
  refine wcOf ?_
  refine wcRegion ?_
  refine wlVal (opIncr rfl rfl (incr_ok (of_decide_eq_true h7) hs2.le)) rfl ?_
  refine wlVal (opMove rfl) rfl ?_
  refine wlRound ?_
  exact (IH0 (k + 1, A33, cap34, o35, (ms ++ x12.marks)) _ _ ⟨hC, hB.tail, hs2, hO36, (by rw [List.take_add_one, hx13]; simp [hI])⟩ (by have := of_decide_eq_true h7; simp; omega)).sub (fun _ ha => ((((((ha.start.cons ha (t := 1) rfl).cons ha (t := 2) rfl).cons ha (t := 4) rfl).cons ha (t := 9) rfl).cons ha (t := 10) rfl).cons ha (t := 11) rfl))

end Go.Proofs.Ytbhkoipmojdkhaa
