/- What functions of the pick seat return, part 12. No condition. -/
import Derived.Test.YtbhkoipmojdkhaaPkG11
import Derived.Test.YtbhkoipmojdkhaaPkLaw
set_option linter.all false
namespace Go.Proofs.Ytbhkoipmojdkhaa
open Go Go.Gx Go.RowKit
theorem co56 : callOk Try.prog 56 = true := by kernel_rfl
theorem co57 : callOk Try.prog 57 = true := by kernel_rfl
theorem lowmark_ret (G0 : Gh) (w0 : World) (hw : Holds G0 w0) (csc : List Value) (c : Crew) (hc : Rp.Is G0 csc c) (vl : Value) (l : List Change) (hl : Sl G0 vl l) :
  RetS Try.prog 31 #[.agg csc.toArray, vl] G0 w0 (.tuple #[(.agg ((lowI (Council.mk (most c) (some_ c) l)).1).cells.toArray), (.bool ((lowI (Council.mk (most c) (some_ c) l)).2))]) := by
 have hC := Cx.refl hw
 have hB : Bxs G0 w0 w0.heap.size [] := Bxs.nil _ _ _
 obtain ⟨v1, rfl, hs2⟩ := Crew.opIs hc
 obtain ⟨A3, cap4, rfl⟩ := hs2.form
 obtain ⟨A5, cap6, rfl⟩ := hl.form
 refine callsOf Try.func31 rfl _ Try.ntmps31 rfl _ (argsCons (argsCons argsNil (t := 0) rfl) (t := 1) rfl) ?_; intro Q0 hQ
 refine wcSeq (wcRegion ?_)
 refine wlBox (cs := [(.int .i64 c.faults), (.slice A3 c.nodes.length cap4)]) hC hB rfl rfl rfl ?_; intro b7 w hk hC hB
 refine wlAlloc hC hB zero30 rfl ?_; intro b8 w hk hC hB
 refine wlVal (opAssign rfl) rfl ?_
 refine wlThen (wcSeq (wcRegion ?_))
 refine wlVal (opBuild (ps := []) (cs := ((.int .i64 0) :: (Dig.zero.cells ++ []))) so30 zero30 rfl rfl (by simp [buildCells, Value.cells])) rfl ?_
 refine wlAlloc hC hB zero30 rfl ?_; intro b9 w hk hC hB
 refine wlStore 0 (vs := ((.int .i64 0) :: (Dig.zero.cells ++ []))) (cs := ((.int .i64 0) :: (Dig.zero.cells ++ []))) (cs' := ((.int .i64 0) :: (Dig.zero.cells ++ []))) hC hB rfl rfl rfl sz30 rfl (by simp [Mark.cells, Stand.cells]) (by simp [Mark.cells, Stand.cells, Value.oneCell']) (by simp [Mark.cells, Stand.cells]) (by simp [Mark.cells, Stand.cells]) rfl ?_; intro w hC hB
 refine wlVal (opAssign rfl) rfl ?_
 refine wlThen (wcSeq (wcSeq (wcRegion ?_)))
 refine wlVal (opAssign rfl) rfl ?_
 refine wlThen ?_
 refine wcBlock ?_
 refine WC.sub (wrInd (ι := Nat × Mark × Bool) (fun i => match i with | (k, o, ok) => l.length - k) (fun i G w => match i with | (k, o, ok) => Cx w0 G0 G w ∧ Bxs G w w0.heap.size [(b9, 30, o.cells), (b8, 30, ((.int .i64 0) :: (Dig.zero.cells ++ []))), (b7, 24, [(.int .i64 c.faults), (.slice A3 c.nodes.length cap4)])] ∧ Sl G (.slice A3 c.nodes.length cap4) c.nodes ∧ Sl G (.slice A5 l.length cap6) l ∧ bestG (fun x => lowMayB (Council.mk (most c) (some_ c) l) x) (fun a b => orI [cmpI a.seq b.seq, cmpB b.dig.l a.dig.l]) ((l.drop k).flatMap (·.marks)) o ok = bestG (fun x => lowMayB (Council.mk (most c) (some_ c) l) x) (fun a b => orI [cmpI a.seq b.seq, cmpB b.dig.l a.dig.l]) (l.flatMap (·.marks)) default false) (fun i => match i with | (k, o, ok) => ((((((Env.nil.put 1 (.slice A5 l.length cap6)).put 2 (.pointer (some ⟨b7, 0, none⟩))).put 4 (.pointer (some ⟨b8, 0, none⟩))).put 6 (.pointer (some ⟨b9, 0, none⟩))).put 7 (.bool ok)).put 8 (.int .i64 (((k : Nat) : Int))))) ?_ (0, (Mark.mk 0 Dig.zero), false) _ _ ⟨hC, hB, hs2, hl, rfl⟩) (fun _ ha => ((((((ha.start.cons ha (t := 1) rfl).cons ha (t := 2) rfl).cons ha (t := 4) rfl).cons ha (t := 6) rfl).cons ha (t := 7) rfl).cons ha (t := 8) rfl))
 rintro ⟨k, o, ok⟩ G w N0 IH0 ⟨hC, hB, hs2, hl, hI⟩
 show WC _ _ _ _ ((((((Env.nil.put 1 (.slice A5 l.length cap6)).put 2 (.pointer (some ⟨b7, 0, none⟩))).put 4 (.pointer (some ⟨b8, 0, none⟩))).put 6 (.pointer (some ⟨b9, 0, none⟩))).put 7 (.bool ok)).put 8 (.int .i64 (((k : Nat) : Int)))) w
 refine wcSeq (wcSeq (wcRegion ?_))
 refine wlVal (opMove rfl) rfl ?_
 refine wlVal (opMove rfl) rfl ?_
 refine wlVal (opLen rfl isl25) rfl ?_
 refine wlVal (opLssN rfl rfl) rfl ?_
 refine wlThen ?_
 cases h10 : decide (k < l.length)
 ·
  skip
  refine wcCondF rfl ?_
  refine wcExit ?_
  refine wcOf ?_
  refine wcSeq (wcRegion ?_)
  refine wlVal (opLoadRow (cs := o.cells) rfl (hB.range (i := 0) (m := 33) rfl (by simp [Mark.cells, Stand.cells])) row30 (by simp [Mark.cells, Stand.cells])) rfl ?_
  refine wlVal (opMove rfl) rfl ?_
  refine wlStore 1 (vs := o.cells) (cs := ((.int .i64 0) :: (Dig.zero.cells ++ []))) (cs' := o.cells) hC hB rfl rfl rfl sz30 rfl (by simp [Mark.cells, Stand.cells]) (by simp [Mark.cells, Stand.cells, Value.oneCell']) (by simp [Mark.cells, Stand.cells]) (by simp [Mark.cells, Stand.cells]) rfl ?_; intro w hC hB
  refine wlVal (opAssign rfl) rfl ?_
  refine wlThen ?_
  refine wcRet ?_
  exact fun ac_ ha => hQ _ _ _ (results2 ha rfl ⟨_, _, o.cells, rfl, row30, (by simp [Mark.cells, Stand.cells]), hB.range (i := 1) (m := 33) rfl (by simp [Mark.cells, Stand.cells]), rfl⟩ rfl) ha.df (endS hC hw (by have e := hI; rw [List.drop_eq_nil_of_le (Nat.le_of_not_lt (of_decide_eq_false h10))] at e; simp [bestG] at e; simp [lowI, ← e]))
 ·
  skip
  refine wcCondT rfl ?_
  refine wcSkip ?_
  refine wcOf ?_
  refine wcSeq ?_
  refine wcBlock (wcSeq (wcRegion ?_))
  refine wlVal (opAssign rfl) rfl ?_
  refine wlThen ?_
  refine wcBlock ?_
  obtain ⟨x11, hx12⟩ : ∃ y_, l[k]? = some y_ := ⟨_, List.getElem?_eq_getElem (of_decide_eq_true h10)⟩
  obtain ⟨b13, o14, row15, hA18, hr16, hi17⟩ := hl.elem hx12; subst hA18
  obtain ⟨v19, v21, v23, rfl, hs20, hs22, hs24⟩ := Change.opIs hi17
  obtain ⟨A25, cap26, rfl⟩ := hs20.form
  obtain ⟨A27, cap28, rfl⟩ := hs22.form
  obtain ⟨A29, cap30, rfl⟩ := hs24.form
  refine WC.sub (wrInd (ι := Nat × Mark × Bool) (fun i => match i with | (j, o2, ok2) => x11.marks.length - j) (fun i G w => match i with | (j, o2, ok2) => Cx w0 G0 G w ∧ Bxs G w w0.heap.size [(b9, 30, o2.cells), (b8, 30, ((.int .i64 0) :: (Dig.zero.cells ++ []))), (b7, 24, [(.int .i64 c.faults), (.slice A3 c.nodes.length cap4)])] ∧ Sl G (.slice A3 c.nodes.length cap4) c.nodes ∧ Sl G (.slice (some ⟨b13, o14, none⟩) l.length cap6) l ∧ Sl G (.slice A25 x11.marks.length cap26) x11.marks ∧ Sl G (.slice A27 x11.p.length cap28) x11.p ∧ Sl G (.slice A29 x11.q.length cap30) x11.q ∧ RowG G b13 (o14 + k * 6) [(.int .i64 x11.node), (.int .i64 x11.view), (.int .i64 x11.low), (.slice A25 x11.marks.length cap26), (.slice A27 x11.p.length cap28), (.slice A29 x11.q.length cap30)] ∧ bestG (fun x => lowMayB (Council.mk (most c) (some_ c) l) x) (fun a b => orI [cmpI a.seq b.seq, cmpB b.dig.l a.dig.l]) (x11.marks.drop j ++ (l.drop (k + 1)).flatMap (·.marks)) o2 ok2 = bestG (fun x => lowMayB (Council.mk (most c) (some_ c) l) x) (fun a b => orI [cmpI a.seq b.seq, cmpB b.dig.l a.dig.l]) (l.flatMap (·.marks)) default false) (fun i => match i with | (j, o2, ok2) => (((((((Env.nil.put 1 (.slice (some ⟨b13, o14, none⟩) l.length cap6)).put 2 (.pointer (some ⟨b7, 0, none⟩))).put 4 (.pointer (some ⟨b8, 0, none⟩))).put 6 (.pointer (some ⟨b9, 0, none⟩))).put 7 (.bool ok2)).put 8 (.int .i64 (((k : Nat) : Int)))).put 9 (.int .i64 (((j : Nat) : Int))))) ?_ (0, o, ok) _ _ ⟨hC, hB, hs2, hl, hs20, hs22, hs24, hr16, (by rw [← hI, drop_get hx12]; simp)⟩) (fun _ ha => (((((((ha.start.cons ha (t := 1) rfl).cons ha (t := 2) rfl).cons ha (t := 4) rfl).cons ha (t := 6) rfl).cons ha (t := 7) rfl).cons ha (t := 8) rfl).cons ha (t := 9) rfl))
  rintro ⟨j, o2, ok2⟩ G w N1 IH1 ⟨hC, hB, hs2, hl, hs20, hs22, hs24, hr16, hJ⟩
  show WC _ _ _ _ (((((((Env.nil.put 1 (.slice (some ⟨b13, o14, none⟩) l.length cap6)).put 2 (.pointer (some ⟨b7, 0, none⟩))).put 4 (.pointer (some ⟨b8, 0, none⟩))).put 6 (.pointer (some ⟨b9, 0, none⟩))).put 7 (.bool ok2)).put 8 (.int .i64 (((k : Nat) : Int)))).put 9 (.int .i64 (((j : Nat) : Int)))) w
  refine wcSeq (wcSeq (wcRegion ?_))
  refine wlVal (opMove rfl) rfl ?_
  refine wlVal (opMove rfl) rfl ?_
  refine wlVal (opMove rfl) rfl ?_
  refine wlVal (opIndexAddr rfl rfl slo25 (of_decide_eq_true h10)) rfl ?_
  refine wlVal (opFieldAddr rfl fo49_3) rfl ?_
  refine wlVal (opLoadOne (v := (.slice A25 x11.marks.length cap26)) rfl (RowG.cell hC.holds hr16 (j := 3) rfl) one31) rfl ?_
  refine wlVal (opLen rfl isl31) rfl ?_
  refine wlVal (opLssN rfl rfl) rfl ?_
  refine wlThen ?_
  cases h31 : decide (j < x11.marks.length)
  ·
   skip
   refine wcCondF rfl ?_
   refine wcExit ?_
   refine wcOf ?_
   refine wcRegion ?_
   refine wlVal (opMove rfl) rfl ?_
   refine wlVal (opIncr rfl rfl (incr_ok (of_decide_eq_true h10) hl.le)) rfl ?_
   refine wlVal (opAssign rfl) rfl ?_
   refine wlRound ?_
   exact (IH0 (k + 1, o2, ok2) _ _ ⟨hC, hB, hs2, hl, (by rw [← hJ, List.drop_eq_nil_of_le (Nat.le_of_not_lt (of_decide_eq_false h31))]; simp)⟩ (by have := of_decide_eq_true h10; simp; omega)).sub (fun _ ha => ((((((ha.start.cons ha (t := 1) rfl).cons ha (t := 2) rfl).cons ha (t := 4) rfl).cons ha (t := 6) rfl).cons ha (t := 7) rfl).cons ha (t := 8) rfl))
  ·
   skip
   refine wcCondT rfl ?_
   refine wcSkip ?_
   refine wcOf ?_
   refine wcSeq ?_
   refine wcBlock (wcSeq (wcRegion ?_))
   refine wlVal (opMove rfl) rfl ?_
   refine wlVal (opMove rfl) rfl ?_
   refine wlVal (opIndexAddr rfl rfl slo25 (of_decide_eq_true h10)) rfl ?_
   refine wlVal (opFieldAddr rfl fo49_3) rfl ?_
   refine wlVal (opLoadOne (v := (.slice A25 x11.marks.length cap26)) rfl (RowG.cell hC.holds hr16 (j := 3) rfl) one31) rfl ?_
   refine wlVal (opMove rfl) rfl ?_
   obtain ⟨x32, hx33⟩ : ∃ y_, x11.marks[j]? = some y_ := ⟨_, List.getElem?_eq_getElem (of_decide_eq_true h31)⟩
   obtain ⟨b34, o35, row36, hA39, hr37, hi38⟩ := hs20.elem hx33; subst hA39
   obtain rfl := hi38
   refine wlVal (opIndexAddr rfl rfl slo31 (of_decide_eq_true h31)) rfl ?_
   refine wlVal (opLoadRow (cs := x32.cells) rfl (RowG.range hC.holds hr37) row30 (by simp [Mark.cells, Stand.cells])) rfl ?_
   refine wlAlloc hC hB zero30 rfl ?_; intro b40 w hk hC hB
   refine wlStore 0 (vs := x32.cells) (cs := ((.int .i64 0) :: (Dig.zero.cells ++ []))) (cs' := x32.cells) hC hB rfl rfl rfl sz30 rfl (by simp [Mark.cells, Stand.cells]) (by simp [Mark.cells, Stand.cells, Value.oneCell']) (by simp [Mark.cells, Stand.cells]) (by simp [Mark.cells, Stand.cells]) rfl ?_; intro w hC hB
   refine wlThen (wcSeq (wcSeq (wcRegion ?_)))
   refine wlVal (opLoadRow (cs := [(.int .i64 c.faults), (.slice A3 c.nodes.length cap4)]) rfl (hB.range (i := 3) (m := 2) rfl rfl) row24 rfl) rfl ?_
   refine wlVal (opMove rfl) rfl ?_
   refine wlVal (opLoadRow (cs := x32.cells) rfl (hB.range (i := 0) (m := 33) rfl (by simp [Mark.cells, Stand.cells])) row30 (by simp [Mark.cells, Stand.cells])) rfl ?_
   refine wlCallS hC hB rfl co56 rfl rfl (rlowmay_ret _ _ hC.holds _ c (Crew.mkIs (x := c) hs2) _ l hl x32) ?_; intro w hk hC hB
   refine wlVal (opNot rfl) rfl ?_
   refine wlThen ?_
   cases h41 : (lowMayB (Council.mk (most c) (some_ c) l) x32)
   ·
    skip
    refine wcCondT rfl ?_
    refine wcExit ?_
    refine wcOf ?_
    refine wcRegion ?_
    refine wlVal (opMove rfl) rfl ?_
    refine wlVal (opIncr rfl rfl (incr_ok (of_decide_eq_true h31) hs20.le)) rfl ?_
    refine wlVal (opAssign rfl) rfl ?_
    refine wlRound ?_
    exact (IH1 (j + 1, o2, ok2) _ _ ⟨hC, hB.tail, hs2, hl, hs20, hs22, hs24, hr16, (by rw [← hJ, drop_get hx33]; simp only [List.cons_append, bestG, true_and, better, h41, Bool.not_true, Bool.not_false, Bool.true_or, Bool.false_or, Bool.true_and, Bool.false_and, Bool.and_true, Bool.and_false, Bool.or_true, Bool.or_false, cond_true, cond_false])⟩ (by have := of_decide_eq_true h10; have := of_decide_eq_true h31; simp; omega)).sub (fun _ ha => (((((((ha.start.cons ha (t := 1) rfl).cons ha (t := 2) rfl).cons ha (t := 4) rfl).cons ha (t := 6) rfl).cons ha (t := 7) rfl).cons ha (t := 8) rfl).cons ha (t := 9) rfl))
   ·
    skip
    refine wcCondF rfl ?_
    refine wcSkip ?_
    refine wcOf ?_
    refine wcSeq (wcRegion ?_)
    refine wlVal (opMove rfl) rfl ?_
    refine wlVal (opNot rfl) rfl ?_
    refine wlVal (opMove rfl) rfl ?_
    cases h42 : ok2
    ·
     skip
     refine wlOff rfl rfl rfl rfl ?_
     refine wlOff rfl rfl rfl rfl ?_
     refine wlOff rfl rfl rfl rfl ?_
     refine wlOff rfl rfl rfl rfl ?_
     refine wlOff rfl rfl rfl rfl ?_
     refine wlVal (opPickT rfl rfl) rfl ?_
     refine wlVal (opMove rfl) rfl ?_
     refine wlOff rfl rfl rfl rfl ?_
     refine wlOff rfl rfl rfl rfl ?_
     refine wlOff rfl rfl rfl rfl ?_
     refine wlOff rfl rfl rfl rfl ?_
     refine wlOff rfl rfl rfl rfl ?_
     refine wlOff rfl rfl rfl rfl ?_
     refine wlOffU rfl rfl rfl ?_
     refine wlOffU rfl rfl rfl ?_
     refine wlOffU rfl rfl rfl ?_
     refine wlOffU rfl rfl rfl ?_
     refine wlOffU rfl rfl rfl ?_
     refine wlOff rfl rfl rfl rfl ?_
     refine wlVal (opPickT rfl rfl) rfl ?_
     refine wlThen ?_
     refine wcCondT rfl ?_
     refine wcSeq (wcRegion ?_)
     refine wlVal (opLoadRow (cs := x32.cells) rfl (hB.range (i := 0) (m := 33) rfl (by simp [Mark.cells, Stand.cells])) row30 (by simp [Mark.cells, Stand.cells])) rfl ?_
     refine wlStore 1 (vs := x32.cells) (cs := o2.cells) (cs' := x32.cells) hC hB rfl rfl rfl sz30 rfl (by simp [Mark.cells, Stand.cells]) (by simp [Mark.cells, Stand.cells, Value.oneCell']) (by simp [Mark.cells, Stand.cells]) (by simp [Mark.cells, Stand.cells]) rfl ?_; intro w hC hB
     refine wlThen (wcRegion ?_)
     refine wlVal (opAssign rfl) rfl ?_
     refine wlNil ?_
     refine wcOf ?_
     refine wcRegion ?_
     refine wlVal (opMove rfl) rfl ?_
     refine wlVal (opIncr rfl rfl (incr_ok (of_decide_eq_true h31) hs20.le)) rfl ?_
     refine wlVal (opAssign rfl) rfl ?_
     refine wlRound ?_
     exact (IH1 (j + 1, x32, true) _ _ ⟨hC, hB.tail, hs2, hl, hs20, hs22, hs24, hr16, (by rw [← hJ, drop_get hx33]; simp only [List.cons_append, bestG, true_and, better, h41, h42, Bool.not_true, Bool.not_false, Bool.true_or, Bool.false_or, Bool.true_and, Bool.false_and, Bool.and_true, Bool.and_false, Bool.or_true, Bool.or_false, cond_true, cond_false])⟩ (by have := of_decide_eq_true h10; have := of_decide_eq_true h31; simp; omega)).sub (fun _ ha => (((((((ha.start.cons ha (t := 1) rfl).cons ha (t := 2) rfl).cons ha (t := 4) rfl).cons ha (t := 6) rfl).cons ha (t := 7) rfl).cons ha (t := 8) rfl).cons ha (t := 9) rfl))
    ·
     skip
     refine wlOn rfl rfl ?_
     refine wlVal (opFieldAddr rfl fo30_0) rfl ?_
     refine wlOn rfl rfl ?_
     refine wlVal (opLoadOne (v := (.int .i64 x32.seq)) rfl (hB.cell (i := 0) rfl (by simp [Mark.cells, Stand.cells])) one3) rfl ?_
     refine wlOn rfl rfl ?_
     refine wlVal (opFieldAddr rfl fo30_0) rfl ?_
     refine wlOn rfl rfl ?_
     refine wlVal (opLoadOne (v := (.int .i64 o2.seq)) rfl (hB.cell (i := 1) rfl (by simp [Mark.cells, Stand.cells])) one3) rfl ?_
     refine wlOn rfl rfl ?_
     refine wlVal (opGtr rfl rfl) rfl ?_
     refine wlVal (opPickF rfl rfl) rfl ?_
     refine wlVal (opMove rfl) rfl ?_
     cases h43 : decide (o2.seq < x32.seq)
     ·
      skip
      refine wlOn rfl rfl ?_
      refine wlVal (opFieldAddr rfl fo30_0) rfl ?_
      refine wlOn rfl rfl ?_
      refine wlVal (opLoadOne (v := (.int .i64 x32.seq)) rfl (hB.cell (i := 0) rfl (by simp [Mark.cells, Stand.cells])) one3) rfl ?_
      refine wlOn rfl rfl ?_
      refine wlVal (opFieldAddr rfl fo30_0) rfl ?_
      refine wlOn rfl rfl ?_
      refine wlVal (opLoadOne (v := (.int .i64 o2.seq)) rfl (hB.cell (i := 1) rfl (by simp [Mark.cells, Stand.cells])) one3) rfl ?_
      refine wlOn rfl rfl ?_
      refine wlVal (opEql rfl rfl) rfl ?_
      refine wlOn rfl rfl ?_
      refine wlVal (opMove rfl) rfl ?_
      cases h44 : x32.seq == o2.seq
      ·
       skip
       refine wlOff rfl rfl rfl rfl ?_
       refine wlOff rfl rfl rfl rfl ?_
       refine wlOff rfl rfl rfl rfl ?_
       refine wlOff rfl rfl rfl rfl ?_
       refine wlOff rfl rfl rfl rfl ?_
       refine wlOn rfl rfl ?_
       refine wlVal (opPickF rfl rfl) rfl ?_
       refine wlVal (opPickF rfl rfl) rfl ?_
       refine wlThen ?_
       refine wcCondF rfl ?_
       refine wcSkip ?_
       refine wcOf ?_
       refine wcRegion ?_
       refine wlVal (opMove rfl) rfl ?_
       refine wlVal (opIncr rfl rfl (incr_ok (of_decide_eq_true h31) hs20.le)) rfl ?_
       refine wlVal (opAssign rfl) rfl ?_
       refine wlRound ?_
       exact (IH1 (j + 1, o2, true) _ _ ⟨hC, hB.tail, hs2, hl, hs20, hs22, hs24, hr16, (by rw [← hJ, drop_get hx33]; simp only [List.cons_append, bestG, true_and, better, h41, h42, h43, h44, Bool.not_true, Bool.not_false, Bool.true_or, Bool.false_or, Bool.true_and, Bool.false_and, Bool.and_true, Bool.and_false, Bool.or_true, Bool.or_false, cond_true, cond_false])⟩ (by have := of_decide_eq_true h10; have := of_decide_eq_true h31; simp; omega)).sub (fun _ ha => (((((((ha.start.cons ha (t := 1) rfl).cons ha (t := 2) rfl).cons ha (t := 4) rfl).cons ha (t := 6) rfl).cons ha (t := 7) rfl).cons ha (t := 8) rfl).cons ha (t := 9) rfl))
      ·
       skip
       refine wlOn rfl rfl ?_
       refine wlVal (opFieldAddr rfl fo30_1) rfl ?_
       refine wlOn rfl rfl ?_
       refine wlVal (opLoadRow (cs := x32.dig.cells) rfl (hB.range (i := 0) (m := 32) rfl (by simp [Mark.cells, Stand.cells])) row28 (by simp [Mark.cells, Stand.cells])) rfl ?_
       refine wlOn rfl rfl ?_
       refine wlVal (opFieldAddr rfl fo30_1) rfl ?_
       refine wlOn rfl rfl ?_
       refine wlVal (opLoadRow (cs := o2.dig.cells) rfl (hB.range (i := 1) (m := 32) rfl (by simp [Mark.cells, Stand.cells])) row28 (by simp [Mark.cells, Stand.cells])) rfl ?_
       refine wlOn rfl rfl ?_
       refine wlCallS hC hB rfl co57 rfl rfl (rless_ret _ _ hC.holds x32.dig o2.dig) ?_; intro w hk hC hB
       refine wlOn rfl rfl ?_
       refine wlVal (opPickT rfl rfl) rfl ?_
       refine wlVal (opPickF rfl rfl) rfl ?_
       refine wlThen ?_
       cases h45 : (lessB x32.dig.l o2.dig.l)
       ·
        skip
        refine wcCondF rfl ?_
        refine wcSkip ?_
        refine wcOf ?_
        refine wcRegion ?_
        refine wlVal (opMove rfl) rfl ?_
        refine wlVal (opIncr rfl rfl (incr_ok (of_decide_eq_true h31) hs20.le)) rfl ?_
        refine wlVal (opAssign rfl) rfl ?_
        refine wlRound ?_
        exact (IH1 (j + 1, o2, true) _ _ ⟨hC, hB.tail, hs2, hl, hs20, hs22, hs24, hr16, (by rw [← hJ, drop_get hx33]; simp only [List.cons_append, bestG, true_and, better, h41, h42, h43, h44, h45, Bool.not_true, Bool.not_false, Bool.true_or, Bool.false_or, Bool.true_and, Bool.false_and, Bool.and_true, Bool.and_false, Bool.or_true, Bool.or_false, cond_true, cond_false])⟩ (by have := of_decide_eq_true h10; have := of_decide_eq_true h31; simp; omega)).sub (fun _ ha => (((((((ha.start.cons ha (t := 1) rfl).cons ha (t := 2) rfl).cons ha (t := 4) rfl).cons ha (t := 6) rfl).cons ha (t := 7) rfl).cons ha (t := 8) rfl).cons ha (t := 9) rfl))
       ·
        skip
        refine wcCondT rfl ?_
        refine wcSeq (wcRegion ?_)
        refine wlVal (opLoadRow (cs := x32.cells) rfl (hB.range (i := 0) (m := 33) rfl (by simp [Mark.cells, Stand.cells])) row30 (by simp [Mark.cells, Stand.cells])) rfl ?_
        refine wlStore 1 (vs := x32.cells) (cs := o2.cells) (cs' := x32.cells) hC hB rfl rfl rfl sz30 rfl (by simp [Mark.cells, Stand.cells]) (by simp [Mark.cells, Stand.cells, Value.oneCell']) (by simp [Mark.cells, Stand.cells]) (by simp [Mark.cells, Stand.cells]) rfl ?_; intro w hC hB
        refine wlThen (wcRegion ?_)
        refine wlVal (opAssign rfl) rfl ?_
        refine wlNil ?_
        refine wcOf ?_
        refine wcRegion ?_
        refine wlVal (opMove rfl) rfl ?_
        refine wlVal (opIncr rfl rfl (incr_ok (of_decide_eq_true h31) hs20.le)) rfl ?_
        refine wlVal (opAssign rfl) rfl ?_
        refine wlRound ?_
        exact (IH1 (j + 1, x32, true) _ _ ⟨hC, hB.tail, hs2, hl, hs20, hs22, hs24, hr16, (by rw [← hJ, drop_get hx33]; simp only [List.cons_append, bestG, true_and, better, h41, h42, h43, h44, h45, Bool.not_true, Bool.not_false, Bool.true_or, Bool.false_or, Bool.true_and, Bool.false_and, Bool.and_true, Bool.and_false, Bool.or_true, Bool.or_false, cond_true, cond_false])⟩ (by have := of_decide_eq_true h10; have := of_decide_eq_true h31; simp; omega)).sub (fun _ ha => (((((((ha.start.cons ha (t := 1) rfl).cons ha (t := 2) rfl).cons ha (t := 4) rfl).cons ha (t := 6) rfl).cons ha (t := 7) rfl).cons ha (t := 8) rfl).cons ha (t := 9) rfl))
     ·
      skip
      refine wlOff rfl rfl rfl rfl ?_
      refine wlOff rfl rfl rfl rfl ?_
      refine wlOff rfl rfl rfl rfl ?_
      refine wlOff rfl rfl rfl rfl ?_
      refine wlOff rfl rfl rfl rfl ?_
      refine wlOff rfl rfl rfl rfl ?_
      refine wlOffU rfl rfl rfl ?_
      refine wlOffU rfl rfl rfl ?_
      refine wlOffU rfl rfl rfl ?_
      refine wlOffU rfl rfl rfl ?_
      refine wlOffU rfl rfl rfl ?_
      refine wlOff rfl rfl rfl rfl ?_
      refine wlVal (opPickT rfl rfl) rfl ?_
      refine wlThen ?_
      refine wcCondT rfl ?_
      refine wcSeq (wcRegion ?_)
      refine wlVal (opLoadRow (cs := x32.cells) rfl (hB.range (i := 0) (m := 33) rfl (by simp [Mark.cells, Stand.cells])) row30 (by simp [Mark.cells, Stand.cells])) rfl ?_
      refine wlStore 1 (vs := x32.cells) (cs := o2.cells) (cs' := x32.cells) hC hB rfl rfl rfl sz30 rfl (by simp [Mark.cells, Stand.cells]) (by simp [Mark.cells, Stand.cells, Value.oneCell']) (by simp [Mark.cells, Stand.cells]) (by simp [Mark.cells, Stand.cells]) rfl ?_; intro w hC hB
      refine wlThen (wcRegion ?_)
      refine wlVal (opAssign rfl) rfl ?_
      refine wlNil ?_
      refine wcOf ?_
      refine wcRegion ?_
      refine wlVal (opMove rfl) rfl ?_
      refine wlVal (opIncr rfl rfl (incr_ok (of_decide_eq_true h31) hs20.le)) rfl ?_
      refine wlVal (opAssign rfl) rfl ?_
      refine wlRound ?_
      exact (IH1 (j + 1, x32, true) _ _ ⟨hC, hB.tail, hs2, hl, hs20, hs22, hs24, hr16, (by rw [← hJ, drop_get hx33]; simp only [List.cons_append, bestG, true_and, better, h41, h42, h43, Bool.not_true, Bool.not_false, Bool.true_or, Bool.false_or, Bool.true_and, Bool.false_and, Bool.and_true, Bool.and_false, Bool.or_true, Bool.or_false, cond_true, cond_false])⟩ (by have := of_decide_eq_true h10; have := of_decide_eq_true h31; have := of_decide_eq_true h43; simp; omega)).sub (fun _ ha => (((((((ha.start.cons ha (t := 1) rfl).cons ha (t := 2) rfl).cons ha (t := 4) rfl).cons ha (t := 6) rfl).cons ha (t := 7) rfl).cons ha (t := 8) rfl).cons ha (t := 9) rfl))

end Go.Proofs.Ytbhkoipmojdkhaa
