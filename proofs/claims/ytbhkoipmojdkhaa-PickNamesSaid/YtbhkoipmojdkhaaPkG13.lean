/- What functions of the pick seat return, part 13. No condition. -/
import Derived.Test.YtbhkoipmojdkhaaPkG12
set_option linter.all false
namespace Go.Proofs.Ytbhkoipmojdkhaa
open Go Go.Gx Go.RowKit
theorem beq_of_bne {a b : Int} {x : Bool} (h : (a != b) = x) : (a == b) = !x := by subst h; simp [bne]
theorem so58 : structOk Try.prog 58 [(0, 1), (1, 32), (33, 1)] = true := by kernel_rfl
theorem co58 : callOk Try.prog 58 = true := by kernel_rfl
theorem co59 : callOk Try.prog 59 = true := by kernel_rfl
theorem rat_ret (G0 : Gh) (w0 : World) (hw : Holds G0 w0) (csc : List Value) (c : Crew) (hc : Rp.Is G0 csc c) (vl : Value) (l : List Change) (hl : Sl G0 vl l) (sq : Int) :
  RetS Try.prog 33 #[.agg csc.toArray, vl, .int .i64 sq] G0 w0 (.tuple #[(.agg ((atI (Council.mk (most c) (some_ c) l) sq).1).cells.toArray), (.bool ((atI (Council.mk (most c) (some_ c) l) sq).2))]) := by
 have hC := Cx.refl hw
 have hB : Bxs G0 w0 w0.heap.size [] := Bxs.nil _ _ _
 obtain ⟨v1, rfl, hs2⟩ := Crew.opIs hc
 obtain ⟨A3, cap4, rfl⟩ := hs2.form
 obtain ⟨A5, cap6, rfl⟩ := hl.form
 refine callsOf Try.func33 rfl _ Try.ntmps33 rfl _ (argsCons (argsCons (argsCons argsNil (t := 0) rfl) (t := 1) rfl) (t := 2) rfl) ?_; intro Q0 hQ
 refine wcSeq (wcRegion ?_)
 refine wlBox (cs := [(.int .i64 c.faults), (.slice A3 c.nodes.length cap4)]) hC hB rfl rfl rfl ?_; intro b7 w hk hC hB
 refine wlAlloc hC hB zero30 rfl ?_; intro b8 w hk hC hB
 refine wlVal (opAssign rfl) rfl ?_
 refine wlThen (wcSeq (wcRegion ?_))
 refine wlVal (opBuild (ps := []) (cs := ((.int .i64 0) :: (Dig.zero.cells ++ ((.int .i64 0) :: [])))) so58 zero58 rfl rfl (by simp [buildCells, Value.cells])) rfl ?_
 refine wlAlloc hC hB zero58 rfl ?_; intro b9 w hk hC hB
 refine wlStore 0 (vs := ((.int .i64 0) :: (Dig.zero.cells ++ ((.int .i64 0) :: [])))) (cs := ((.int .i64 0) :: (Dig.zero.cells ++ ((.int .i64 0) :: [])))) (cs' := ((.int .i64 0) :: (Dig.zero.cells ++ ((.int .i64 0) :: [])))) hC hB rfl rfl rfl sz58 rfl (by simp [Mark.cells, Stand.cells]) (by simp [Mark.cells, Stand.cells, Value.oneCell']) (by simp [Mark.cells, Stand.cells]) (by simp [Mark.cells, Stand.cells]) rfl ?_; intro w hC hB
 refine wlVal (opAssign rfl) rfl ?_
 refine wlThen (wcSeq (wcRegion ?_))
 refine wlVal (opAssign rfl) rfl ?_
 refine wlThen (wcSeq (wcSeq (wcRegion ?_)))
 refine wlVal (opAssign rfl) rfl ?_
 refine wlThen ?_
 refine wcBlock ?_
 refine WC.sub (wrInd (ι := Nat × Stand × Bool × Nat) (fun i => match i with | (k, o, ok, n) => l.length - k) (fun i G w => match i with | (k, o, ok, n) => Cx w0 G0 G w ∧ Bxs G w w0.heap.size [(b9, 58, o.cells), (b8, 30, ((.int .i64 0) :: (Dig.zero.cells ++ []))), (b7, 24, [(.int .i64 c.faults), (.slice A3 c.nodes.length cap4)])] ∧ Sl G (.slice A3 c.nodes.length cap4) c.nodes ∧ Sl G (.slice A5 l.length cap6) l ∧ n ≤ k ∧ n + (l.drop k).countP (fun x => at3B sq x) = l.countP (fun x => at3B sq x) ∧ bestG (fun x => at1B sq (Council.mk (most c) (some_ c) l) x) (fun a b => orI [cmpI a.view b.view, cmpB b.dig.l a.dig.l]) ((l.drop k).flatMap (·.p)) o ok = bestG (fun x => at1B sq (Council.mk (most c) (some_ c) l) x) (fun a b => orI [cmpI a.view b.view, cmpB b.dig.l a.dig.l]) (l.flatMap (·.p)) default false) (fun i => match i with | (k, o, ok, n) => ((((((((Env.nil.put 1 (.slice A5 l.length cap6)).put 2 (.int .i64 sq)).put 3 (.pointer (some ⟨b7, 0, none⟩))).put 6 (.pointer (some ⟨b8, 0, none⟩))).put 8 (.pointer (some ⟨b9, 0, none⟩))).put 9 (.bool ok)).put 10 (.int .i64 (((n : Nat) : Int)))).put 11 (.int .i64 (((k : Nat) : Int))))) ?_ (0, (Stand.mk 0 Dig.zero 0), false, 0) _ _ ⟨hC, hB, hs2, hl, (Nat.le_refl _), (by simp), rfl⟩) (fun _ ha => ((((((((ha.start.cons ha (t := 1) rfl).cons ha (t := 2) rfl).cons ha (t := 3) rfl).cons ha (t := 6) rfl).cons ha (t := 8) rfl).cons ha (t := 9) rfl).cons ha (t := 10) rfl).cons ha (t := 11) rfl))
 rintro ⟨k, o, ok, n⟩ G w N0 IH0 ⟨hC, hB, hs2, hl, hn, hN, hI⟩
 show WC _ _ _ _ ((((((((Env.nil.put 1 (.slice A5 l.length cap6)).put 2 (.int .i64 sq)).put 3 (.pointer (some ⟨b7, 0, none⟩))).put 6 (.pointer (some ⟨b8, 0, none⟩))).put 8 (.pointer (some ⟨b9, 0, none⟩))).put 9 (.bool ok)).put 10 (.int .i64 (((n : Nat) : Int)))).put 11 (.int .i64 (((k : Nat) : Int)))) w
 refine wcSeq (wcSeq (wcRegion ?_))
 refine wlVal (opMove rfl) rfl ?_
 refine wlVal (opMove rfl) rfl ?_
 refine wlVal (opLen rfl isl25) rfl ?_
 refine wlVal (opLssN rfl rfl) rfl ?_
 refine wlThen ?_
 cases h10 : decide (k < l.length)
 ·
  skip
  refine wcCondF rfl ?_
  refine wcExit ?_
  refine wcOf ?_
  refine wcSeq (wcSeq (wcRegion ?_))
  refine wlVal (opMove rfl) rfl ?_
  refine wlThen ?_
  cases h11 : ok
  ·
   skip
   refine wcCondF rfl ?_
   refine wcSkip ?_
   refine wcOf ?_
   refine wcSeq (wcRegion ?_)
   refine wlVal (opMove rfl) rfl ?_
   refine wlVal (opBuild (ps := [(0, .tmp 87)]) (cs := ((.int .i64 sq) :: (Dig.zero.cells ++ []))) so30 zero30 rfl rfl (by simp [buildCells, Value.cells])) rfl ?_
   refine wlVal (opMove rfl) rfl ?_
   refine wlVal (opLoadRow (cs := [(.int .i64 c.faults), (.slice A3 c.nodes.length cap4)]) rfl (hB.range (i := 2) (m := 2) rfl rfl) row24 rfl) rfl ?_
   refine wlCallS hC hB rfl co32 rfl rfl (rmost_ret _ _ hC.holds _ c (Crew.mkIs (x := c) hs2)) ?_; intro w hk hC hB
   refine wlVal (opGeq rfl rfl) rfl ?_
   refine wlStore 1 (vs := ((.int .i64 sq) :: (Dig.zero.cells ++ []))) (cs := ((.int .i64 0) :: (Dig.zero.cells ++ []))) (cs' := ((.int .i64 sq) :: (Dig.zero.cells ++ []))) hC hB rfl rfl rfl sz30 rfl (by simp [Mark.cells, Stand.cells]) (by simp [Mark.cells, Stand.cells, Value.oneCell']) (by simp [Mark.cells, Stand.cells]) (by simp [Mark.cells, Stand.cells]) rfl ?_; intro w hC hB
   refine wlVal (opAssign rfl) rfl ?_
   refine wlThen ?_
   refine wcRet ?_
   exact fun ac_ ha => hQ _ _ _ (results2 ha rfl ⟨_, _, ((.int .i64 sq) :: (Dig.zero.cells ++ [])), rfl, row30, (by simp [Mark.cells, Stand.cells]), hB.range (i := 1) (m := 33) rfl (by simp [Mark.cells, Stand.cells]), rfl⟩ rfl) ha.df (endS hC hw (by have e := hI; rw [List.drop_eq_nil_of_le (Nat.le_of_not_lt (of_decide_eq_false h10))] at e; simp only [List.flatMap_nil, bestG] at e; have e2 := hN; rw [List.drop_eq_nil_of_le (Nat.le_of_not_lt (of_decide_eq_false h10))] at e2; simp only [List.countP_nil, Nat.add_zero] at e2; simp only [atI, atB, ← e, cnt, ← e2, h11, cond_true, cond_false, Mark.cells]))
  ·
   skip
   refine wcCondT rfl ?_
   refine wcSeq (wcRegion ?_)
   refine wlVal (opMove rfl) rfl ?_
   refine wlVal (opFieldAddr rfl fo58_1) rfl ?_
   refine wlVal (opLoadRow (cs := o.dig.cells) rfl (hB.range (i := 0) (m := 32) rfl (by simp [Mark.cells, Stand.cells])) row28 (by simp [Mark.cells, Stand.cells])) rfl ?_
   refine wlVal (opBuild (ps := [(0, .tmp 83), (1, .tmp 85)]) (cs := ((.int .i64 sq) :: (o.dig.cells ++ []))) so30 zero30 rfl rfl (by simp [buildCells, Value.cells])) rfl ?_
   refine wlStore 1 (vs := ((.int .i64 sq) :: (o.dig.cells ++ []))) (cs := ((.int .i64 0) :: (Dig.zero.cells ++ []))) (cs' := ((.int .i64 sq) :: (o.dig.cells ++ []))) hC hB rfl rfl rfl sz30 rfl (by simp [Mark.cells, Stand.cells]) (by simp [Mark.cells, Stand.cells, Value.oneCell']) (by simp [Mark.cells, Stand.cells]) (by simp [Mark.cells, Stand.cells]) rfl ?_; intro w hC hB
   refine wlVal (opAssign rfl) rfl ?_
   refine wlThen ?_
   refine wcRet ?_
   exact fun ac_ ha => hQ _ _ _ (results2 ha rfl ⟨_, _, ((.int .i64 sq) :: (o.dig.cells ++ [])), rfl, row30, (by simp [Mark.cells, Stand.cells]), hB.range (i := 1) (m := 33) rfl (by simp [Mark.cells, Stand.cells]), rfl⟩ rfl) ha.df (endS hC hw (by have e := hI; rw [List.drop_eq_nil_of_le (Nat.le_of_not_lt (of_decide_eq_false h10))] at e; simp only [List.flatMap_nil, bestG] at e; have e2 := hN; rw [List.drop_eq_nil_of_le (Nat.le_of_not_lt (of_decide_eq_false h10))] at e2; simp only [List.countP_nil, Nat.add_zero] at e2; simp only [atI, atB, ← e, cnt, ← e2, h11, cond_true, cond_false, Mark.cells]))
 ·
  skip
  refine wcCondT rfl ?_
  refine wcSkip ?_
  refine wcOf ?_
  refine wcSeq ?_
  refine wcBlock (wcSeq (wcSeq (wcRegion ?_)))
  refine wlVal (opMove rfl) rfl ?_
  refine wlVal (opMove rfl) rfl ?_
  obtain ⟨x12, hx13⟩ : ∃ y_, l[k]? = some y_ := ⟨_, List.getElem?_eq_getElem (of_decide_eq_true h10)⟩
  obtain ⟨b14, o15, row16, hA19, hr17, hi18⟩ := hl.elem hx13; subst hA19
  obtain ⟨v20, v22, v24, rfl, hs21, hs23, hs25⟩ := Change.opIs hi18
  obtain ⟨A26, cap27, rfl⟩ := hs21.form
  obtain ⟨A28, cap29, rfl⟩ := hs23.form
  obtain ⟨A30, cap31, rfl⟩ := hs25.form
  refine wlVal (opIndexAddr rfl rfl slo25 (of_decide_eq_true h10)) rfl ?_
  refine wlVal (opLoadRow (cs := [(.int .i64 x12.node), (.int .i64 x12.view), (.int .i64 x12.low), (.slice A26 x12.marks.length cap27), (.slice A28 x12.p.length cap29), (.slice A30 x12.q.length cap31)]) rfl (RowG.range hC.holds hr17) row49 rfl) rfl ?_
  refine wlVal (opMove rfl) rfl ?_
  refine wlCallS hC hB rfl co58 rfl rfl (silent_ret _ _ hC.holds _ x12 (Change.mkIs (x := x12) hs21 hs23 hs25) sq) ?_; intro w hk hC hB
  refine wlThen ?_
  cases h32 : (at3B sq x12)
  ·
   skip
   refine wcCondF rfl ?_
   refine wcSkip ?_
   refine wcOf ?_
   refine wcSeq (wcRegion ?_)
   refine wlVal (opAssign rfl) rfl ?_
   refine wlThen ?_
   refine wcBlock ?_
   refine WC.sub (wrInd (ι := Nat × Stand × Bool) (fun i => match i with | (j, o2, ok2) => x12.p.length - j) (fun i G w => match i with | (j, o2, ok2) => Cx w0 G0 G w ∧ Bxs G w w0.heap.size [(b9, 58, o2.cells), (b8, 30, ((.int .i64 0) :: (Dig.zero.cells ++ []))), (b7, 24, [(.int .i64 c.faults), (.slice A3 c.nodes.length cap4)])] ∧ Sl G (.slice A3 c.nodes.length cap4) c.nodes ∧ Sl G (.slice (some ⟨b14, o15, none⟩) l.length cap6) l ∧ Sl G (.slice A26 x12.marks.length cap27) x12.marks ∧ Sl G (.slice A28 x12.p.length cap29) x12.p ∧ Sl G (.slice A30 x12.q.length cap31) x12.q ∧ RowG G b14 (o15 + k * 6) [(.int .i64 x12.node), (.int .i64 x12.view), (.int .i64 x12.low), (.slice A26 x12.marks.length cap27), (.slice A28 x12.p.length cap29), (.slice A30 x12.q.length cap31)] ∧ bestG (fun x => at1B sq (Council.mk (most c) (some_ c) l) x) (fun a b => orI [cmpI a.view b.view, cmpB b.dig.l a.dig.l]) (x12.p.drop j ++ (l.drop (k + 1)).flatMap (·.p)) o2 ok2 = bestG (fun x => at1B sq (Council.mk (most c) (some_ c) l) x) (fun a b => orI [cmpI a.view b.view, cmpB b.dig.l a.dig.l]) (l.flatMap (·.p)) default false) (fun i => match i with | (j, o2, ok2) => (((((((((Env.nil.put 1 (.slice (some ⟨b14, o15, none⟩) l.length cap6)).put 2 (.int .i64 sq)).put 3 (.pointer (some ⟨b7, 0, none⟩))).put 6 (.pointer (some ⟨b8, 0, none⟩))).put 8 (.pointer (some ⟨b9, 0, none⟩))).put 9 (.bool ok2)).put 10 (.int .i64 (((n : Nat) : Int)))).put 11 (.int .i64 (((k : Nat) : Int)))).put 12 (.int .i64 (((j : Nat) : Int))))) ?_ (0, o, ok) _ _ ⟨hC, hB, hs2, hl, hs21, hs23, hs25, hr17, (by rw [← hI, drop_get hx13]; simp)⟩) (fun _ ha => (((((((((ha.start.cons ha (t := 1) rfl).cons ha (t := 2) rfl).cons ha (t := 3) rfl).cons ha (t := 6) rfl).cons ha (t := 8) rfl).cons ha (t := 9) rfl).cons ha (t := 10) rfl).cons ha (t := 11) rfl).cons ha (t := 12) rfl))
   rintro ⟨j, o2, ok2⟩ G w N1 IH1 ⟨hC, hB, hs2, hl, hs21, hs23, hs25, hr17, hJ⟩
   show WC _ _ _ _ (((((((((Env.nil.put 1 (.slice (some ⟨b14, o15, none⟩) l.length cap6)).put 2 (.int .i64 sq)).put 3 (.pointer (some ⟨b7, 0, none⟩))).put 6 (.pointer (some ⟨b8, 0, none⟩))).put 8 (.pointer (some ⟨b9, 0, none⟩))).put 9 (.bool ok2)).put 10 (.int .i64 (((n : Nat) : Int)))).put 11 (.int .i64 (((k : Nat) : Int)))).put 12 (.int .i64 (((j : Nat) : Int)))) w
   refine wcSeq (wcSeq (wcRegion ?_))
   refine wlVal (opMove rfl) rfl ?_
   refine wlVal (opMove rfl) rfl ?_
   refine wlVal (opMove rfl) rfl ?_
   refine wlVal (opIndexAddr rfl rfl slo25 (of_decide_eq_true h10)) rfl ?_
   refine wlVal (opFieldAddr rfl fo49_4) rfl ?_
   refine wlVal (opLoadOne (v := (.slice A28 x12.p.length cap29)) rfl (RowG.cell hC.holds hr17 (j := 4) rfl) one47) rfl ?_
   refine wlVal (opLen rfl isl47) rfl ?_
   refine wlVal (opLssN rfl rfl) rfl ?_
   refine wlThen ?_
   cases h33 : decide (j < x12.p.length)
   ·
    skip
    refine wcCondF rfl ?_
    refine wcExit ?_
    refine wcOf ?_
    refine wcRegion ?_
    refine wlVal (opMove rfl) rfl ?_
    refine wlVal (opIncr rfl rfl (incr_ok (of_decide_eq_true h10) hl.le)) rfl ?_
    refine wlVal (opAssign rfl) rfl ?_
    refine wlRound ?_
    exact (IH0 (k + 1, o2, ok2, n) _ _ ⟨hC, hB, hs2, hl, (by omega), (by rw [← hN, drop_get hx13]; simp only [List.countP_cons, h32]; simp; try omega), (by rw [← hJ, List.drop_eq_nil_of_le (Nat.le_of_not_lt (of_decide_eq_false h33))]; simp)⟩ (by have := of_decide_eq_true h10; simp; omega)).sub (fun _ ha => ((((((((ha.start.cons ha (t := 1) rfl).cons ha (t := 2) rfl).cons ha (t := 3) rfl).cons ha (t := 6) rfl).cons ha (t := 8) rfl).cons ha (t := 9) rfl).cons ha (t := 10) rfl).cons ha (t := 11) rfl))
   ·
    skip
    refine wcCondT rfl ?_
    refine wcSkip ?_
    refine wcOf ?_
    refine wcSeq ?_
    refine wcBlock (wcSeq (wcRegion ?_))
    refine wlVal (opMove rfl) rfl ?_
    refine wlVal (opMove rfl) rfl ?_
    refine wlVal (opIndexAddr rfl rfl slo25 (of_decide_eq_true h10)) rfl ?_
    refine wlVal (opFieldAddr rfl fo49_4) rfl ?_
    refine wlVal (opLoadOne (v := (.slice A28 x12.p.length cap29)) rfl (RowG.cell hC.holds hr17 (j := 4) rfl) one47) rfl ?_
    refine wlVal (opMove rfl) rfl ?_
    obtain ⟨x34, hx35⟩ : ∃ y_, x12.p[j]? = some y_ := ⟨_, List.getElem?_eq_getElem (of_decide_eq_true h33)⟩
    obtain ⟨b36, o37, row38, hA41, hr39, hi40⟩ := hs23.elem hx35; subst hA41
    obtain rfl := hi40
    refine wlVal (opIndexAddr rfl rfl slo47 (of_decide_eq_true h33)) rfl ?_
    refine wlVal (opLoadRow (cs := x34.cells) rfl (RowG.range hC.holds hr39) row58 (by simp [Mark.cells, Stand.cells])) rfl ?_
    refine wlAlloc hC hB zero58 rfl ?_; intro b42 w hk hC hB
    refine wlStore 0 (vs := x34.cells) (cs := ((.int .i64 0) :: (Dig.zero.cells ++ ((.int .i64 0) :: [])))) (cs' := x34.cells) hC hB rfl rfl rfl sz58 rfl (by simp [Mark.cells, Stand.cells]) (by simp [Mark.cells, Stand.cells, Value.oneCell']) (by simp [Mark.cells, Stand.cells]) (by simp [Mark.cells, Stand.cells]) rfl ?_; intro w hC hB
    refine wlThen (wcSeq (wcSeq (wcRegion ?_)))
    refine wlVal (opFieldAddr rfl fo58_0) rfl ?_
    refine wlVal (opLoadOne (v := (.int .i64 x34.seq)) rfl (hB.cell (i := 0) rfl (by simp [Mark.cells, Stand.cells])) one3) rfl ?_
    refine wlVal (opMove rfl) rfl ?_
    refine wlVal (opNeq rfl rfl) rfl ?_
    refine wlVal (opMove rfl) rfl ?_
    cases h43 : x34.seq != sq
    ·
     skip
     refine wlOn rfl rfl ?_
     refine wlVal (opLoadRow (cs := [(.int .i64 c.faults), (.slice A3 c.nodes.length cap4)]) rfl (hB.range (i := 3) (m := 2) rfl rfl) row24 rfl) rfl ?_
     refine wlOn rfl rfl ?_
     refine wlVal (opMove rfl) rfl ?_
     refine wlOn rfl rfl ?_
     refine wlVal (opLoadRow (cs := x34.cells) rfl (hB.range (i := 0) (m := 34) rfl (by simp [Mark.cells, Stand.cells])) row58 (by simp [Mark.cells, Stand.cells])) rfl ?_
     refine wlOn rfl rfl ?_
     refine wlCallS hC hB rfl co59 rfl rfl (rstands_ret _ _ hC.holds _ c (Crew.mkIs (x := c) hs2) _ l hl x34) ?_; intro w hk hC hB
     refine wlOn rfl rfl ?_
     refine wlVal (opNot rfl) rfl ?_
     refine wlVal (opPickF rfl rfl) rfl ?_
     refine wlThen ?_
     cases h44 : (standsB (Council.mk (most c) (some_ c) l) x34)
     ·
      skip
      refine wcCondT rfl ?_
      refine wcExit ?_
      refine wcOf ?_
      refine wcRegion ?_
      refine wlVal (opMove rfl) rfl ?_
      refine wlVal (opIncr rfl rfl (incr_ok (of_decide_eq_true h33) hs23.le)) rfl ?_
      refine wlVal (opAssign rfl) rfl ?_
      refine wlRound ?_
      exact (IH1 (j + 1, o2, ok2) _ _ ⟨hC, hB.tail, hs2, hl, hs21, hs23, hs25, hr17, (by rw [← hJ, drop_get hx35]; simp only [List.cons_append, bestG, at1B, better, h32, beq_of_bne h43, h44, Bool.not_true, Bool.not_false, Bool.true_or, Bool.false_or, Bool.true_and, Bool.false_and, Bool.and_true, Bool.and_false, Bool.or_true, Bool.or_false, cond_true, cond_false])⟩ (by have := of_decide_eq_true h10; have := of_decide_eq_true h33; simp; omega)).sub (fun _ ha => (((((((((ha.start.cons ha (t := 1) rfl).cons ha (t := 2) rfl).cons ha (t := 3) rfl).cons ha (t := 6) rfl).cons ha (t := 8) rfl).cons ha (t := 9) rfl).cons ha (t := 10) rfl).cons ha (t := 11) rfl).cons ha (t := 12) rfl))
     ·
      skip
      refine wcCondF rfl ?_
      refine wcSkip ?_
      refine wcOf ?_
      refine wcSeq (wcRegion ?_)
      refine wlVal (opMove rfl) rfl ?_
      refine wlVal (opNot rfl) rfl ?_
      refine wlVal (opMove rfl) rfl ?_
      cases h45 : ok2
      ·
       skip
       refine wlOff rfl rfl rfl rfl ?_
       refine wlOff rfl rfl rfl rfl ?_
       refine wlOff rfl rfl rfl rfl ?_
       refine wlOff rfl rfl rfl rfl ?_
       refine wlOff rfl rfl rfl rfl ?_
       refine wlVal (opPickT rfl rfl) rfl ?_
       refine wlVal (opMove rfl) rfl ?_
       refine wlOff rfl rfl rfl rfl ?_
       refine wlOff rfl rfl rfl rfl ?_
       refine wlOff rfl rfl rfl rfl ?_
       refine wlOff rfl rfl rfl rfl ?_
       refine wlOff rfl rfl rfl rfl ?_
       refine wlOff rfl rfl rfl rfl ?_
       refine wlOffU rfl rfl rfl ?_
       refine wlOffU rfl rfl rfl ?_
       refine wlOffU rfl rfl rfl ?_
       refine wlOffU rfl rfl rfl ?_
       refine wlOffU rfl rfl rfl ?_
       refine wlOff rfl rfl rfl rfl ?_
       refine wlVal (opPickT rfl rfl) rfl ?_
       refine wlThen ?_
       refine wcCondT rfl ?_
       refine wcSeq (wcRegion ?_)
       refine wlVal (opLoadRow (cs := x34.cells) rfl (hB.range (i := 0) (m := 34) rfl (by simp [Mark.cells, Stand.cells])) row58 (by simp [Mark.cells, Stand.cells])) rfl ?_
       refine wlStore 1 (vs := x34.cells) (cs := o2.cells) (cs' := x34.cells) hC hB rfl rfl rfl sz58 rfl (by simp [Mark.cells, Stand.cells]) (by simp [Mark.cells, Stand.cells, Value.oneCell']) (by simp [Mark.cells, Stand.cells]) (by simp [Mark.cells, Stand.cells]) rfl ?_; intro w hC hB
       refine wlThen (wcRegion ?_)
       refine wlVal (opAssign rfl) rfl ?_
       refine wlNil ?_
       refine wcOf ?_
       refine wcRegion ?_
       refine wlVal (opMove rfl) rfl ?_
       refine wlVal (opIncr rfl rfl (incr_ok (of_decide_eq_true h33) hs23.le)) rfl ?_
       refine wlVal (opAssign rfl) rfl ?_
       refine wlRound ?_
       exact (IH1 (j + 1, x34, true) _ _ ⟨hC, hB.tail, hs2, hl, hs21, hs23, hs25, hr17, (by rw [← hJ, drop_get hx35]; simp only [List.cons_append, bestG, at1B, better, h32, beq_of_bne h43, h44, h45, Bool.not_true, Bool.not_false, Bool.true_or, Bool.false_or, Bool.true_and, Bool.false_and, Bool.and_true, Bool.and_false, Bool.or_true, Bool.or_false, cond_true, cond_false])⟩ (by have := of_decide_eq_true h10; have := of_decide_eq_true h33; simp; omega)).sub (fun _ ha => (((((((((ha.start.cons ha (t := 1) rfl).cons ha (t := 2) rfl).cons ha (t := 3) rfl).cons ha (t := 6) rfl).cons ha (t := 8) rfl).cons ha (t := 9) rfl).cons ha (t := 10) rfl).cons ha (t := 11) rfl).cons ha (t := 12) rfl))
      ·
       skip
       refine wlOn rfl rfl ?_
       refine wlVal (opFieldAddr rfl fo58_2) rfl ?_
       refine wlOn rfl rfl ?_
       refine wlVal (opLoadOne (v := (.int .i64 x34.view)) rfl (hB.cell (i := 0) rfl (by simp [Mark.cells, Stand.cells])) one3) rfl ?_
       refine wlOn rfl rfl ?_
       refine wlVal (opFieldAddr rfl fo58_2) rfl ?_
       refine wlOn rfl rfl ?_
       refine wlVal (opLoadOne (v := (.int .i64 o2.view)) rfl (hB.cell (i := 1) rfl (by simp [Mark.cells, Stand.cells])) one3) rfl ?_
       refine wlOn rfl rfl ?_
       refine wlVal (opGtr rfl rfl) rfl ?_
       refine wlVal (opPickF rfl rfl) rfl ?_
       refine wlVal (opMove rfl) rfl ?_
       cases h46 : decide (o2.view < x34.view)
       ·
        skip
        refine wlOn rfl rfl ?_
        refine wlVal (opFieldAddr rfl fo58_2) rfl ?_
        refine wlOn rfl rfl ?_
        refine wlVal (opLoadOne (v := (.int .i64 x34.view)) rfl (hB.cell (i := 0) rfl (by simp [Mark.cells, Stand.cells])) one3) rfl ?_
        refine wlOn rfl rfl ?_
        refine wlVal (opFieldAddr rfl fo58_2) rfl ?_
        refine wlOn rfl rfl ?_
        refine wlVal (opLoadOne (v := (.int .i64 o2.view)) rfl (hB.cell (i := 1) rfl (by simp [Mark.cells, Stand.cells])) one3) rfl ?_
        refine wlOn rfl rfl ?_
        refine wlVal (opEql rfl rfl) rfl ?_
        refine wlOn rfl rfl ?_
        refine wlVal (opMove rfl) rfl ?_
        cases h47 : x34.view == o2.view
        ·
         skip
         refine wlOff rfl rfl rfl rfl ?_
         refine wlOff rfl rfl rfl rfl ?_
         refine wlOff rfl rfl rfl rfl ?_
         refine wlOff rfl rfl rfl rfl ?_
         refine wlOff rfl rfl rfl rfl ?_
         refine wlOn rfl rfl ?_
         refine wlVal (opPickF rfl rfl) rfl ?_
         refine wlVal (opPickF rfl rfl) rfl ?_
         refine wlThen ?_
         refine wcCondF rfl ?_
         refine wcSkip ?_
         refine wcOf ?_
         refine wcRegion ?_
         refine wlVal (opMove rfl) rfl ?_
         refine wlVal (opIncr rfl rfl (incr_ok (of_decide_eq_true h33) hs23.le)) rfl ?_
         refine wlVal (opAssign rfl) rfl ?_
         refine wlRound ?_
         exact (IH1 (j + 1, o2, true) _ _ ⟨hC, hB.tail, hs2, hl, hs21, hs23, hs25, hr17, (by rw [← hJ, drop_get hx35]; simp only [List.cons_append, bestG, at1B, better, h32, beq_of_bne h43, h44, h45, h46, h47, Bool.not_true, Bool.not_false, Bool.true_or, Bool.false_or, Bool.true_and, Bool.false_and, Bool.and_true, Bool.and_false, Bool.or_true, Bool.or_false, cond_true, cond_false])⟩ (by have := of_decide_eq_true h10; have := of_decide_eq_true h33; simp; omega)).sub (fun _ ha => (((((((((ha.start.cons ha (t := 1) rfl).cons ha (t := 2) rfl).cons ha (t := 3) rfl).cons ha (t := 6) rfl).cons ha (t := 8) rfl).cons ha (t := 9) rfl).cons ha (t := 10) rfl).cons ha (t := 11) rfl).cons ha (t := 12) rfl))
        ·
         skip
         refine wlOn rfl rfl ?_
         refine wlVal (opFieldAddr rfl fo58_1) rfl ?_
         refine wlOn rfl rfl ?_
         refine wlVal (opLoadRow (cs := x34.dig.cells) rfl (hB.range (i := 0) (m := 32) rfl (by simp [Mark.cells, Stand.cells])) row28 (by simp [Mark.cells, Stand.cells])) rfl ?_
         refine wlOn rfl rfl ?_
         refine wlVal (opFieldAddr rfl fo58_1) rfl ?_
         refine wlOn rfl rfl ?_
         refine wlVal (opLoadRow (cs := o2.dig.cells) rfl (hB.range (i := 1) (m := 32) rfl (by simp [Mark.cells, Stand.cells])) row28 (by simp [Mark.cells, Stand.cells])) rfl ?_
         refine wlOn rfl rfl ?_
         refine wlCallS hC hB rfl co57 rfl rfl (rless_ret _ _ hC.holds x34.dig o2.dig) ?_; intro w hk hC hB
         refine wlOn rfl rfl ?_
         refine wlVal (opPickT rfl rfl) rfl ?_
         refine wlVal (opPickF rfl rfl) rfl ?_
         refine wlThen ?_
         cases h48 : (lessB x34.dig.l o2.dig.l)
         ·
          skip
          refine wcCondF rfl ?_
          refine wcSkip ?_
          refine wcOf ?_
          refine wcRegion ?_
          refine wlVal (opMove rfl) rfl ?_
          refine wlVal (opIncr rfl rfl (incr_ok (of_decide_eq_true h33) hs23.le)) rfl ?_
          refine wlVal (opAssign rfl) rfl ?_
          refine wlRound ?_
          exact (IH1 (j + 1, o2, true) _ _ ⟨hC, hB.tail, hs2, hl, hs21, hs23, hs25, hr17, (by rw [← hJ, drop_get hx35]; simp only [List.cons_append, bestG, at1B, better, h32, beq_of_bne h43, h44, h45, h46, h47, h48, Bool.not_true, Bool.not_false, Bool.true_or, Bool.false_or, Bool.true_and, Bool.false_and, Bool.and_true, Bool.and_false, Bool.or_true, Bool.or_false, cond_true, cond_false])⟩ (by have := of_decide_eq_true h10; have := of_decide_eq_true h33; simp; omega)).sub (fun _ ha => (((((((((ha.start.cons ha (t := 1) rfl).cons ha (t := 2) rfl).cons ha (t := 3) rfl).cons ha (t := 6) rfl).cons ha (t := 8) rfl).cons ha (t := 9) rfl).cons ha (t := 10) rfl).cons ha (t := 11) rfl).cons ha (t := 12) rfl))
         ·
          skip
          refine wcCondT rfl ?_
          refine wcSeq (wcRegion ?_)
          refine wlVal (opLoadRow (cs := x34.cells) rfl (hB.range (i := 0) (m := 34) rfl (by simp [Mark.cells, Stand.cells])) row58 (by simp [Mark.cells, Stand.cells])) rfl ?_
          refine wlStore 1 (vs := x34.cells) (cs := o2.cells) (cs' := x34.cells) hC hB rfl rfl rfl sz58 rfl (by simp [Mark.cells, Stand.cells]) (by simp [Mark.cells, Stand.cells, Value.oneCell']) (by simp [Mark.cells, Stand.cells]) (by simp [Mark.cells, Stand.cells]) rfl ?_; intro w hC hB
          refine wlThen (wcRegion ?_)
          refine wlVal (opAssign rfl) rfl ?_
          refine wlNil ?_
          refine wcOf ?_
          refine wcRegion ?_
          refine wlVal (opMove rfl) rfl ?_
          refine wlVal (opIncr rfl rfl (incr_ok (of_decide_eq_true h33) hs23.le)) rfl ?_
          refine wlVal (opAssign rfl) rfl ?_
          refine wlRound ?_
          exact (IH1 (j + 1, x34, true) _ _ ⟨hC, hB.tail, hs2, hl, hs21, hs23, hs25, hr17, (by rw [← hJ, drop_get hx35]; simp only [List.cons_append, bestG, at1B, better, h32, beq_of_bne h43, h44, h45, h46, h47, h48, Bool.not_true, Bool.not_false, Bool.true_or, Bool.false_or, Bool.true_and, Bool.false_and, Bool.and_true, Bool.and_false, Bool.or_true, Bool.or_false, cond_true, cond_false])⟩ (by have := of_decide_eq_true h10; have := of_decide_eq_true h33; simp; omega)).sub (fun _ ha => (((((((((ha.start.cons ha (t := 1) rfl).cons ha (t := 2) rfl).cons ha (t := 3) rfl).cons ha (t := 6) rfl).cons ha (t := 8) rfl).cons ha (t := 9) rfl).cons ha (t := 10) rfl).cons ha (t := 11) rfl).cons ha (t := 12) rfl))
       ·
        skip
        refine wlOff rfl rfl rfl rfl ?_
        refine wlOff rfl rfl rfl rfl ?_
        refine wlOff rfl rfl rfl rfl ?_
        refine wlOff rfl rfl rfl rfl ?_
        refine wlOff rfl rfl rfl rfl ?_
        refine wlOff rfl rfl rfl rfl ?_
        refine wlOffU rfl rfl rfl ?_
        refine wlOffU rfl rfl rfl ?_
        refine wlOffU rfl rfl rfl ?_
        refine wlOffU rfl rfl rfl ?_
        refine wlOffU rfl rfl rfl ?_
        refine wlOff rfl rfl rfl rfl ?_
        refine wlVal (opPickT rfl rfl) rfl ?_
        refine wlThen ?_
        refine wcCondT rfl ?_
        refine wcSeq (wcRegion ?_)
        refine wlVal (opLoadRow (cs := x34.cells) rfl (hB.range (i := 0) (m := 34) rfl (by simp [Mark.cells, Stand.cells])) row58 (by simp [Mark.cells, Stand.cells])) rfl ?_
        refine wlStore 1 (vs := x34.cells) (cs := o2.cells) (cs' := x34.cells) hC hB rfl rfl rfl sz58 rfl (by simp [Mark.cells, Stand.cells]) (by simp [Mark.cells, Stand.cells, Value.oneCell']) (by simp [Mark.cells, Stand.cells]) (by simp [Mark.cells, Stand.cells]) rfl ?_; intro w hC hB
        refine wlThen (wcRegion ?_)
        refine wlVal (opAssign rfl) rfl ?_
        refine wlNil ?_
        refine wcOf ?_
        refine wcRegion ?_
        refine wlVal (opMove rfl) rfl ?_
        refine wlVal (opIncr rfl rfl (incr_ok (of_decide_eq_true h33) hs23.le)) rfl ?_
        refine wlVal (opAssign rfl) rfl ?_
        refine wlRound ?_
        exact (IH1 (j + 1, x34, true) _ _ ⟨hC, hB.tail, hs2, hl, hs21, hs23, hs25, hr17, (by rw [← hJ, drop_get hx35]; simp only [List.cons_append, bestG, at1B, better, h32, beq_of_bne h43, h44, h45, h46, Bool.not_true, Bool.not_false, Bool.true_or, Bool.false_or, Bool.true_and, Bool.false_and, Bool.and_true, Bool.and_false, Bool.or_true, Bool.or_false, cond_true, cond_false])⟩ (by have := of_decide_eq_true h10; have := of_decide_eq_true h33; have := of_decide_eq_true h46; simp; omega)).sub (fun _ ha => (((((((((ha.start.cons ha (t := 1) rfl).cons ha (t := 2) rfl).cons ha (t := 3) rfl).cons ha (t := 6) rfl).cons ha (t := 8) rfl).cons ha (t := 9) rfl).cons ha (t := 10) rfl).cons ha (t := 11) rfl).cons ha (t := 12) rfl))
    ·
     skip
     refine wlOff rfl rfl rfl rfl ?_
     refine wlOff rfl rfl rfl rfl ?_
     refine wlOff rfl rfl rfl rfl ?_
     refine wlOff rfl rfl rfl rfl ?_
     refine wlOff rfl rfl rfl rfl ?_
     refine wlVal (opPickT rfl rfl) rfl ?_
     refine wlThen ?_
     refine wcCondT rfl ?_
     refine wcExit ?_
     refine wcOf ?_
     refine wcRegion ?_
     refine wlVal (opMove rfl) rfl ?_
     refine wlVal (opIncr rfl rfl (incr_ok (of_decide_eq_true h33) hs23.le)) rfl ?_
     refine wlVal (opAssign rfl) rfl ?_
     refine wlRound ?_
     exact (IH1 (j + 1, o2, ok2) _ _ ⟨hC, hB.tail, hs2, hl, hs21, hs23, hs25, hr17, (by rw [← hJ, drop_get hx35]; simp only [List.cons_append, bestG, at1B, better, h32, beq_of_bne h43, Bool.not_true, Bool.not_false, Bool.true_or, Bool.false_or, Bool.true_and, Bool.false_and, Bool.and_true, Bool.and_false, Bool.or_true, Bool.or_false, cond_true, cond_false])⟩ (by have := of_decide_eq_true h10; have := of_decide_eq_true h33; simp; omega)).sub (fun _ ha => (((((((((ha.start.cons ha (t := 1) rfl).cons ha (t := 2) rfl).cons ha (t := 3) rfl).cons ha (t := 6) rfl).cons ha (t := 8) rfl).cons ha (t := 9) rfl).cons ha (t := 10) rfl).cons ha (t := 11) rfl).cons ha (t := 12) rfl))
  ·
   skip
   refine wcCondT rfl ?_
   refine wcRegion ?_
   refine wlVal (opMove rfl) rfl ?_
   refine wlVal (opIncr rfl rfl (by have := hl.le; unfold maxL at this; have := of_decide_eq_true h10; omega)) rfl ?_
   refine wlVal (opAssign rfl) rfl ?_
   refine wlThen (wcSeq (wcRegion ?_))
   refine wlVal (opAssign rfl) rfl ?_
   refine wlThen ?_
   refine wcBlock ?_
   refine WC.sub (wrInd (ι := Nat × Stand × Bool) (fun i => match i with | (j, o2, ok2) => x12.p.length - j) (fun i G w => match i with | (j, o2, ok2) => Cx w0 G0 G w ∧ Bxs G w w0.heap.size [(b9, 58, o2.cells), (b8, 30, ((.int .i64 0) :: (Dig.zero.cells ++ []))), (b7, 24, [(.int .i64 c.faults), (.slice A3 c.nodes.length cap4)])] ∧ Sl G (.slice A3 c.nodes.length cap4) c.nodes ∧ Sl G (.slice (some ⟨b14, o15, none⟩) l.length cap6) l ∧ Sl G (.slice A26 x12.marks.length cap27) x12.marks ∧ Sl G (.slice A28 x12.p.length cap29) x12.p ∧ Sl G (.slice A30 x12.q.length cap31) x12.q ∧ RowG G b14 (o15 + k * 6) [(.int .i64 x12.node), (.int .i64 x12.view), (.int .i64 x12.low), (.slice A26 x12.marks.length cap27), (.slice A28 x12.p.length cap29), (.slice A30 x12.q.length cap31)] ∧ bestG (fun x => at1B sq (Council.mk (most c) (some_ c) l) x) (fun a b => orI [cmpI a.view b.view, cmpB b.dig.l a.dig.l]) (x12.p.drop j ++ (l.drop (k + 1)).flatMap (·.p)) o2 ok2 = bestG (fun x => at1B sq (Council.mk (most c) (some_ c) l) x) (fun a b => orI [cmpI a.view b.view, cmpB b.dig.l a.dig.l]) (l.flatMap (·.p)) default false) (fun i => match i with | (j, o2, ok2) => (((((((((Env.nil.put 1 (.slice (some ⟨b14, o15, none⟩) l.length cap6)).put 2 (.int .i64 sq)).put 3 (.pointer (some ⟨b7, 0, none⟩))).put 6 (.pointer (some ⟨b8, 0, none⟩))).put 8 (.pointer (some ⟨b9, 0, none⟩))).put 9 (.bool ok2)).put 10 (.int .i64 (((n + 1 : Nat) : Int)))).put 11 (.int .i64 (((k : Nat) : Int)))).put 12 (.int .i64 (((j : Nat) : Int))))) ?_ (0, o, ok) _ _ ⟨hC, hB, hs2, hl, hs21, hs23, hs25, hr17, (by rw [← hI, drop_get hx13]; simp)⟩) (fun _ ha => (((((((((ha.start.cons ha (t := 1) rfl).cons ha (t := 2) rfl).cons ha (t := 3) rfl).cons ha (t := 6) rfl).cons ha (t := 8) rfl).cons ha (t := 9) rfl).cons ha (t := 10) rfl).cons ha (t := 11) rfl).cons ha (t := 12) rfl))
   rintro ⟨j, o2, ok2⟩ G w N1 IH1 ⟨hC, hB, hs2, hl, hs21, hs23, hs25, hr17, hJ⟩
   show WC _ _ _ _ (((((((((Env.nil.put 1 (.slice (some ⟨b14, o15, none⟩) l.length cap6)).put 2 (.int .i64 sq)).put 3 (.pointer (some ⟨b7, 0, none⟩))).put 6 (.pointer (some ⟨b8, 0, none⟩))).put 8 (.pointer (some ⟨b9, 0, none⟩))).put 9 (.bool ok2)).put 10 (.int .i64 (((n + 1 : Nat) : Int)))).put 11 (.int .i64 (((k : Nat) : Int)))).put 12 (.int .i64 (((j : Nat) : Int)))) w
   refine wcSeq (wcSeq (wcRegion ?_))
   refine wlVal (opMove rfl) rfl ?_
   refine wlVal (opMove rfl) rfl ?_
   refine wlVal (opMove rfl) rfl ?_
   refine wlVal (opIndexAddr rfl rfl slo25 (of_decide_eq_true h10)) rfl ?_
   refine wlVal (opFieldAddr rfl fo49_4) rfl ?_
   refine wlVal (opLoadOne (v := (.slice A28 x12.p.length cap29)) rfl (RowG.cell hC.holds hr17 (j := 4) rfl) one47) rfl ?_
   refine wlVal (opLen rfl isl47) rfl ?_
   refine wlVal (opLssN rfl rfl) rfl ?_
   refine wlThen ?_
   cases h49 : decide (j < x12.p.length)
   ·
    skip
    refine wcCondF rfl ?_
    refine wcExit ?_
    refine wcOf ?_
    refine wcRegion ?_
    refine wlVal (opMove rfl) rfl ?_
    refine wlVal (opIncr rfl rfl (incr_ok (of_decide_eq_true h10) hl.le)) rfl ?_
    refine wlVal (opAssign rfl) rfl ?_
    refine wlRound ?_
    exact (IH0 (k + 1, o2, ok2, n + 1) _ _ ⟨hC, hB, hs2, hl, (by omega), (by rw [← hN, drop_get hx13]; simp only [List.countP_cons, h32]; simp; try omega), (by rw [← hJ, List.drop_eq_nil_of_le (Nat.le_of_not_lt (of_decide_eq_false h49))]; simp)⟩ (by have := of_decide_eq_true h10; simp; omega)).sub (fun _ ha => ((((((((ha.start.cons ha (t := 1) rfl).cons ha (t := 2) rfl).cons ha (t := 3) rfl).cons ha (t := 6) rfl).cons ha (t := 8) rfl).cons ha (t := 9) rfl).cons ha (t := 10) rfl).cons ha (t := 11) rfl))
   ·
    skip
    refine wcCondT rfl ?_
    refine wcSkip ?_
    refine wcOf ?_
    refine wcSeq ?_
    refine wcBlock (wcSeq (wcRegion ?_))
    refine wlVal (opMove rfl) rfl ?_
    refine wlVal (opMove rfl) rfl ?_
    refine wlVal (opIndexAddr rfl rfl slo25 (of_decide_eq_true h10)) rfl ?_
    refine wlVal (opFieldAddr rfl fo49_4) rfl ?_
    refine wlVal (opLoadOne (v := (.slice A28 x12.p.length cap29)) rfl (RowG.cell hC.holds hr17 (j := 4) rfl) one47) rfl ?_
    refine wlVal (opMove rfl) rfl ?_
    obtain ⟨x50, hx51⟩ : ∃ y_, x12.p[j]? = some y_ := ⟨_, List.getElem?_eq_getElem (of_decide_eq_true h49)⟩
    obtain ⟨b52, o53, row54, hA57, hr55, hi56⟩ := hs23.elem hx51; subst hA57
    obtain rfl := hi56
    refine wlVal (opIndexAddr rfl rfl slo47 (of_decide_eq_true h49)) rfl ?_
    refine wlVal (opLoadRow (cs := x50.cells) rfl (RowG.range hC.holds hr55) row58 (by simp [Mark.cells, Stand.cells])) rfl ?_
    refine wlAlloc hC hB zero58 rfl ?_; intro b58 w hk hC hB
    refine wlStore 0 (vs := x50.cells) (cs := ((.int .i64 0) :: (Dig.zero.cells ++ ((.int .i64 0) :: [])))) (cs' := x50.cells) hC hB rfl rfl rfl sz58 rfl (by simp [Mark.cells, Stand.cells]) (by simp [Mark.cells, Stand.cells, Value.oneCell']) (by simp [Mark.cells, Stand.cells]) (by simp [Mark.cells, Stand.cells]) rfl ?_; intro w hC hB
    refine wlThen (wcSeq (wcSeq (wcRegion ?_)))
    refine wlVal (opFieldAddr rfl fo58_0) rfl ?_
    refine wlVal (opLoadOne (v := (.int .i64 x50.seq)) rfl (hB.cell (i := 0) rfl (by simp [Mark.cells, Stand.cells])) one3) rfl ?_
    refine wlVal (opMove rfl) rfl ?_
    refine wlVal (opNeq rfl rfl) rfl ?_
    refine wlVal (opMove rfl) rfl ?_
    cases h59 : x50.seq != sq
    ·
     skip
     refine wlOn rfl rfl ?_
     refine wlVal (opLoadRow (cs := [(.int .i64 c.faults), (.slice A3 c.nodes.length cap4)]) rfl (hB.range (i := 3) (m := 2) rfl rfl) row24 rfl) rfl ?_
     refine wlOn rfl rfl ?_
     refine wlVal (opMove rfl) rfl ?_
     refine wlOn rfl rfl ?_
     refine wlVal (opLoadRow (cs := x50.cells) rfl (hB.range (i := 0) (m := 34) rfl (by simp [Mark.cells, Stand.cells])) row58 (by simp [Mark.cells, Stand.cells])) rfl ?_
     refine wlOn rfl rfl ?_
     refine wlCallS hC hB rfl co59 rfl rfl (rstands_ret _ _ hC.holds _ c (Crew.mkIs (x := c) hs2) _ l hl x50) ?_; intro w hk hC hB
     refine wlOn rfl rfl ?_
     refine wlVal (opNot rfl) rfl ?_
     refine wlVal (opPickF rfl rfl) rfl ?_
     refine wlThen ?_
     cases h60 : (standsB (Council.mk (most c) (some_ c) l) x50)
     ·
      skip
      refine wcCondT rfl ?_
      refine wcExit ?_
      refine wcOf ?_
      refine wcRegion ?_
      refine wlVal (opMove rfl) rfl ?_
      refine wlVal (opIncr rfl rfl (incr_ok (of_decide_eq_true h49) hs23.le)) rfl ?_
      refine wlVal (opAssign rfl) rfl ?_
      refine wlRound ?_
      exact (IH1 (j + 1, o2, ok2) _ _ ⟨hC, hB.tail, hs2, hl, hs21, hs23, hs25, hr17, (by rw [← hJ, drop_get hx51]; simp only [List.cons_append, bestG, at1B, better, h32, beq_of_bne h59, h60, Bool.not_true, Bool.not_false, Bool.true_or, Bool.false_or, Bool.true_and, Bool.false_and, Bool.and_true, Bool.and_false, Bool.or_true, Bool.or_false, cond_true, cond_false])⟩ (by have := of_decide_eq_true h10; have := of_decide_eq_true h49; simp; omega)).sub (fun _ ha => (((((((((ha.start.cons ha (t := 1) rfl).cons ha (t := 2) rfl).cons ha (t := 3) rfl).cons ha (t := 6) rfl).cons ha (t := 8) rfl).cons ha (t := 9) rfl).cons ha (t := 10) rfl).cons ha (t := 11) rfl).cons ha (t := 12) rfl))
     ·
      skip
      refine wcCondF rfl ?_
      refine wcSkip ?_
      refine wcOf ?_
      refine wcSeq (wcRegion ?_)
      refine wlVal (opMove rfl) rfl ?_
      refine wlVal (opNot rfl) rfl ?_
      refine wlVal (opMove rfl) rfl ?_
      cases h61 : ok2
      ·
       skip
       refine wlOff rfl rfl rfl rfl ?_
       refine wlOff rfl rfl rfl rfl ?_
       refine wlOff rfl rfl rfl rfl ?_
       refine wlOff rfl rfl rfl rfl ?_
       refine wlOff rfl rfl rfl rfl ?_
       refine wlVal (opPickT rfl rfl) rfl ?_
       refine wlVal (opMove rfl) rfl ?_
       refine wlOff rfl rfl rfl rfl ?_
       refine wlOff rfl rfl rfl rfl ?_
       refine wlOff rfl rfl rfl rfl ?_
       refine wlOff rfl rfl rfl rfl ?_
       refine wlOff rfl rfl rfl rfl ?_
       refine wlOff rfl rfl rfl rfl ?_
       refine wlOffU rfl rfl rfl ?_
       refine wlOffU rfl rfl rfl ?_
       refine wlOffU rfl rfl rfl ?_
       refine wlOffU rfl rfl rfl ?_
       refine wlOffU rfl rfl rfl ?_
       refine wlOff rfl rfl rfl rfl ?_
       refine wlVal (opPickT rfl rfl) rfl ?_
       refine wlThen ?_
       refine wcCondT rfl ?_
       refine wcSeq (wcRegion ?_)
       refine wlVal (opLoadRow (cs := x50.cells) rfl (hB.range (i := 0) (m := 34) rfl (by simp [Mark.cells, Stand.cells])) row58 (by simp [Mark.cells, Stand.cells])) rfl ?_
       refine wlStore 1 (vs := x50.cells) (cs := o2.cells) (cs' := x50.cells) hC hB rfl rfl rfl sz58 rfl (by simp [Mark.cells, Stand.cells]) (by simp [Mark.cells, Stand.cells, Value.oneCell']) (by simp [Mark.cells, Stand.cells]) (by simp [Mark.cells, Stand.cells]) rfl ?_; intro w hC hB
       refine wlThen (wcRegion ?_)
       refine wlVal (opAssign rfl) rfl ?_
       refine wlNil ?_
       refine wcOf ?_
       refine wcRegion ?_
       refine wlVal (opMove rfl) rfl ?_
       refine wlVal (opIncr rfl rfl (incr_ok (of_decide_eq_true h49) hs23.le)) rfl ?_
       refine wlVal (opAssign rfl) rfl ?_
       refine wlRound ?_
       exact (IH1 (j + 1, x50, true) _ _ ⟨hC, hB.tail, hs2, hl, hs21, hs23, hs25, hr17, (by rw [← hJ, drop_get hx51]; simp only [List.cons_append, bestG, at1B, better, h32, beq_of_bne h59, h60, h61, Bool.not_true, Bool.not_false, Bool.true_or, Bool.false_or, Bool.true_and, Bool.false_and, Bool.and_true, Bool.and_false, Bool.or_true, Bool.or_false, cond_true, cond_false])⟩ (by have := of_decide_eq_true h10; have := of_decide_eq_true h49; simp; omega)).sub (fun _ ha => (((((((((ha.start.cons ha (t := 1) rfl).cons ha (t := 2) rfl).cons ha (t := 3) rfl).cons ha (t := 6) rfl).cons ha (t := 8) rfl).cons ha (t := 9) rfl).cons ha (t := 10) rfl).cons ha (t := 11) rfl).cons ha (t := 12) rfl))
      ·
       skip
       refine wlOn rfl rfl ?_
       refine wlVal (opFieldAddr rfl fo58_2) rfl ?_
       refine wlOn rfl rfl ?_
       refine wlVal (opLoadOne (v := (.int .i64 x50.view)) rfl (hB.cell (i := 0) rfl (by simp [Mark.cells, Stand.cells])) one3) rfl ?_
       refine wlOn rfl rfl ?_
       refine wlVal (opFieldAddr rfl fo58_2) rfl ?_
       refine wlOn rfl rfl ?_
       refine wlVal (opLoadOne (v := (.int .i64 o2.view)) rfl (hB.cell (i := 1) rfl (by simp [Mark.cells, Stand.cells])) one3) rfl ?_
       refine wlOn rfl rfl ?_
       refine wlVal (opGtr rfl rfl) rfl ?_
       refine wlVal (opPickF rfl rfl) rfl ?_
       refine wlVal (opMove rfl) rfl ?_
       cases h62 : decide (o2.view < x50.view)
       ·
        skip
        refine wlOn rfl rfl ?_
        refine wlVal (opFieldAddr rfl fo58_2) rfl ?_
        refine wlOn rfl rfl ?_
        refine wlVal (opLoadOne (v := (.int .i64 x50.view)) rfl (hB.cell (i := 0) rfl (by simp [Mark.cells, Stand.cells])) one3) rfl ?_
        refine wlOn rfl rfl ?_
        refine wlVal (opFieldAddr rfl fo58_2) rfl ?_
        refine wlOn rfl rfl ?_
        refine wlVal (opLoadOne (v := (.int .i64 o2.view)) rfl (hB.cell (i := 1) rfl (by simp [Mark.cells, Stand.cells])) one3) rfl ?_
        refine wlOn rfl rfl ?_
        refine wlVal (opEql rfl rfl) rfl ?_
        refine wlOn rfl rfl ?_
        refine wlVal (opMove rfl) rfl ?_
        cases h63 : x50.view == o2.view
        ·
         skip
         refine wlOff rfl rfl rfl rfl ?_
         refine wlOff rfl rfl rfl rfl ?_
         refine wlOff rfl rfl rfl rfl ?_
         refine wlOff rfl rfl rfl rfl ?_
         refine wlOff rfl rfl rfl rfl ?_
         refine wlOn rfl rfl ?_
         refine wlVal (opPickF rfl rfl) rfl ?_
         refine wlVal (opPickF rfl rfl) rfl ?_
         refine wlThen ?_
         refine wcCondF rfl ?_
         refine wcSkip ?_
         refine wcOf ?_
         refine wcRegion ?_
         refine wlVal (opMove rfl) rfl ?_
         refine wlVal (opIncr rfl rfl (incr_ok (of_decide_eq_true h49) hs23.le)) rfl ?_
         refine wlVal (opAssign rfl) rfl ?_
         refine wlRound ?_
         exact (IH1 (j + 1, o2, true) _ _ ⟨hC, hB.tail, hs2, hl, hs21, hs23, hs25, hr17, (by rw [← hJ, drop_get hx51]; simp only [List.cons_append, bestG, at1B, better, h32, beq_of_bne h59, h60, h61, h62, h63, Bool.not_true, Bool.not_false, Bool.true_or, Bool.false_or, Bool.true_and, Bool.false_and, Bool.and_true, Bool.and_false, Bool.or_true, Bool.or_false, cond_true, cond_false])⟩ (by have := of_decide_eq_true h10; have := of_decide_eq_true h49; simp; omega)).sub (fun _ ha => (((((((((ha.start.cons ha (t := 1) rfl).cons ha (t := 2) rfl).cons ha (t := 3) rfl).cons ha (t := 6) rfl).cons ha (t := 8) rfl).cons ha (t := 9) rfl).cons ha (t := 10) rfl).cons ha (t := 11) rfl).cons ha (t := 12) rfl))
        ·
         skip
         refine wlOn rfl rfl ?_
         refine wlVal (opFieldAddr rfl fo58_1) rfl ?_
         refine wlOn rfl rfl ?_
         refine wlVal (opLoadRow (cs := x50.dig.cells) rfl (hB.range (i := 0) (m := 32) rfl (by simp [Mark.cells, Stand.cells])) row28 (by simp [Mark.cells, Stand.cells])) rfl ?_
         refine wlOn rfl rfl ?_
         refine wlVal (opFieldAddr rfl fo58_1) rfl ?_
         refine wlOn rfl rfl ?_
         refine wlVal (opLoadRow (cs := o2.dig.cells) rfl (hB.range (i := 1) (m := 32) rfl (by simp [Mark.cells, Stand.cells])) row28 (by simp [Mark.cells, Stand.cells])) rfl ?_
         refine wlOn rfl rfl ?_
         refine wlCallS hC hB rfl co57 rfl rfl (rless_ret _ _ hC.holds x50.dig o2.dig) ?_; intro w hk hC hB
         refine wlOn rfl rfl ?_
         refine wlVal (opPickT rfl rfl) rfl ?_
         refine wlVal (opPickF rfl rfl) rfl ?_
         refine wlThen ?_
         cases h64 : (lessB x50.dig.l o2.dig.l)
         ·
          skip
          refine wcCondF rfl ?_
          refine wcSkip ?_
          refine wcOf ?_
          refine wcRegion ?_
          refine wlVal (opMove rfl) rfl ?_
          refine wlVal (opIncr rfl rfl (incr_ok (of_decide_eq_true h49) hs23.le)) rfl ?_
          refine wlVal (opAssign rfl) rfl ?_
          refine wlRound ?_
          exact (IH1 (j + 1, o2, true) _ _ ⟨hC, hB.tail, hs2, hl, hs21, hs23, hs25, hr17, (by rw [← hJ, drop_get hx51]; simp only [List.cons_append, bestG, at1B, better, h32, beq_of_bne h59, h60, h61, h62, h63, h64, Bool.not_true, Bool.not_false, Bool.true_or, Bool.false_or, Bool.true_and, Bool.false_and, Bool.and_true, Bool.and_false, Bool.or_true, Bool.or_false, cond_true, cond_false])⟩ (by have := of_decide_eq_true h10; have := of_decide_eq_true h49; simp; omega)).sub (fun _ ha => (((((((((ha.start.cons ha (t := 1) rfl).cons ha (t := 2) rfl).cons ha (t := 3) rfl).cons ha (t := 6) rfl).cons ha (t := 8) rfl).cons ha (t := 9) rfl).cons ha (t := 10) rfl).cons ha (t := 11) rfl).cons ha (t := 12) rfl))
         ·
          skip
          refine wcCondT rfl ?_
          refine wcSeq (wcRegion ?_)
          refine wlVal (opLoadRow (cs := x50.cells) rfl (hB.range (i := 0) (m := 34) rfl (by simp [Mark.cells, Stand.cells])) row58 (by simp [Mark.cells, Stand.cells])) rfl ?_
          refine wlStore 1 (vs := x50.cells) (cs := o2.cells) (cs' := x50.cells) hC hB rfl rfl rfl sz58 rfl (by simp [Mark.cells, Stand.cells]) (by simp [Mark.cells, Stand.cells, Value.oneCell']) (by simp [Mark.cells, Stand.cells]) (by simp [Mark.cells, Stand.cells]) rfl ?_; intro w hC hB
          refine wlThen (wcRegion ?_)
          refine wlVal (opAssign rfl) rfl ?_
          refine wlNil ?_
          refine wcOf ?_
          refine wcRegion ?_
          refine wlVal (opMove rfl) rfl ?_
          refine wlVal (opIncr rfl rfl (incr_ok (of_decide_eq_true h49) hs23.le)) rfl ?_
          refine wlVal (opAssign rfl) rfl ?_
          refine wlRound ?_
          exact (IH1 (j + 1, x50, true) _ _ ⟨hC, hB.tail, hs2, hl, hs21, hs23, hs25, hr17, (by rw [← hJ, drop_get hx51]; simp only [List.cons_append, bestG, at1B, better, h32, beq_of_bne h59, h60, h61, h62, h63, h64, Bool.not_true, Bool.not_false, Bool.true_or, Bool.false_or, Bool.true_and, Bool.false_and, Bool.and_true, Bool.and_false, Bool.or_true, Bool.or_false, cond_true, cond_false])⟩ (by have := of_decide_eq_true h10; have := of_decide_eq_true h49; simp; omega)).sub (fun _ ha => (((((((((ha.start.cons ha (t := 1) rfl).cons ha (t := 2) rfl).cons ha (t := 3) rfl).cons ha (t := 6) rfl).cons ha (t := 8) rfl).cons ha (t := 9) rfl).cons ha (t := 10) rfl).cons ha (t := 11) rfl).cons ha (t := 12) rfl))
       ·
        skip
        refine wlOff rfl rfl rfl rfl ?_
        refine wlOff rfl rfl rfl rfl ?_
        refine wlOff rfl rfl rfl rfl ?_
        refine wlOff rfl rfl rfl rfl ?_
        refine wlOff rfl rfl rfl rfl ?_
        refine wlOff rfl rfl rfl rfl ?_
        refine wlOffU rfl rfl rfl ?_
        refine wlOffU rfl rfl rfl ?_
        refine wlOffU rfl rfl rfl ?_
        refine wlOffU rfl rfl rfl ?_
        refine wlOffU rfl rfl rfl ?_
        refine wlOff rfl rfl rfl rfl ?_
        refine wlVal (opPickT rfl rfl) rfl ?_
        refine wlThen ?_
        refine wcCondT rfl ?_
        refine wcSeq (wcRegion ?_)
        refine wlVal (opLoadRow (cs := x50.cells) rfl (hB.range (i := 0) (m := 34) rfl (by simp [Mark.cells, Stand.cells])) row58 (by simp [Mark.cells, Stand.cells])) rfl ?_
        refine wlStore 1 (vs := x50.cells) (cs := o2.cells) (cs' := x50.cells) hC hB rfl rfl rfl sz58 rfl (by simp [Mark.cells, Stand.cells]) (by simp [Mark.cells, Stand.cells, Value.oneCell']) (by simp [Mark.cells, Stand.cells]) (by simp [Mark.cells, Stand.cells]) rfl ?_; intro w hC hB
        refine wlThen (wcRegion ?_)
        refine wlVal (opAssign rfl) rfl ?_
        refine wlNil ?_
        refine wcOf ?_
        refine wcRegion ?_
        refine wlVal (opMove rfl) rfl ?_
        refine wlVal (opIncr rfl rfl (incr_ok (of_decide_eq_true h49) hs23.le)) rfl ?_
        refine wlVal (opAssign rfl) rfl ?_
        refine wlRound ?_
        exact (IH1 (j + 1, x50, true) _ _ ⟨hC, hB.tail, hs2, hl, hs21, hs23, hs25, hr17, (by rw [← hJ, drop_get hx51]; simp only [List.cons_append, bestG, at1B, better, h32, beq_of_bne h59, h60, h61, h62, Bool.not_true, Bool.not_false, Bool.true_or, Bool.false_or, Bool.true_and, Bool.false_and, Bool.and_true, Bool.and_false, Bool.or_true, Bool.or_false, cond_true, cond_false])⟩ (by have := of_decide_eq_true h10; have := of_decide_eq_true h49; have := of_decide_eq_true h62; simp; omega)).sub (fun _ ha => (((((((((ha.start.cons ha (t := 1) rfl).cons ha (t := 2) rfl).cons ha (t := 3) rfl).cons ha (t := 6) rfl).cons ha (t := 8) rfl).cons ha (t := 9) rfl).cons ha (t := 10) rfl).cons ha (t := 11) rfl).cons ha (t := 12) rfl))
    ·
     skip
     refine wlOff rfl rfl rfl rfl ?_
     refine wlOff rfl rfl rfl rfl ?_
     refine wlOff rfl rfl rfl rfl ?_
     refine wlOff rfl rfl rfl rfl ?_
     refine wlOff rfl rfl rfl rfl ?_
     refine wlVal (opPickT rfl rfl) rfl ?_
     refine wlThen ?_
     refine wcCondT rfl ?_
     refine wcExit ?_
     refine wcOf ?_
     refine wcRegion ?_
     refine wlVal (opMove rfl) rfl ?_
     refine wlVal (opIncr rfl rfl (incr_ok (of_decide_eq_true h49) hs23.le)) rfl ?_
     refine wlVal (opAssign rfl) rfl ?_
     refine wlRound ?_
     exact (IH1 (j + 1, o2, ok2) _ _ ⟨hC, hB.tail, hs2, hl, hs21, hs23, hs25, hr17, (by rw [← hJ, drop_get hx51]; simp only [List.cons_append, bestG, at1B, better, h32, beq_of_bne h59, Bool.not_true, Bool.not_false, Bool.true_or, Bool.false_or, Bool.true_and, Bool.false_and, Bool.and_true, Bool.and_false, Bool.or_true, Bool.or_false, cond_true, cond_false])⟩ (by have := of_decide_eq_true h10; have := of_decide_eq_true h49; simp; omega)).sub (fun _ ha => (((((((((ha.start.cons ha (t := 1) rfl).cons ha (t := 2) rfl).cons ha (t := 3) rfl).cons ha (t := 6) rfl).cons ha (t := 8) rfl).cons ha (t := 9) rfl).cons ha (t := 10) rfl).cons ha (t := 11) rfl).cons ha (t := 12) rfl))

end Go.Proofs.Ytbhkoipmojdkhaa
