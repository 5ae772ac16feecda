/- What functions of the pick seat return, part 10. No condition. -/
import Derived.Test.YtbhkoipmojdkhaaPkG9
set_option linter.all false
namespace Go.Proofs.Ytbhkoipmojdkhaa
open Go Go.Gx Go.RowKit
theorem co32 : callOk Try.prog 32 = true := by kernel_rfl
theorem co70 : callOk Try.prog 70 = true := by kernel_rfl
theorem co71 : callOk Try.prog 71 = true := by kernel_rfl
theorem co72 : callOk Try.prog 72 = true := by kernel_rfl
theorem rstands_ret (G0 : Gh) (w0 : World) (hw : Holds G0 w0) (csc : List Value) (c : Crew) (hc : Rp.Is G0 csc c) (vl : Value) (l : List Change) (hl : Sl G0 vl l) (m : Stand) :
  RetS Try.prog 59 #[.agg csc.toArray, vl, .agg m.cells.toArray] G0 w0 (.bool (standsB (Council.mk (most c) (some_ c) l) m)) := by
 have hC := Cx.refl hw
 have hB : Bxs G0 w0 w0.heap.size [] := Bxs.nil _ _ _
 obtain ⟨v1, rfl, hs2⟩ := Crew.opIs hc
 obtain ⟨A3, cap4, rfl⟩ := hs2.form
 obtain ⟨A5, cap6, rfl⟩ := hl.form
 refine callsOf Try.func59 rfl _ Try.ntmps59 rfl _ (argsCons (argsCons (argsCons argsNil (t := 0) rfl) (t := 1) rfl) (t := 2) rfl) ?_; intro Q0 hQ
 refine wcSeq (wcRegion ?_)
 refine wlBox (cs := [(.int .i64 c.faults), (.slice A3 c.nodes.length cap4)]) hC hB rfl rfl rfl ?_; intro b7 w hk hC hB
 refine wlBox (cs := m.cells) hC hB rfl rfl rfl ?_; intro b8 w hk hC hB
 refine wlVal (opAssign rfl) rfl ?_
 refine wlThen (wcSeq (wcRegion ?_))
 refine wlVal (opAssign rfl) rfl ?_
 refine wlVal (opAssign rfl) rfl ?_
 refine wlThen (wcSeq (wcSeq (wcRegion ?_)))
 refine wlVal (opAssign rfl) rfl ?_
 refine wlThen ?_
 refine wcBlock ?_
 refine WC.sub (wrInd (ι := Nat × Nat × Nat) (fun i => match i with | (k, n, v) => l.length - k) (fun i G w => match i with | (k, n, v) => Cx w0 G0 G w ∧ Bxs G w w0.heap.size [(b8, 58, m.cells), (b7, 24, [(.int .i64 c.faults), (.slice A3 c.nodes.length cap4)])] ∧ Sl G (.slice A3 c.nodes.length cap4) c.nodes ∧ Sl G (.slice A5 l.length cap6) l ∧ n ≤ k ∧ v ≤ k ∧ n + (l.drop k).countP (st1B m) = l.countP (st1B m) ∧ v + (l.drop k).countP (st2B m) = l.countP (st2B m)) (fun i => match i with | (k, n, v) => ((((((Env.nil.put 1 (.slice A5 l.length cap6)).put 3 (.pointer (some ⟨b7, 0, none⟩))).put 5 (.pointer (some ⟨b8, 0, none⟩))).put 7 (.int .i64 (((n : Nat) : Int)))).put 8 (.int .i64 (((v : Nat) : Int)))).put 9 (.int .i64 (((k : Nat) : Int))))) ?_ (0, 0, 0) _ _ ⟨hC, hB, hs2, hl, (Nat.le_refl _), (Nat.le_refl _), (by simp), (by simp)⟩) (fun _ ha => ((((((ha.start.cons ha (t := 1) rfl).cons ha (t := 3) rfl).cons ha (t := 5) rfl).cons ha (t := 7) rfl).cons ha (t := 8) rfl).cons ha (t := 9) rfl))
 rintro ⟨k, n, v⟩ G w N0 IH0 ⟨hC, hB, hs2, hl, hn, hv, hI, hJ⟩
 show WC _ _ _ _ ((((((Env.nil.put 1 (.slice A5 l.length cap6)).put 3 (.pointer (some ⟨b7, 0, none⟩))).put 5 (.pointer (some ⟨b8, 0, none⟩))).put 7 (.int .i64 (((n : Nat) : Int)))).put 8 (.int .i64 (((v : Nat) : Int)))).put 9 (.int .i64 (((k : Nat) : Int)))) w
 refine wcSeq (wcSeq (wcRegion ?_))
 refine wlVal (opMove rfl) rfl ?_
 refine wlVal (opMove rfl) rfl ?_
 refine wlVal (opLen rfl isl25) rfl ?_
 refine wlVal (opLssN rfl rfl) rfl ?_
 refine wlThen ?_
 cases h9 : decide (k < l.length)
 ·
  skip
  refine wcCondF rfl ?_
  refine wcExit ?_
  refine wcOf ?_
  refine wcSeq (wcRegion ?_)
  refine wlVal (opMove rfl) rfl ?_
  refine wlVal (opLoadRow (cs := [(.int .i64 c.faults), (.slice A3 c.nodes.length cap4)]) rfl (hB.range (i := 1) (m := 2) rfl rfl) row24 rfl) rfl ?_
  refine wlCallS hC hB rfl co32 rfl rfl (rmost_ret _ _ hC.holds _ c (Crew.mkIs (x := c) hs2)) ?_; intro w hk hC hB
  refine wlVal (opGeq rfl rfl) rfl ?_
  refine wlVal (opMove rfl) rfl ?_
  cases h10 : decide ((most c) ≤ ((n : Nat) : Int))
  ·
   skip
   refine wlOff rfl rfl rfl rfl ?_
   refine wlOff rfl rfl rfl rfl ?_
   refine wlOff rfl rfl rfl rfl ?_
   refine wlOff rfl rfl rfl rfl ?_
   refine wlVal (opPickF rfl rfl) rfl ?_
   refine wlVal (opAssign rfl) rfl ?_
   refine wlThen ?_
   refine wcRet ?_
   exact fun ac_ ha => hQ _ _ _ (results1 ha rfl rfl) ha.df (endS hC hw (by have e1 := hI; have e2 := hJ; rw [List.drop_eq_nil_of_le (Nat.le_of_not_lt (of_decide_eq_false h9))] at e1 e2; simp only [List.countP_nil, Nat.add_zero] at e1 e2; simp only [standsB, cnt, ← e1, ← e2, h10, Bool.and_true, Bool.true_and, Bool.and_false, Bool.false_and]))
  ·
   skip
   refine wlOn rfl rfl ?_
   refine wlVal (opMove rfl) rfl ?_
   refine wlOn rfl rfl ?_
   refine wlVal (opLoadRow (cs := [(.int .i64 c.faults), (.slice A3 c.nodes.length cap4)]) rfl (hB.range (i := 1) (m := 2) rfl rfl) row24 rfl) rfl ?_
   refine wlOn rfl rfl ?_
   refine wlCallS hC hB rfl co70 rfl rfl (rsome_ret _ _ hC.holds _ c (Crew.mkIs (x := c) hs2)) ?_; intro w hk hC hB
   refine wlOn rfl rfl ?_
   refine wlVal (opGeq rfl rfl) rfl ?_
   refine wlVal (opPickT rfl rfl) rfl ?_
   refine wlVal (opAssign rfl) rfl ?_
   refine wlThen ?_
   refine wcRet ?_
   exact fun ac_ ha => hQ _ _ _ (results1 ha rfl rfl) ha.df (endS hC hw (by have e1 := hI; have e2 := hJ; rw [List.drop_eq_nil_of_le (Nat.le_of_not_lt (of_decide_eq_false h9))] at e1 e2; simp only [List.countP_nil, Nat.add_zero] at e1 e2; simp only [standsB, cnt, ← e1, ← e2, h10, Bool.and_true, Bool.true_and, Bool.and_false, Bool.false_and]))
 ·
  skip
  refine wcCondT rfl ?_
  refine wcSkip ?_
  refine wcOf ?_
  refine wcSeq ?_
  refine wcBlock (wcSeq (wcSeq ?_))
  obtain ⟨x11, hx12⟩ : ∃ y_, l[k]? = some y_ := ⟨_, List.getElem?_eq_getElem (of_decide_eq_true h9)⟩
  obtain ⟨b13, o14, row15, hA18, hr16, hi17⟩ := hl.elem hx12; subst hA18
  obtain ⟨v19, v21, v23, rfl, hs20, hs22, hs24⟩ := Change.opIs hi17
  obtain ⟨A25, cap26, rfl⟩ := hs20.form
  obtain ⟨A27, cap28, rfl⟩ := hs22.form
  obtain ⟨A29, cap30, rfl⟩ := hs24.form
  refine wcDraw fmix (by kernel_rfl) (by kernel_rfl) (vAt [(fun _ v_ => v_ = (.slice (some ⟨b13, o14, none⟩) l.length cap6)), (fun _ v_ => v_ = (.int .i64 (((k : Nat) : Int)))), (fun _ v_ => v_ = (.pointer (some ⟨b13, o14 + k * 6, none⟩))), (fun _ v_ => v_ = (.agg [(.int .i64 x11.node), (.int .i64 x11.view), (.int .i64 x11.low), (.slice A25 x11.marks.length cap26), (.slice A27 x11.p.length cap28), (.slice A29 x11.q.length cap30)].toArray)), (fun _ v_ => v_ = (.agg m.cells.toArray)), (fun _ v_ => v_ = (.bool ((st1B m x11))))]) (fun _ _ G' w => Cx w0 G0 G' w ∧ Bxs G' w w0.heap.size [(b8, 58, m.cells), (b7, 24, [(.int .i64 c.faults), (.slice A3 c.nodes.length cap4)])] ∧ GLe G G') G (vAt_mono ⟨fun _ _ _ _ h => h, fun _ _ _ _ h => h, fun _ _ _ _ h => h, fun _ _ _ _ h => h, fun _ _ _ _ h => h, fun _ _ _ _ h => h, trivial⟩) (fun _ _ => ⟨hC.drew, hB.drew, fun _ _ h => h⟩) ?_ ?_
  ·
   refine dsNone (j := 1) rfl ?_ ?_
   ·
    intro done G w ac_ hd hp hn ⟨hC, hB, hg⟩ hM
    have f1 : ac_.tmps[1]? = some (.slice (some ⟨b13, o14, none⟩) l.length cap6) := hM.old0 rfl rfl
    have hF := (hM.fr.add f1)
    exact OpVal.draw hF (opMove rfl) ⟨G, fun _ _ h => h, ⟨hC, hB, hg⟩, rfl⟩
   refine dsNone (j := 2) rfl ?_ ?_
   ·
    intro done G w ac_ hd hp hn ⟨hC, hB, hg⟩ hM
    have f9 : ac_.tmps[9]? = some (.int .i64 (((k : Nat) : Int))) := hM.old0 rfl rfl
    have hF := (hM.fr.add f9)
    exact OpVal.draw hF (opMove rfl) ⟨G, fun _ _ h => h, ⟨hC, hB, hg⟩, rfl⟩
   refine dsNone (j := 3) rfl ?_ ?_
   ·
    intro done G w ac_ hd hp hn ⟨hC, hB, hg⟩ hM
    have f16 := hM.eqv (s := 16) 0 rfl (hp 0 rfl) rfl rfl
    have f17 := hM.eqv (s := 17) 1 rfl (hp 1 rfl) rfl rfl
    have hF := ((hM.fr.add f16).add f17)
    exact OpVal.draw hF (opIndexAddr rfl rfl slo25 (of_decide_eq_true h9)) ⟨G, fun _ _ h => h, ⟨hC, hB, hg⟩, rfl⟩
   refine dsNone (j := 4) rfl ?_ ?_
   ·
    intro done G w ac_ hd hp hn ⟨hC, hB, hg⟩ hM
    replace hr16 := hr16.mono hg
    have f18 := hM.eqv (s := 18) 2 rfl (hp 2 rfl) rfl rfl
    have hF := (hM.fr.add f18)
    exact OpVal.draw hF (opLoadRow (cs := [(.int .i64 x11.node), (.int .i64 x11.view), (.int .i64 x11.low), (.slice A25 x11.marks.length cap26), (.slice A27 x11.p.length cap28), (.slice A29 x11.q.length cap30)]) rfl (RowG.range hC.holds hr16) row49 rfl) ⟨G, fun _ _ h => h, ⟨hC, hB, hg⟩, rfl⟩
   refine dsNone (j := 5) rfl ?_ ?_
   ·
    intro done G w ac_ hd hp hn ⟨hC, hB, hg⟩ hM
    have f5 : ac_.tmps[5]? = some (.pointer (some ⟨b8, 0, none⟩)) := hM.old0 rfl rfl
    have hF := (hM.fr.add f5)
    exact OpVal.draw hF (opLoadRow (cs := m.cells) rfl (hB.range (i := 0) (m := 34) rfl (by simp [Mark.cells, Stand.cells])) row58 (by simp [Mark.cells, Stand.cells])) ⟨G, fun _ _ h => h, ⟨hC, hB, hg⟩, rfl⟩
   refine dsNone (j := 6) rfl ?_ ?_
   ·
    intro done G w ac_ hd hp hn ⟨hC, hB, hg⟩ hM
    replace hs20 := hs20.mono hg
    replace hs22 := hs22.mono hg
    replace hs24 := hs24.mono hg
    have f19 := hM.eqv (s := 19) 3 rfl (hp 3 rfl) rfl rfl
    have f20 := hM.eqv (s := 20) 4 rfl (hp 4 rfl) rfl rfl
    have hF := ((hM.fr.add f19).add f20)
    exact drawCallS hF rfl co71 rfl (agrees_ret _ _ hC.holds _ x11 (Change.mkIs (x := x11) hs20 hs22 hs24) m) (fun w' hk => ⟨G, fun _ _ h => h, ⟨hC.trans hk, hB.ext hk, hg⟩, rfl⟩)
   exact dsNil
  ·
   intro done G w ac_ hall ⟨hC, hB, hg⟩ hM
   replace hs2 := hs2.mono hg
   replace hl := hl.mono hg
   replace hs20 := hs20.mono hg
   replace hs22 := hs22.mono hg
   replace hs24 := hs24.mono hg
   replace hr16 := hr16.mono hg
   have f1 : ac_.tmps[1]? = some (.slice (some ⟨b13, o14, none⟩) l.length cap6) := hM.old0 rfl rfl
   have f3 : ac_.tmps[3]? = some (.pointer (some ⟨b7, 0, none⟩)) := hM.old0 rfl rfl
   have f5 : ac_.tmps[5]? = some (.pointer (some ⟨b8, 0, none⟩)) := hM.old0 rfl rfl
   have f7 : ac_.tmps[7]? = some (.int .i64 (((n : Nat) : Int))) := hM.old0 rfl rfl
   have f8 : ac_.tmps[8]? = some (.int .i64 (((v : Nat) : Int))) := hM.old0 rfl rfl
   have f9 : ac_.tmps[9]? = some (.int .i64 (((k : Nat) : Int))) := hM.old0 rfl rfl
   have f21 := hM.eqv (s := 21) 5 rfl (hall 5 (by decide)) rfl rfl
   refine ⟨(((((((Env.nil.put 1 (.slice (some ⟨b13, o14, none⟩) l.length cap6)).put 3 (.pointer (some ⟨b7, 0, none⟩))).put 5 (.pointer (some ⟨b8, 0, none⟩))).put 7 (.int .i64 (((n : Nat) : Int)))).put 8 (.int .i64 (((v : Nat) : Int)))).put 9 (.int .i64 (((k : Nat) : Int)))).put 21 (.bool ((st1B m x11)))), (((((((hM.fr.add f1).add f3).add f5).add f7).add f8).add f9).add f21), ?_⟩
   clear hM hall
   refine wcOf ?_
   cases h31 : (st1B m x11)
   ·
    skip
    refine wcCondF rfl ?_
    refine wcSkip ?_
    refine wcOf ?_
    refine wcSeq ?_
    refine wcDraw fmix (by kernel_rfl) (by kernel_rfl) (vAt [(fun _ v_ => v_ = (.slice (some ⟨b13, o14, none⟩) l.length cap6)), (fun _ v_ => v_ = (.int .i64 (((k : Nat) : Int)))), (fun _ v_ => v_ = (.pointer (some ⟨b13, o14 + k * 6, none⟩))), (fun _ v_ => v_ = (.agg [(.int .i64 x11.node), (.int .i64 x11.view), (.int .i64 x11.low), (.slice A25 x11.marks.length cap26), (.slice A27 x11.p.length cap28), (.slice A29 x11.q.length cap30)].toArray)), (fun _ v_ => v_ = (.agg m.cells.toArray)), (fun _ v_ => v_ = (.bool ((st2B m x11))))]) (fun _ _ G' w => Cx w0 G0 G' w ∧ Bxs G' w w0.heap.size [(b8, 58, m.cells), (b7, 24, [(.int .i64 c.faults), (.slice A3 c.nodes.length cap4)])] ∧ GLe G G') G (vAt_mono ⟨fun _ _ _ _ h => h, fun _ _ _ _ h => h, fun _ _ _ _ h => h, fun _ _ _ _ h => h, fun _ _ _ _ h => h, fun _ _ _ _ h => h, trivial⟩) (fun _ _ => ⟨hC.drew, hB.drew, fun _ _ h => h⟩) ?_ ?_
    ·
     refine dsNone (j := 1) rfl ?_ ?_
     ·
      intro done G w ac_ hd hp hn ⟨hC, hB, hg⟩ hM
      have f1 : ac_.tmps[1]? = some (.slice (some ⟨b13, o14, none⟩) l.length cap6) := hM.old0 rfl rfl
      have hF := (hM.fr.add f1)
      exact OpVal.draw hF (opMove rfl) ⟨G, fun _ _ h => h, ⟨hC, hB, hg⟩, rfl⟩
     refine dsNone (j := 2) rfl ?_ ?_
     ·
      intro done G w ac_ hd hp hn ⟨hC, hB, hg⟩ hM
      have f9 : ac_.tmps[9]? = some (.int .i64 (((k : Nat) : Int))) := hM.old0 rfl rfl
      have hF := (hM.fr.add f9)
      exact OpVal.draw hF (opMove rfl) ⟨G, fun _ _ h => h, ⟨hC, hB, hg⟩, rfl⟩
     refine dsNone (j := 3) rfl ?_ ?_
     ·
      intro done G w ac_ hd hp hn ⟨hC, hB, hg⟩ hM
      have f24 := hM.eqv (s := 24) 0 rfl (hp 0 rfl) rfl rfl
      have f25 := hM.eqv (s := 25) 1 rfl (hp 1 rfl) rfl rfl
      have hF := ((hM.fr.add f24).add f25)
      exact OpVal.draw hF (opIndexAddr rfl rfl slo25 (of_decide_eq_true h9)) ⟨G, fun _ _ h => h, ⟨hC, hB, hg⟩, rfl⟩
     refine dsNone (j := 4) rfl ?_ ?_
     ·
      intro done G w ac_ hd hp hn ⟨hC, hB, hg⟩ hM
      replace hr16 := hr16.mono hg
      have f26 := hM.eqv (s := 26) 2 rfl (hp 2 rfl) rfl rfl
      have hF := (hM.fr.add f26)
      exact OpVal.draw hF (opLoadRow (cs := [(.int .i64 x11.node), (.int .i64 x11.view), (.int .i64 x11.low), (.slice A25 x11.marks.length cap26), (.slice A27 x11.p.length cap28), (.slice A29 x11.q.length cap30)]) rfl (RowG.range hC.holds hr16) row49 rfl) ⟨G, fun _ _ h => h, ⟨hC, hB, hg⟩, rfl⟩
     refine dsNone (j := 5) rfl ?_ ?_
     ·
      intro done G w ac_ hd hp hn ⟨hC, hB, hg⟩ hM
      have f5 : ac_.tmps[5]? = some (.pointer (some ⟨b8, 0, none⟩)) := hM.old0 rfl rfl
      have hF := (hM.fr.add f5)
      exact OpVal.draw hF (opLoadRow (cs := m.cells) rfl (hB.range (i := 0) (m := 34) rfl (by simp [Mark.cells, Stand.cells])) row58 (by simp [Mark.cells, Stand.cells])) ⟨G, fun _ _ h => h, ⟨hC, hB, hg⟩, rfl⟩
     refine dsNone (j := 6) rfl ?_ ?_
     ·
      intro done G w ac_ hd hp hn ⟨hC, hB, hg⟩ hM
      replace hs20 := hs20.mono hg
      replace hs22 := hs22.mono hg
      replace hs24 := hs24.mono hg
      have f27 := hM.eqv (s := 27) 3 rfl (hp 3 rfl) rfl rfl
      have f28 := hM.eqv (s := 28) 4 rfl (hp 4 rfl) rfl rfl
      have hF := ((hM.fr.add f27).add f28)
      exact drawCallS hF rfl co72 rfl (vouches_ret _ _ hC.holds _ x11 (Change.mkIs (x := x11) hs20 hs22 hs24) m) (fun w' hk => ⟨G, fun _ _ h => h, ⟨hC.trans hk, hB.ext hk, hg⟩, rfl⟩)
     exact dsNil
    ·
     intro done G w ac_ hall ⟨hC, hB, hg⟩ hM
     replace hs2 := hs2.mono hg
     replace hl := hl.mono hg
     replace hs20 := hs20.mono hg
     replace hs22 := hs22.mono hg
     replace hs24 := hs24.mono hg
     replace hr16 := hr16.mono hg
     have f1 : ac_.tmps[1]? = some (.slice (some ⟨b13, o14, none⟩) l.length cap6) := hM.old0 rfl rfl
     have f3 : ac_.tmps[3]? = some (.pointer (some ⟨b7, 0, none⟩)) := hM.old0 rfl rfl
     have f5 : ac_.tmps[5]? = some (.pointer (some ⟨b8, 0, none⟩)) := hM.old0 rfl rfl
     have f7 : ac_.tmps[7]? = some (.int .i64 (((n : Nat) : Int))) := hM.old0 rfl rfl
     have f8 : ac_.tmps[8]? = some (.int .i64 (((v : Nat) : Int))) := hM.old0 rfl rfl
     have f9 : ac_.tmps[9]? = some (.int .i64 (((k : Nat) : Int))) := hM.old0 rfl rfl
     have f29 := hM.eqv (s := 29) 5 rfl (hall 5 (by decide)) rfl rfl
     refine ⟨(((((((Env.nil.put 1 (.slice (some ⟨b13, o14, none⟩) l.length cap6)).put 3 (.pointer (some ⟨b7, 0, none⟩))).put 5 (.pointer (some ⟨b8, 0, none⟩))).put 7 (.int .i64 (((n : Nat) : Int)))).put 8 (.int .i64 (((v : Nat) : Int)))).put 9 (.int .i64 (((k : Nat) : Int)))).put 29 (.bool ((st2B m x11)))), (((((((hM.fr.add f1).add f3).add f5).add f7).add f8).add f9).add f29), ?_⟩
     clear hM hall
     refine wcOf ?_
     cases h32 : (st2B m x11)
     ·
      skip
      refine wcCondF rfl ?_
      refine wcSkip ?_
      refine wcOf ?_
      refine wcRegion ?_
      refine wlVal (opMove rfl) rfl ?_
      refine wlVal (opIncr rfl rfl (incr_ok (of_decide_eq_true h9) hl.le)) rfl ?_
      refine wlVal (opAssign rfl) rfl ?_
      refine wlRound ?_
      exact (IH0 (k + 1, n, v) _ _ ⟨hC, hB, hs2, hl, (by omega), (by omega), (by rw [← hI, drop_get hx12]; simp only [List.countP_cons, true_and, h9, h31, h32]; simp; try omega), (by rw [← hJ, drop_get hx12]; simp only [List.countP_cons, true_and, h9, h31, h32]; simp; try omega)⟩ (by have := of_decide_eq_true h9; simp; omega)).sub (fun _ ha => ((((((ha.start.cons ha (t := 1) rfl).cons ha (t := 3) rfl).cons ha (t := 5) rfl).cons ha (t := 7) rfl).cons ha (t := 8) rfl).cons ha (t := 9) rfl))
     ·
      skip
      refine wcCondT rfl ?_
      refine wcRegion ?_
      refine wlVal (opMove rfl) rfl ?_
      refine wlVal (opIncr rfl rfl (by have := hl.le; unfold maxL at this; have := of_decide_eq_true h9; omega)) rfl ?_
      refine wlVal (opAssign rfl) rfl ?_
      refine wlNil ?_
      refine wcOf ?_
      refine wcRegion ?_
      refine wlVal (opMove rfl) rfl ?_
      refine wlVal (opIncr rfl rfl (incr_ok (of_decide_eq_true h9) hl.le)) rfl ?_
      refine wlVal (opAssign rfl) rfl ?_
      refine wlRound ?_
      exact (IH0 (k + 1, n, v + 1) _ _ ⟨hC, hB, hs2, hl, (by omega), (by omega), (by rw [← hI, drop_get hx12]; simp only [List.countP_cons, true_and, h9, h31, h32]; simp; try omega), (by rw [← hJ, drop_get hx12]; simp only [List.countP_cons, true_and, h9, h31, h32]; simp; try omega)⟩ (by have := of_decide_eq_true h9; simp; omega)).sub (fun _ ha => ((((((ha.start.cons ha (t := 1) rfl).cons ha (t := 3) rfl).cons ha (t := 5) rfl).cons ha (t := 7) rfl).cons ha (t := 8) rfl).cons ha (t := 9) rfl))
   ·
    skip
    refine wcCondT rfl ?_
    refine wcRegion ?_
    refine wlVal (opMove rfl) rfl ?_
    refine wlVal (opIncr rfl rfl (by have := hl.le; unfold maxL at this; have := of_decide_eq_true h9; omega)) rfl ?_
    refine wlVal (opAssign rfl) rfl ?_
    refine wlThen (wcSeq ?_)
    refine wcDraw fmix (by kernel_rfl) (by kernel_rfl) (vAt [(fun _ v_ => v_ = (.slice (some ⟨b13, o14, none⟩) l.length cap6)), (fun _ v_ => v_ = (.int .i64 (((k : Nat) : Int)))), (fun _ v_ => v_ = (.pointer (some ⟨b13, o14 + k * 6, none⟩))), (fun _ v_ => v_ = (.agg [(.int .i64 x11.node), (.int .i64 x11.view), (.int .i64 x11.low), (.slice A25 x11.marks.length cap26), (.slice A27 x11.p.length cap28), (.slice A29 x11.q.length cap30)].toArray)), (fun _ v_ => v_ = (.agg m.cells.toArray)), (fun _ v_ => v_ = (.bool ((st2B m x11))))]) (fun _ _ G' w => Cx w0 G0 G' w ∧ Bxs G' w w0.heap.size [(b8, 58, m.cells), (b7, 24, [(.int .i64 c.faults), (.slice A3 c.nodes.length cap4)])] ∧ GLe G G') G (vAt_mono ⟨fun _ _ _ _ h => h, fun _ _ _ _ h => h, fun _ _ _ _ h => h, fun _ _ _ _ h => h, fun _ _ _ _ h => h, fun _ _ _ _ h => h, trivial⟩) (fun _ _ => ⟨hC.drew, hB.drew, fun _ _ h => h⟩) ?_ ?_
    ·
     refine dsNone (j := 1) rfl ?_ ?_
     ·
      intro done G w ac_ hd hp hn ⟨hC, hB, hg⟩ hM
      have f1 : ac_.tmps[1]? = some (.slice (some ⟨b13, o14, none⟩) l.length cap6) := hM.old0 rfl rfl
      have hF := (hM.fr.add f1)
      exact OpVal.draw hF (opMove rfl) ⟨G, fun _ _ h => h, ⟨hC, hB, hg⟩, rfl⟩
     refine dsNone (j := 2) rfl ?_ ?_
     ·
      intro done G w ac_ hd hp hn ⟨hC, hB, hg⟩ hM
      have f9 : ac_.tmps[9]? = some (.int .i64 (((k : Nat) : Int))) := hM.old0 rfl rfl
      have hF := (hM.fr.add f9)
      exact OpVal.draw hF (opMove rfl) ⟨G, fun _ _ h => h, ⟨hC, hB, hg⟩, rfl⟩
     refine dsNone (j := 3) rfl ?_ ?_
     ·
      intro done G w ac_ hd hp hn ⟨hC, hB, hg⟩ hM
      have f24 := hM.eqv (s := 24) 0 rfl (hp 0 rfl) rfl rfl
      have f25 := hM.eqv (s := 25) 1 rfl (hp 1 rfl) rfl rfl
      have hF := ((hM.fr.add f24).add f25)
      exact OpVal.draw hF (opIndexAddr rfl rfl slo25 (of_decide_eq_true h9)) ⟨G, fun _ _ h => h, ⟨hC, hB, hg⟩, rfl⟩
     refine dsNone (j := 4) rfl ?_ ?_
     ·
      intro done G w ac_ hd hp hn ⟨hC, hB, hg⟩ hM
      replace hr16 := hr16.mono hg
      have f26 := hM.eqv (s := 26) 2 rfl (hp 2 rfl) rfl rfl
      have hF := (hM.fr.add f26)
      exact OpVal.draw hF (opLoadRow (cs := [(.int .i64 x11.node), (.int .i64 x11.view), (.int .i64 x11.low), (.slice A25 x11.marks.length cap26), (.slice A27 x11.p.length cap28), (.slice A29 x11.q.length cap30)]) rfl (RowG.range hC.holds hr16) row49 rfl) ⟨G, fun _ _ h => h, ⟨hC, hB, hg⟩, rfl⟩
     refine dsNone (j := 5) rfl ?_ ?_
     ·
      intro done G w ac_ hd hp hn ⟨hC, hB, hg⟩ hM
      have f5 : ac_.tmps[5]? = some (.pointer (some ⟨b8, 0, none⟩)) := hM.old0 rfl rfl
      have hF := (hM.fr.add f5)
      exact OpVal.draw hF (opLoadRow (cs := m.cells) rfl (hB.range (i := 0) (m := 34) rfl (by simp [Mark.cells, Stand.cells])) row58 (by simp [Mark.cells, Stand.cells])) ⟨G, fun _ _ h => h, ⟨hC, hB, hg⟩, rfl⟩
     refine dsNone (j := 6) rfl ?_ ?_
     ·
      intro done G w ac_ hd hp hn ⟨hC, hB, hg⟩ hM
      replace hs20 := hs20.mono hg
      replace hs22 := hs22.mono hg
      replace hs24 := hs24.mono hg
      have f27 := hM.eqv (s := 27) 3 rfl (hp 3 rfl) rfl rfl
      have f28 := hM.eqv (s := 28) 4 rfl (hp 4 rfl) rfl rfl
      have hF := ((hM.fr.add f27).add f28)
      exact drawCallS hF rfl co72 rfl (vouches_ret _ _ hC.holds _ x11 (Change.mkIs (x := x11) hs20 hs22 hs24) m) (fun w' hk => ⟨G, fun _ _ h => h, ⟨hC.trans hk, hB.ext hk, hg⟩, rfl⟩)
     exact dsNil
    ·
     intro done G w ac_ hall ⟨hC, hB, hg⟩ hM
     replace hs2 := hs2.mono hg
     replace hl := hl.mono hg
     have f1 : ac_.tmps[1]? = some (.slice (some ⟨b13, o14, none⟩) l.length cap6) := hM.old0 rfl rfl
     have f3 : ac_.tmps[3]? = some (.pointer (some ⟨b7, 0, none⟩)) := hM.old0 rfl rfl
     have f5 : ac_.tmps[5]? = some (.pointer (some ⟨b8, 0, none⟩)) := hM.old0 rfl rfl
     have f7 : ac_.tmps[7]? = some (.int .i64 (((n + 1 : Nat) : Int))) := hM.old0 rfl rfl
     have f8 : ac_.tmps[8]? = some (.int .i64 (((v : Nat) : Int))) := hM.old0 rfl rfl
     have f9 : ac_.tmps[9]? = some (.int .i64 (((k : Nat) : Int))) := hM.old0 rfl rfl
     have f29 := hM.eqv (s := 29) 5 rfl (hall 5 (by decide)) rfl rfl
     refine ⟨(((((((Env.nil.put 1 (.slice (some ⟨b13, o14, none⟩) l.length cap6)).put 3 (.pointer (some ⟨b7, 0, none⟩))).put 5 (.pointer (some ⟨b8, 0, none⟩))).put 7 (.int .i64 (((n + 1 : Nat) : Int)))).put 8 (.int .i64 (((v : Nat) : Int)))).put 9 (.int .i64 (((k : Nat) : Int)))).put 29 (.bool ((st2B m x11)))), (((((((hM.fr.add f1).add f3).add f5).add f7).add f8).add f9).add f29), ?_⟩
     clear hM hall
     refine wcOf ?_
     cases h33 : (st2B m x11)
     ·
      skip
      refine wcCondF rfl ?_
      refine wcSkip ?_
      refine wcOf ?_
      refine wcRegion ?_
      refine wlVal (opMove rfl) rfl ?_
      refine wlVal (opIncr rfl rfl (incr_ok (of_decide_eq_true h9) hl.le)) rfl ?_
      refine wlVal (opAssign rfl) rfl ?_
      refine wlRound ?_
      exact (IH0 (k + 1, n + 1, v) _ _ ⟨hC, hB, hs2, hl, (by omega), (by omega), (by rw [← hI, drop_get hx12]; simp only [List.countP_cons, true_and, h9, h31, h33]; simp; try omega), (by rw [← hJ, drop_get hx12]; simp only [List.countP_cons, true_and, h9, h31, h33]; simp; try omega)⟩ (by have := of_decide_eq_true h9; simp; omega)).sub (fun _ ha => ((((((ha.start.cons ha (t := 1) rfl).cons ha (t := 3) rfl).cons ha (t := 5) rfl).cons ha (t := 7) rfl).cons ha (t := 8) rfl).cons ha (t := 9) rfl))
     ·
      skip
      refine wcCondT rfl ?_
      refine wcRegion ?_
      refine wlVal (opMove rfl) rfl ?_
      refine wlVal (opIncr rfl rfl (by have := hl.le; unfold maxL at this; have := of_decide_eq_true h9; omega)) rfl ?_
      refine wlVal (opAssign rfl) rfl ?_
      refine wlNil ?_
      refine wcOf ?_
      refine wcRegion ?_
      refine wlVal (opMove rfl) rfl ?_
      refine wlVal (opIncr rfl rfl (incr_ok (of_decide_eq_true h9) hl.le)) rfl ?_
      refine wlVal (opAssign rfl) rfl ?_
      refine wlRound ?_
      exact (IH0 (k + 1, n + 1, v + 1) _ _ ⟨hC, hB, hs2, hl, (by omega), (by omega), (by rw [← hI, drop_get hx12]; simp only [List.countP_cons, true_and, h9, h31, h33]; simp; try omega), (by rw [← hJ, drop_get hx12]; simp only [List.countP_cons, true_and, h9, h31, h33]; simp; try omega)⟩ (by have := of_decide_eq_true h9; simp; omega)).sub (fun _ ha => ((((((ha.start.cons ha (t := 1) rfl).cons ha (t := 3) rfl).cons ha (t := 5) rfl).cons ha (t := 7) rfl).cons ha (t := 8) rfl).cons ha (t := 9) rfl))

end Go.Proofs.Ytbhkoipmojdkhaa
