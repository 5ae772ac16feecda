/- What functions of the pick seat return, part 11. No condition. -/
import Derived.Test.YtbhkoipmojdkhaaPkG10
set_option linter.all false
namespace Go.Proofs.Ytbhkoipmojdkhaa
open Go Go.Gx Go.RowKit
theorem low12B_eq (m : Mark) (x : Change) : low12B m x = x.marks.any (fun y => decide (y = m)) := by
  unfold low12B; congr 1; funext y; rw [Bool.eq_iff_iff]; simp [eq_comm]
theorem ge_of_lt {a b : Int} {x : Bool} (h : decide (a < b) = x) : decide (b ≤ a) = !x := by
  subst h; by_cases h : a < b <;> simp [h] <;> omega
theorem rlowmay_ret (G0 : Gh) (w0 : World) (hw : Holds G0 w0) (csc : List Value) (c : Crew) (hc : Rp.Is G0 csc c) (vl : Value) (l : List Change) (hl : Sl G0 vl l) (m : Mark) :
  RetS Try.prog 56 #[.agg csc.toArray, vl, .agg m.cells.toArray] G0 w0 (.bool (lowMayB (Council.mk (most c) (some_ c) l) m)) := by
 have hC := Cx.refl hw
 have hB : Bxs G0 w0 w0.heap.size [] := Bxs.nil _ _ _
 obtain ⟨v1, rfl, hs2⟩ := Crew.opIs hc
 obtain ⟨A3, cap4, rfl⟩ := hs2.form
 obtain ⟨A5, cap6, rfl⟩ := hl.form
 refine callsOf Try.func56 rfl _ Try.ntmps56 rfl _ (argsCons (argsCons (argsCons argsNil (t := 0) rfl) (t := 1) rfl) (t := 2) rfl) ?_; intro Q0 hQ
 refine wcSeq (wcRegion ?_)
 refine wlBox (cs := [(.int .i64 c.faults), (.slice A3 c.nodes.length cap4)]) hC hB rfl rfl rfl ?_; intro b7 w hk hC hB
 refine wlBox (cs := m.cells) hC hB rfl rfl rfl ?_; intro b8 w hk hC hB
 refine wlVal (opAssign rfl) rfl ?_
 refine wlThen (wcSeq (wcSeq (wcRegion ?_)))
 refine wlVal (opFieldAddr rfl fo30_0) rfl ?_
 refine wlVal (opLoadOne (v := (.int .i64 m.seq)) rfl (hB.cell (i := 0) rfl (by simp [Mark.cells, Stand.cells])) one3) rfl ?_
 refine wlVal (opLss rfl rfl) rfl ?_
 refine wlVal (opMove rfl) rfl ?_
 cases h9 : decide (m.seq < 0)
 ·
  skip
  refine wlOn rfl rfl ?_
  refine wlVal (opFieldAddr rfl fo30_0) rfl ?_
  refine wlOn rfl rfl ?_
  refine wlVal (opLoadOne (v := (.int .i64 m.seq)) rfl (hB.cell (i := 0) rfl (by simp [Mark.cells, Stand.cells])) one3) rfl ?_
  refine wlOn rfl rfl ?_
  refine wlVal (opGtr rfl rfl) rfl ?_
  refine wlVal (opPickF rfl rfl) rfl ?_
  refine wlThen ?_
  cases h10 : decide (9007199254740983 < m.seq)
  ·
   skip
   refine wcCondF rfl ?_
   refine wcSkip ?_
   refine wcOf ?_
   refine wcSeq (wcRegion ?_)
   refine wlVal (opAssign rfl) rfl ?_
   refine wlVal (opAssign rfl) rfl ?_
   refine wlThen (wcSeq (wcSeq (wcRegion ?_)))
   refine wlVal (opAssign rfl) rfl ?_
   refine wlThen ?_
   refine wcBlock ?_
   refine WC.sub (wrInd (ι := Nat × Nat × Nat) (fun i => match i with | (k, n, v) => l.length - k) (fun i G w => match i with | (k, n, v) => Cx w0 G0 G w ∧ Bxs G w w0.heap.size [(b8, 30, m.cells), (b7, 24, [(.int .i64 c.faults), (.slice A3 c.nodes.length cap4)])] ∧ Sl G (.slice A3 c.nodes.length cap4) c.nodes ∧ Sl G (.slice A5 l.length cap6) l ∧ n ≤ k ∧ v ≤ k ∧ n + (l.drop k).countP (low11B m) = l.countP (low11B m) ∧ v + (l.drop k).countP (low12B m) = l.countP (low12B m)) (fun i => match i with | (k, n, v) => ((((((Env.nil.put 1 (.slice A5 l.length cap6)).put 3 (.pointer (some ⟨b7, 0, none⟩))).put 5 (.pointer (some ⟨b8, 0, none⟩))).put 7 (.int .i64 (((n : Nat) : Int)))).put 8 (.int .i64 (((v : Nat) : Int)))).put 9 (.int .i64 (((k : Nat) : Int))))) ?_ (0, 0, 0) _ _ ⟨hC, hB, hs2, hl, (Nat.le_refl _), (Nat.le_refl _), (by simp), (by simp)⟩) (fun _ ha => ((((((ha.start.cons ha (t := 1) rfl).cons ha (t := 3) rfl).cons ha (t := 5) rfl).cons ha (t := 7) rfl).cons ha (t := 8) rfl).cons ha (t := 9) rfl))
   rintro ⟨k, n, v⟩ G w N0 IH0 ⟨hC, hB, hs2, hl, hn, hv, hI, hJ0⟩
   show WC _ _ _ _ ((((((Env.nil.put 1 (.slice A5 l.length cap6)).put 3 (.pointer (some ⟨b7, 0, none⟩))).put 5 (.pointer (some ⟨b8, 0, none⟩))).put 7 (.int .i64 (((n : Nat) : Int)))).put 8 (.int .i64 (((v : Nat) : Int)))).put 9 (.int .i64 (((k : Nat) : Int)))) w
   refine wcSeq (wcSeq (wcRegion ?_))
   refine wlVal (opMove rfl) rfl ?_
   refine wlVal (opMove rfl) rfl ?_
   refine wlVal (opLen rfl isl25) rfl ?_
   refine wlVal (opLssN rfl rfl) rfl ?_
   refine wlThen ?_
   cases h11 : decide (k < l.length)
   ·
    skip
    refine wcCondF rfl ?_
    refine wcExit ?_
    refine wcOf ?_
    refine wcSeq (wcRegion ?_)
    refine wlVal (opMove rfl) rfl ?_
    refine wlVal (opLoadRow (cs := [(.int .i64 c.faults), (.slice A3 c.nodes.length cap4)]) rfl (hB.range (i := 1) (m := 2) rfl rfl) row24 rfl) rfl ?_
    refine wlCallS hC hB rfl co32 rfl rfl (rmost_ret _ _ hC.holds _ c (Crew.mkIs (x := c) hs2)) ?_; intro w hk hC hB
    refine wlVal (opGeq rfl rfl) rfl ?_
    refine wlVal (opMove rfl) rfl ?_
    cases h12 : decide ((most c) ≤ ((n : Nat) : Int))
    ·
     skip
     refine wlOff rfl rfl rfl rfl ?_
     refine wlOff rfl rfl rfl rfl ?_
     refine wlOff rfl rfl rfl rfl ?_
     refine wlOff rfl rfl rfl rfl ?_
     refine wlVal (opPickF rfl rfl) rfl ?_
     refine wlVal (opAssign rfl) rfl ?_
     refine wlThen ?_
     refine wcRet ?_
     exact fun ac_ ha => hQ _ _ _ (results1 ha rfl rfl) ha.df (endS hC hw (by have e1 := hI; have e2 := hJ0; rw [List.drop_eq_nil_of_le (Nat.le_of_not_lt (of_decide_eq_false h11))] at e1 e2; simp only [List.countP_nil, Nat.add_zero] at e1 e2; simp only [lowMayB, cnt, ge_of_lt h9, ge_of_lt h10, ← e1, ← e2, h9, h10, h12, Bool.and_true, Bool.true_and, Bool.and_false, Bool.false_and, Bool.not_false]))
    ·
     skip
     refine wlOn rfl rfl ?_
     refine wlVal (opMove rfl) rfl ?_
     refine wlOn rfl rfl ?_
     refine wlVal (opLoadRow (cs := [(.int .i64 c.faults), (.slice A3 c.nodes.length cap4)]) rfl (hB.range (i := 1) (m := 2) rfl rfl) row24 rfl) rfl ?_
     refine wlOn rfl rfl ?_
     refine wlCallS hC hB rfl co70 rfl rfl (rsome_ret _ _ hC.holds _ c (Crew.mkIs (x := c) hs2)) ?_; intro w hk hC hB
     refine wlOn rfl rfl ?_
     refine wlVal (opGeq rfl rfl) rfl ?_
     refine wlVal (opPickT rfl rfl) rfl ?_
     refine wlVal (opAssign rfl) rfl ?_
     refine wlThen ?_
     refine wcRet ?_
     exact fun ac_ ha => hQ _ _ _ (results1 ha rfl rfl) ha.df (endS hC hw (by have e1 := hI; have e2 := hJ0; rw [List.drop_eq_nil_of_le (Nat.le_of_not_lt (of_decide_eq_false h11))] at e1 e2; simp only [List.countP_nil, Nat.add_zero] at e1 e2; simp only [lowMayB, cnt, ge_of_lt h9, ge_of_lt h10, ← e1, ← e2, h9, h10, h12, Bool.and_true, Bool.true_and, Bool.and_false, Bool.false_and, Bool.not_false]))
   ·
    skip
    refine wcCondT rfl ?_
    refine wcSkip ?_
    refine wcOf ?_
    refine wcSeq ?_
    refine wcBlock (wcSeq (wcSeq ?_))
    obtain ⟨x13, hx14⟩ : ∃ y_, l[k]? = some y_ := ⟨_, List.getElem?_eq_getElem (of_decide_eq_true h11)⟩
    obtain ⟨b15, o16, row17, hA20, hr18, hi19⟩ := hl.elem hx14; subst hA20
    obtain ⟨v21, v23, v25, rfl, hs22, hs24, hs26⟩ := Change.opIs hi19
    obtain ⟨A27, cap28, rfl⟩ := hs22.form
    obtain ⟨A29, cap30, rfl⟩ := hs24.form
    obtain ⟨A31, cap32, rfl⟩ := hs26.form
    refine wcDraw fmix (by kernel_rfl) (by kernel_rfl) (vAt [(fun _ v_ => v_ = (.slice (some ⟨b15, o16, none⟩) l.length cap6)), (fun _ v_ => v_ = (.int .i64 (((k : Nat) : Int)))), (fun _ v_ => v_ = (.pointer (some ⟨b15, o16 + k * 6, none⟩))), (fun _ v_ => v_ = (.pointer (some ⟨b15, o16 + k * 6 + 2, none⟩))), (fun _ v_ => v_ = (.int .i64 x13.low)), (fun _ v_ => v_ = (.pointer (some ⟨b8, 0, none⟩))), (fun _ v_ => v_ = (.int .i64 m.seq)), (fun _ v_ => v_ = (.bool (decide (x13.low ≤ m.seq))))]) (fun _ _ G' w => Cx w0 G0 G' w ∧ Bxs G' w w0.heap.size [(b8, 30, m.cells), (b7, 24, [(.int .i64 c.faults), (.slice A3 c.nodes.length cap4)])] ∧ GLe G G') G (vAt_mono ⟨fun _ _ _ _ h => h, fun _ _ _ _ h => h, fun _ _ _ _ h => h, fun _ _ _ _ h => h, fun _ _ _ _ h => h, fun _ _ _ _ h => h, fun _ _ _ _ h => h, fun _ _ _ _ h => h, trivial⟩) (fun _ _ => ⟨hC.drew, hB.drew, fun _ _ h => h⟩) ?_ ?_
    ·
     refine dsNone (j := 1) rfl ?_ ?_
     ·
      intro done G w ac_ hd hp hn ⟨hC, hB, hg⟩ hM
      have f1 : ac_.tmps[1]? = some (.slice (some ⟨b15, o16, none⟩) l.length cap6) := hM.old0 rfl rfl
      have hF := (hM.fr.add f1)
      exact OpVal.draw hF (opMove rfl) ⟨G, fun _ _ h => h, ⟨hC, hB, hg⟩, rfl⟩
     refine dsNone (j := 2) rfl ?_ ?_
     ·
      intro done G w ac_ hd hp hn ⟨hC, hB, hg⟩ hM
      have f9 : ac_.tmps[9]? = some (.int .i64 (((k : Nat) : Int))) := hM.old0 rfl rfl
      have hF := (hM.fr.add f9)
      exact OpVal.draw hF (opMove rfl) ⟨G, fun _ _ h => h, ⟨hC, hB, hg⟩, rfl⟩
     refine dsNone (j := 3) rfl ?_ ?_
     ·
      intro done G w ac_ hd hp hn ⟨hC, hB, hg⟩ hM
      have f25 := hM.eqv (s := 25) 0 rfl (hp 0 rfl) rfl rfl
      have f26 := hM.eqv (s := 26) 1 rfl (hp 1 rfl) rfl rfl
      have hF := ((hM.fr.add f25).add f26)
      exact OpVal.draw hF (opIndexAddr rfl rfl slo25 (of_decide_eq_true h11)) ⟨G, fun _ _ h => h, ⟨hC, hB, hg⟩, rfl⟩
     refine dsNone (j := 4) rfl ?_ ?_
     ·
      intro done G w ac_ hd hp hn ⟨hC, hB, hg⟩ hM
      have f27 := hM.eqv (s := 27) 2 rfl (hp 2 rfl) rfl rfl
      have hF := (hM.fr.add f27)
      exact OpVal.draw hF (opFieldAddr rfl fo49_2) ⟨G, fun _ _ h => h, ⟨hC, hB, hg⟩, rfl⟩
     refine dsNone (j := 5) rfl ?_ ?_
     ·
      intro done G w ac_ hd hp hn ⟨hC, hB, hg⟩ hM
      replace hr18 := hr18.mono hg
      have f28 := hM.eqv (s := 28) 3 rfl (hp 3 rfl) rfl rfl
      have hF := (hM.fr.add f28)
      exact OpVal.draw hF (opLoadOne (v := (.int .i64 x13.low)) rfl (RowG.cell hC.holds hr18 (j := 2) rfl) one3) ⟨G, fun _ _ h => h, ⟨hC, hB, hg⟩, rfl⟩
     refine dsNone (j := 6) rfl ?_ ?_
     ·
      intro done G w ac_ hd hp hn ⟨hC, hB, hg⟩ hM
      have f5 : ac_.tmps[5]? = some (.pointer (some ⟨b8, 0, none⟩)) := hM.old0 rfl rfl
      have hF := (hM.fr.add f5)
      exact OpVal.draw hF (opFieldAddr rfl fo30_0) ⟨G, fun _ _ h => h, ⟨hC, hB, hg⟩, rfl⟩
     refine dsNone (j := 7) rfl ?_ ?_
     ·
      intro done G w ac_ hd hp hn ⟨hC, hB, hg⟩ hM
      have f30 := hM.eqv (s := 30) 5 rfl (hp 5 rfl) rfl rfl
      have hF := (hM.fr.add f30)
      exact OpVal.draw hF (opLoadOne (v := (.int .i64 m.seq)) rfl (hB.cell (i := 0) rfl (by simp [Mark.cells, Stand.cells])) one3) ⟨G, fun _ _ h => h, ⟨hC, hB, hg⟩, rfl⟩
     refine dsNone (j := 8) rfl ?_ ?_
     ·
      intro done G w ac_ hd hp hn ⟨hC, hB, hg⟩ hM
      have f29 := hM.eqv (s := 29) 4 rfl (hp 4 rfl) rfl rfl
      have f31 := hM.eqv (s := 31) 6 rfl (hp 6 rfl) rfl rfl
      have hF := ((hM.fr.add f29).add f31)
      exact OpVal.draw hF (opLeq rfl rfl) ⟨G, fun _ _ h => h, ⟨hC, hB, hg⟩, rfl⟩
     exact dsNil
    ·
     intro done G w ac_ hall ⟨hC, hB, hg⟩ hM
     replace hs2 := hs2.mono hg
     replace hl := hl.mono hg
     replace hs22 := hs22.mono hg
     replace hs24 := hs24.mono hg
     replace hs26 := hs26.mono hg
     replace hr18 := hr18.mono hg
     have f1 : ac_.tmps[1]? = some (.slice (some ⟨b15, o16, none⟩) l.length cap6) := hM.old0 rfl rfl
     have f3 : ac_.tmps[3]? = some (.pointer (some ⟨b7, 0, none⟩)) := hM.old0 rfl rfl
     have f5 : ac_.tmps[5]? = some (.pointer (some ⟨b8, 0, none⟩)) := hM.old0 rfl rfl
     have f7 : ac_.tmps[7]? = some (.int .i64 (((n : Nat) : Int))) := hM.old0 rfl rfl
     have f8 : ac_.tmps[8]? = some (.int .i64 (((v : Nat) : Int))) := hM.old0 rfl rfl
     have f9 : ac_.tmps[9]? = some (.int .i64 (((k : Nat) : Int))) := hM.old0 rfl rfl
     have f32 := hM.eqv (s := 32) 7 rfl (hall 7 (by decide)) rfl rfl
     refine ⟨(((((((Env.nil.put 1 (.slice (some ⟨b15, o16, none⟩) l.length cap6)).put 3 (.pointer (some ⟨b7, 0, none⟩))).put 5 (.pointer (some ⟨b8, 0, none⟩))).put 7 (.int .i64 (((n : Nat) : Int)))).put 8 (.int .i64 (((v : Nat) : Int)))).put 9 (.int .i64 (((k : Nat) : Int)))).put 32 (.bool (decide (x13.low ≤ m.seq)))), (((((((hM.fr.add f1).add f3).add f5).add f7).add f8).add f9).add f32), ?_⟩
     clear hM hall
     refine wcOf ?_
     cases h33 : decide (x13.low ≤ m.seq)
     ·
      skip
      refine wcCondF rfl ?_
      refine wcSkip ?_
      refine wcOf ?_
      refine wcSeq (wcRegion ?_)
      refine wlVal (opAssign rfl) rfl ?_
      refine wlThen ?_
      refine wcBlock ?_
      refine WC.sub (wrInd (ι := Nat × Nat) (fun i => match i with | (j, u) => x13.marks.length - j) (fun i G w => match i with | (j, u) => Cx w0 G0 G w ∧ Bxs G w w0.heap.size [(b8, 30, m.cells), (b7, 24, [(.int .i64 c.faults), (.slice A3 c.nodes.length cap4)])] ∧ Sl G (.slice A3 c.nodes.length cap4) c.nodes ∧ Sl G (.slice (some ⟨b15, o16, none⟩) l.length cap6) l ∧ Sl G (.slice A27 x13.marks.length cap28) x13.marks ∧ Sl G (.slice A29 x13.p.length cap30) x13.p ∧ Sl G (.slice A31 x13.q.length cap32) x13.q ∧ RowG G b15 (o16 + k * 6) [(.int .i64 x13.node), (.int .i64 x13.view), (.int .i64 x13.low), (.slice A27 x13.marks.length cap28), (.slice A29 x13.p.length cap30), (.slice A31 x13.q.length cap32)] ∧ u = v ∧ (x13.marks.drop j).any (fun y => decide (y = m)) = x13.marks.any (fun y => decide (y = m))) (fun i => match i with | (j, u) => (((((((Env.nil.put 1 (.slice (some ⟨b15, o16, none⟩) l.length cap6)).put 3 (.pointer (some ⟨b7, 0, none⟩))).put 5 (.pointer (some ⟨b8, 0, none⟩))).put 7 (.int .i64 (((n : Nat) : Int)))).put 8 (.int .i64 (((u : Nat) : Int)))).put 9 (.int .i64 (((k : Nat) : Int)))).put 10 (.int .i64 (((j : Nat) : Int))))) ?_ (0, v) _ _ ⟨hC, hB, hs2, hl, hs22, hs24, hs26, hr18, rfl, rfl⟩) (fun _ ha => (((((((ha.start.cons ha (t := 1) rfl).cons ha (t := 3) rfl).cons ha (t := 5) rfl).cons ha (t := 7) rfl).cons ha (t := 8) rfl).cons ha (t := 9) rfl).cons ha (t := 10) rfl))
      rintro ⟨j, u⟩ G w N1 IH1 ⟨hC, hB, hs2, hl, hs22, hs24, hs26, hr18, hu, hJ⟩
      show WC _ _ _ _ (((((((Env.nil.put 1 (.slice (some ⟨b15, o16, none⟩) l.length cap6)).put 3 (.pointer (some ⟨b7, 0, none⟩))).put 5 (.pointer (some ⟨b8, 0, none⟩))).put 7 (.int .i64 (((n : Nat) : Int)))).put 8 (.int .i64 (((u : Nat) : Int)))).put 9 (.int .i64 (((k : Nat) : Int)))).put 10 (.int .i64 (((j : Nat) : Int)))) w
      refine wcSeq (wcSeq (wcRegion ?_))
      refine wlVal (opMove rfl) rfl ?_
      refine wlVal (opMove rfl) rfl ?_
      refine wlVal (opMove rfl) rfl ?_
      refine wlVal (opIndexAddr rfl rfl slo25 (of_decide_eq_true h11)) rfl ?_
      refine wlVal (opFieldAddr rfl fo49_3) rfl ?_
      refine wlVal (opLoadOne (v := (.slice A27 x13.marks.length cap28)) rfl (RowG.cell hC.holds hr18 (j := 3) rfl) one31) rfl ?_
      refine wlVal (opLen rfl isl31) rfl ?_
      refine wlVal (opLssN rfl rfl) rfl ?_
      refine wlThen ?_
      cases h34 : decide (j < x13.marks.length)
      ·
       skip
       refine wcCondF rfl ?_
       refine wcExit ?_
       refine wcOf ?_
       refine wcRegion ?_
       refine wlVal (opMove rfl) rfl ?_
       refine wlVal (opIncr rfl rfl (incr_ok (of_decide_eq_true h11) hl.le)) rfl ?_
       refine wlVal (opAssign rfl) rfl ?_
       refine wlRound ?_
       exact (IH0 (k + 1, n, u) _ _ ⟨hC, hB, hs2, hl, (by omega), (by omega), (by rw [← hI, drop_get hx14]; simp only [List.countP_cons, low11B, h9, h10, h11, h33]; simp; try omega), (by have hA := hJ; rw [List.drop_eq_nil_of_le (Nat.le_of_not_lt (of_decide_eq_false h34))] at hA; simp only [List.any_cons, List.any_nil, h9, h10, h33, Bool.true_or, Bool.false_or] at hA; rw [← hJ0, drop_get hx14]; simp only [List.countP_cons, low12B_eq, h9, h10, h11, h33, ← hA]; simp; try omega)⟩ (by have := of_decide_eq_true h11; simp; omega)).sub (fun _ ha => ((((((ha.start.cons ha (t := 1) rfl).cons ha (t := 3) rfl).cons ha (t := 5) rfl).cons ha (t := 7) rfl).cons ha (t := 8) rfl).cons ha (t := 9) rfl))
      ·
       skip
       refine wcCondT rfl ?_
       refine wcSkip ?_
       refine wcOf ?_
       refine wcSeq ?_
       refine wcBlock (wcSeq ?_)
       obtain ⟨x35, hx36⟩ : ∃ y_, x13.marks[j]? = some y_ := ⟨_, List.getElem?_eq_getElem (of_decide_eq_true h34)⟩
       obtain ⟨b37, o38, row39, hA42, hr40, hi41⟩ := hs22.elem hx36; subst hA42
       obtain rfl := hi41
       refine wcDraw fmix (by kernel_rfl) (by kernel_rfl) (vAt [(fun _ v_ => v_ = (.slice (some ⟨b15, o16, none⟩) l.length cap6)), (fun _ v_ => v_ = (.int .i64 (((k : Nat) : Int)))), (fun _ v_ => v_ = (.pointer (some ⟨b15, o16 + k * 6, none⟩))), (fun _ v_ => v_ = (.pointer (some ⟨b15, o16 + k * 6 + 3, none⟩))), (fun _ v_ => v_ = (.slice (some ⟨b37, o38, none⟩) x13.marks.length cap28)), (fun _ v_ => v_ = (.int .i64 (((j : Nat) : Int)))), (fun _ v_ => v_ = (.pointer (some ⟨b37, o38 + j * 33, none⟩))), (fun _ v_ => v_ = (.agg x35.cells.toArray)), (fun _ v_ => v_ = (.agg m.cells.toArray)), (fun _ v_ => v_ = (.bool (decide (x35 = m))))]) (fun _ _ G' w => Cx w0 G0 G' w ∧ Bxs G' w w0.heap.size [(b8, 30, m.cells), (b7, 24, [(.int .i64 c.faults), (.slice A3 c.nodes.length cap4)])] ∧ GLe G G') G (vAt_mono ⟨fun _ _ _ _ h => h, fun _ _ _ _ h => h, fun _ _ _ _ h => h, fun _ _ _ _ h => h, fun _ _ _ _ h => h, fun _ _ _ _ h => h, fun _ _ _ _ h => h, fun _ _ _ _ h => h, fun _ _ _ _ h => h, fun _ _ _ _ h => h, trivial⟩) (fun _ _ => ⟨hC.drew, hB.drew, fun _ _ h => h⟩) ?_ ?_
       ·
        refine dsNone (j := 1) rfl ?_ ?_
        ·
         intro done G w ac_ hd hp hn ⟨hC, hB, hg⟩ hM
         have f1 : ac_.tmps[1]? = some (.slice (some ⟨b15, o16, none⟩) l.length cap6) := hM.old0 rfl rfl
         have hF := (hM.fr.add f1)
         exact OpVal.draw hF (opMove rfl) ⟨G, fun _ _ h => h, ⟨hC, hB, hg⟩, rfl⟩
        refine dsNone (j := 2) rfl ?_ ?_
        ·
         intro done G w ac_ hd hp hn ⟨hC, hB, hg⟩ hM
         have f9 : ac_.tmps[9]? = some (.int .i64 (((k : Nat) : Int))) := hM.old0 rfl rfl
         have hF := (hM.fr.add f9)
         exact OpVal.draw hF (opMove rfl) ⟨G, fun _ _ h => h, ⟨hC, hB, hg⟩, rfl⟩
        refine dsNone (j := 3) rfl ?_ ?_
        ·
         intro done G w ac_ hd hp hn ⟨hC, hB, hg⟩ hM
         have f45 := hM.eqv (s := 45) 0 rfl (hp 0 rfl) rfl rfl
         have f46 := hM.eqv (s := 46) 1 rfl (hp 1 rfl) rfl rfl
         have hF := ((hM.fr.add f45).add f46)
         exact OpVal.draw hF (opIndexAddr rfl rfl slo25 (of_decide_eq_true h11)) ⟨G, fun _ _ h => h, ⟨hC, hB, hg⟩, rfl⟩
        refine dsNone (j := 4) rfl ?_ ?_
        ·
         intro done G w ac_ hd hp hn ⟨hC, hB, hg⟩ hM
         have f47 := hM.eqv (s := 47) 2 rfl (hp 2 rfl) rfl rfl
         have hF := (hM.fr.add f47)
         exact OpVal.draw hF (opFieldAddr rfl fo49_3) ⟨G, fun _ _ h => h, ⟨hC, hB, hg⟩, rfl⟩
        refine dsNone (j := 5) rfl ?_ ?_
        ·
         intro done G w ac_ hd hp hn ⟨hC, hB, hg⟩ hM
         replace hr18 := hr18.mono hg
         have f48 := hM.eqv (s := 48) 3 rfl (hp 3 rfl) rfl rfl
         have hF := (hM.fr.add f48)
         exact OpVal.draw hF (opLoadOne (v := (.slice (some ⟨b37, o38, none⟩) x13.marks.length cap28)) rfl (RowG.cell hC.holds hr18 (j := 3) rfl) one31) ⟨G, fun _ _ h => h, ⟨hC, hB, hg⟩, rfl⟩
        refine dsNone (j := 6) rfl ?_ ?_
        ·
         intro done G w ac_ hd hp hn ⟨hC, hB, hg⟩ hM
         have f10 : ac_.tmps[10]? = some (.int .i64 (((j : Nat) : Int))) := hM.old0 rfl rfl
         have hF := (hM.fr.add f10)
         exact OpVal.draw hF (opMove rfl) ⟨G, fun _ _ h => h, ⟨hC, hB, hg⟩, rfl⟩
        refine dsNone (j := 7) rfl ?_ ?_
        ·
         intro done G w ac_ hd hp hn ⟨hC, hB, hg⟩ hM
         have f49 := hM.eqv (s := 49) 4 rfl (hp 4 rfl) rfl rfl
         have f50 := hM.eqv (s := 50) 5 rfl (hp 5 rfl) rfl rfl
         have hF := ((hM.fr.add f49).add f50)
         exact OpVal.draw hF (opIndexAddr rfl rfl slo31 (of_decide_eq_true h34)) ⟨G, fun _ _ h => h, ⟨hC, hB, hg⟩, rfl⟩
        refine dsNone (j := 8) rfl ?_ ?_
        ·
         intro done G w ac_ hd hp hn ⟨hC, hB, hg⟩ hM
         replace hr40 := hr40.mono hg
         have f51 := hM.eqv (s := 51) 6 rfl (hp 6 rfl) rfl rfl
         have hF := (hM.fr.add f51)
         exact OpVal.draw hF (opLoadRow (cs := x35.cells) rfl (RowG.range hC.holds hr40) row30 (by simp [Mark.cells, Stand.cells])) ⟨G, fun _ _ h => h, ⟨hC, hB, hg⟩, rfl⟩
        refine dsNone (j := 9) rfl ?_ ?_
        ·
         intro done G w ac_ hd hp hn ⟨hC, hB, hg⟩ hM
         have f5 : ac_.tmps[5]? = some (.pointer (some ⟨b8, 0, none⟩)) := hM.old0 rfl rfl
         have hF := (hM.fr.add f5)
         exact OpVal.draw hF (opLoadRow (cs := m.cells) rfl (hB.range (i := 0) (m := 33) rfl (by simp [Mark.cells, Stand.cells])) row30 (by simp [Mark.cells, Stand.cells])) ⟨G, fun _ _ h => h, ⟨hC, hB, hg⟩, rfl⟩
        refine dsNone (j := 10) rfl ?_ ?_
        ·
         intro done G w ac_ hd hp hn ⟨hC, hB, hg⟩ hM
         have f52 := hM.eqv (s := 52) 7 rfl (hp 7 rfl) rfl rfl
         have f53 := hM.eqv (s := 53) 8 rfl (hp 8 rfl) rfl rfl
         have hF := ((hM.fr.add f52).add f53)
         exact OpVal.draw hF (opEqRow (eq30 _ x35 m) eg30 rfl rfl) ⟨G, fun _ _ h => h, ⟨hC, hB, hg⟩, rfl⟩
        exact dsNil
       ·
        intro done G w ac_ hall ⟨hC, hB, hg⟩ hM
        replace hs2 := hs2.mono hg
        replace hl := hl.mono hg
        replace hs22 := hs22.mono hg
        replace hs24 := hs24.mono hg
        replace hs26 := hs26.mono hg
        replace hr18 := hr18.mono hg
        have f1 : ac_.tmps[1]? = some (.slice (some ⟨b15, o16, none⟩) l.length cap6) := hM.old0 rfl rfl
        have f3 : ac_.tmps[3]? = some (.pointer (some ⟨b7, 0, none⟩)) := hM.old0 rfl rfl
        have f5 : ac_.tmps[5]? = some (.pointer (some ⟨b8, 0, none⟩)) := hM.old0 rfl rfl
        have f7 : ac_.tmps[7]? = some (.int .i64 (((n : Nat) : Int))) := hM.old0 rfl rfl
        have f8 : ac_.tmps[8]? = some (.int .i64 (((u : Nat) : Int))) := hM.old0 rfl rfl
        have f9 : ac_.tmps[9]? = some (.int .i64 (((k : Nat) : Int))) := hM.old0 rfl rfl
        have f10 : ac_.tmps[10]? = some (.int .i64 (((j : Nat) : Int))) := hM.old0 rfl rfl
        have f54 := hM.eqv (s := 54) 9 rfl (hall 9 (by decide)) rfl rfl
        refine ⟨((((((((Env.nil.put 1 (.slice (some ⟨b15, o16, none⟩) l.length cap6)).put 3 (.pointer (some ⟨b7, 0, none⟩))).put 5 (.pointer (some ⟨b8, 0, none⟩))).put 7 (.int .i64 (((n : Nat) : Int)))).put 8 (.int .i64 (((u : Nat) : Int)))).put 9 (.int .i64 (((k : Nat) : Int)))).put 10 (.int .i64 (((j : Nat) : Int)))).put 54 (.bool (decide (x35 = m)))), ((((((((hM.fr.add f1).add f3).add f5).add f7).add f8).add f9).add f10).add f54), ?_⟩
        clear hM hall
        refine wcOf ?_
        cases h43 : decide (x35 = m)
        ·
         skip
         refine wcCondF rfl ?_
         refine wcSkip ?_
         refine wcOf ?_
         refine wcRegion ?_
         refine wlVal (opMove rfl) rfl ?_
         refine wlVal (opIncr rfl rfl (incr_ok (of_decide_eq_true h34) hs22.le)) rfl ?_
         refine wlVal (opAssign rfl) rfl ?_
         refine wlRound ?_
         exact (IH1 (j + 1, u) _ _ ⟨hC, hB, hs2, hl, hs22, hs24, hs26, hr18, hu, (by rw [← hJ, drop_get hx36]; simp [h9, h10, h11, h33, h34, h43])⟩ (by have := of_decide_eq_true h11; have := of_decide_eq_true h34; simp; omega)).sub (fun _ ha => (((((((ha.start.cons ha (t := 1) rfl).cons ha (t := 3) rfl).cons ha (t := 5) rfl).cons ha (t := 7) rfl).cons ha (t := 8) rfl).cons ha (t := 9) rfl).cons ha (t := 10) rfl))
        ·
         skip
         refine wcCondT rfl ?_
         refine wcSeq (wcRegion ?_)
         refine wlVal (opMove rfl) rfl ?_
         refine wlVal (opIncr rfl rfl (by have := hl.le; unfold maxL at this; have := of_decide_eq_true h11; omega)) rfl ?_
         refine wlVal (opAssign rfl) rfl ?_
         refine wlThen ?_
         refine wcExit ?_
         refine wcOf ?_
         refine wcRegion ?_
         refine wlVal (opMove rfl) rfl ?_
         refine wlVal (opIncr rfl rfl (incr_ok (of_decide_eq_true h11) hl.le)) rfl ?_
         refine wlVal (opAssign rfl) rfl ?_
         refine wlRound ?_
         exact (IH0 (k + 1, n, u + 1) _ _ ⟨hC, hB, hs2, hl, (by omega), (by omega), (by rw [← hI, drop_get hx14]; simp only [List.countP_cons, low11B, h9, h10, h11, h33, h43]; simp; try omega), (by have hA := hJ; rw [drop_get hx36] at hA; simp only [List.any_cons, List.any_nil, h9, h10, h33, h43, Bool.true_or, Bool.false_or] at hA; rw [← hJ0, drop_get hx14]; simp only [List.countP_cons, low12B_eq, h9, h10, h11, h33, h43, ← hA]; simp; try omega)⟩ (by have := of_decide_eq_true h11; simp; omega)).sub (fun _ ha => ((((((ha.start.cons ha (t := 1) rfl).cons ha (t := 3) rfl).cons ha (t := 5) rfl).cons ha (t := 7) rfl).cons ha (t := 8) rfl).cons ha (t := 9) rfl))
     ·
      skip
      refine wcCondT rfl ?_
      refine wcRegion ?_
      refine wlVal (opMove rfl) rfl ?_
      refine wlVal (opIncr rfl rfl (by have := hl.le; unfold maxL at this; have := of_decide_eq_true h11; omega)) rfl ?_
      refine wlVal (opAssign rfl) rfl ?_
      refine wlThen (wcSeq (wcRegion ?_))
      refine wlVal (opAssign rfl) rfl ?_
      refine wlThen ?_
      refine wcBlock ?_
      refine WC.sub (wrInd (ι := Nat × Nat) (fun i => match i with | (j, u) => x13.marks.length - j) (fun i G w => match i with | (j, u) => Cx w0 G0 G w ∧ Bxs G w w0.heap.size [(b8, 30, m.cells), (b7, 24, [(.int .i64 c.faults), (.slice A3 c.nodes.length cap4)])] ∧ Sl G (.slice A3 c.nodes.length cap4) c.nodes ∧ Sl G (.slice (some ⟨b15, o16, none⟩) l.length cap6) l ∧ Sl G (.slice A27 x13.marks.length cap28) x13.marks ∧ Sl G (.slice A29 x13.p.length cap30) x13.p ∧ Sl G (.slice A31 x13.q.length cap32) x13.q ∧ RowG G b15 (o16 + k * 6) [(.int .i64 x13.node), (.int .i64 x13.view), (.int .i64 x13.low), (.slice A27 x13.marks.length cap28), (.slice A29 x13.p.length cap30), (.slice A31 x13.q.length cap32)] ∧ u = v ∧ (x13.marks.drop j).any (fun y => decide (y = m)) = x13.marks.any (fun y => decide (y = m))) (fun i => match i with | (j, u) => (((((((Env.nil.put 1 (.slice (some ⟨b15, o16, none⟩) l.length cap6)).put 3 (.pointer (some ⟨b7, 0, none⟩))).put 5 (.pointer (some ⟨b8, 0, none⟩))).put 7 (.int .i64 (((n + 1 : Nat) : Int)))).put 8 (.int .i64 (((u : Nat) : Int)))).put 9 (.int .i64 (((k : Nat) : Int)))).put 10 (.int .i64 (((j : Nat) : Int))))) ?_ (0, v) _ _ ⟨hC, hB, hs2, hl, hs22, hs24, hs26, hr18, rfl, rfl⟩) (fun _ ha => (((((((ha.start.cons ha (t := 1) rfl).cons ha (t := 3) rfl).cons ha (t := 5) rfl).cons ha (t := 7) rfl).cons ha (t := 8) rfl).cons ha (t := 9) rfl).cons ha (t := 10) rfl))
      rintro ⟨j, u⟩ G w N1 IH1 ⟨hC, hB, hs2, hl, hs22, hs24, hs26, hr18, hu, hJ⟩
      show WC _ _ _ _ (((((((Env.nil.put 1 (.slice (some ⟨b15, o16, none⟩) l.length cap6)).put 3 (.pointer (some ⟨b7, 0, none⟩))).put 5 (.pointer (some ⟨b8, 0, none⟩))).put 7 (.int .i64 (((n + 1 : Nat) : Int)))).put 8 (.int .i64 (((u : Nat) : Int)))).put 9 (.int .i64 (((k : Nat) : Int)))).put 10 (.int .i64 (((j : Nat) : Int)))) w
      refine wcSeq (wcSeq (wcRegion ?_))
      refine wlVal (opMove rfl) rfl ?_
      refine wlVal (opMove rfl) rfl ?_
      refine wlVal (opMove rfl) rfl ?_
      refine wlVal (opIndexAddr rfl rfl slo25 (of_decide_eq_true h11)) rfl ?_
      refine wlVal (opFieldAddr rfl fo49_3) rfl ?_
      refine wlVal (opLoadOne (v := (.slice A27 x13.marks.length cap28)) rfl (RowG.cell hC.holds hr18 (j := 3) rfl) one31) rfl ?_
      refine wlVal (opLen rfl isl31) rfl ?_
      refine wlVal (opLssN rfl rfl) rfl ?_
      refine wlThen ?_
      cases h44 : decide (j < x13.marks.length)
      ·
       skip
       refine wcCondF rfl ?_
       refine wcExit ?_
       refine wcOf ?_
       refine wcRegion ?_
       refine wlVal (opMove rfl) rfl ?_
       refine wlVal (opIncr rfl rfl (incr_ok (of_decide_eq_true h11) hl.le)) rfl ?_
       refine wlVal (opAssign rfl) rfl ?_
       refine wlRound ?_
       exact (IH0 (k + 1, n + 1, u) _ _ ⟨hC, hB, hs2, hl, (by omega), (by omega), (by rw [← hI, drop_get hx14]; simp only [List.countP_cons, low11B, h9, h10, h11, h33]; simp; try omega), (by have hA := hJ; rw [List.drop_eq_nil_of_le (Nat.le_of_not_lt (of_decide_eq_false h44))] at hA; simp only [List.any_cons, List.any_nil, h9, h10, h33, Bool.true_or, Bool.false_or] at hA; rw [← hJ0, drop_get hx14]; simp only [List.countP_cons, low12B_eq, h9, h10, h11, h33, ← hA]; simp; try omega)⟩ (by have := of_decide_eq_true h11; simp; omega)).sub (fun _ ha => ((((((ha.start.cons ha (t := 1) rfl).cons ha (t := 3) rfl).cons ha (t := 5) rfl).cons ha (t := 7) rfl).cons ha (t := 8) rfl).cons ha (t := 9) rfl))
      ·
       skip
       refine wcCondT rfl ?_
       refine wcSkip ?_
       refine wcOf ?_
       refine wcSeq ?_
       refine wcBlock (wcSeq ?_)
       obtain ⟨x45, hx46⟩ : ∃ y_, x13.marks[j]? = some y_ := ⟨_, List.getElem?_eq_getElem (of_decide_eq_true h44)⟩
       obtain ⟨b47, o48, row49, hA52, hr50, hi51⟩ := hs22.elem hx46; subst hA52
       obtain rfl := hi51
       refine wcDraw fmix (by kernel_rfl) (by kernel_rfl) (vAt [(fun _ v_ => v_ = (.slice (some ⟨b15, o16, none⟩) l.length cap6)), (fun _ v_ => v_ = (.int .i64 (((k : Nat) : Int)))), (fun _ v_ => v_ = (.pointer (some ⟨b15, o16 + k * 6, none⟩))), (fun _ v_ => v_ = (.pointer (some ⟨b15, o16 + k * 6 + 3, none⟩))), (fun _ v_ => v_ = (.slice (some ⟨b47, o48, none⟩) x13.marks.length cap28)), (fun _ v_ => v_ = (.int .i64 (((j : Nat) : Int)))), (fun _ v_ => v_ = (.pointer (some ⟨b47, o48 + j * 33, none⟩))), (fun _ v_ => v_ = (.agg x45.cells.toArray)), (fun _ v_ => v_ = (.agg m.cells.toArray)), (fun _ v_ => v_ = (.bool (decide (x45 = m))))]) (fun _ _ G' w => Cx w0 G0 G' w ∧ Bxs G' w w0.heap.size [(b8, 30, m.cells), (b7, 24, [(.int .i64 c.faults), (.slice A3 c.nodes.length cap4)])] ∧ GLe G G') G (vAt_mono ⟨fun _ _ _ _ h => h, fun _ _ _ _ h => h, fun _ _ _ _ h => h, fun _ _ _ _ h => h, fun _ _ _ _ h => h, fun _ _ _ _ h => h, fun _ _ _ _ h => h, fun _ _ _ _ h => h, fun _ _ _ _ h => h, fun _ _ _ _ h => h, trivial⟩) (fun _ _ => ⟨hC.drew, hB.drew, fun _ _ h => h⟩) ?_ ?_
       ·
        refine dsNone (j := 1) rfl ?_ ?_
        ·
         intro done G w ac_ hd hp hn ⟨hC, hB, hg⟩ hM
         have f1 : ac_.tmps[1]? = some (.slice (some ⟨b15, o16, none⟩) l.length cap6) := hM.old0 rfl rfl
         have hF := (hM.fr.add f1)
         exact OpVal.draw hF (opMove rfl) ⟨G, fun _ _ h => h, ⟨hC, hB, hg⟩, rfl⟩
        refine dsNone (j := 2) rfl ?_ ?_
        ·
         intro done G w ac_ hd hp hn ⟨hC, hB, hg⟩ hM
         have f9 : ac_.tmps[9]? = some (.int .i64 (((k : Nat) : Int))) := hM.old0 rfl rfl
         have hF := (hM.fr.add f9)
         exact OpVal.draw hF (opMove rfl) ⟨G, fun _ _ h => h, ⟨hC, hB, hg⟩, rfl⟩
        refine dsNone (j := 3) rfl ?_ ?_
        ·
         intro done G w ac_ hd hp hn ⟨hC, hB, hg⟩ hM
         have f45 := hM.eqv (s := 45) 0 rfl (hp 0 rfl) rfl rfl
         have f46 := hM.eqv (s := 46) 1 rfl (hp 1 rfl) rfl rfl
         have hF := ((hM.fr.add f45).add f46)
         exact OpVal.draw hF (opIndexAddr rfl rfl slo25 (of_decide_eq_true h11)) ⟨G, fun _ _ h => h, ⟨hC, hB, hg⟩, rfl⟩
        refine dsNone (j := 4) rfl ?_ ?_
        ·
         intro done G w ac_ hd hp hn ⟨hC, hB, hg⟩ hM
         have f47 := hM.eqv (s := 47) 2 rfl (hp 2 rfl) rfl rfl
         have hF := (hM.fr.add f47)
         exact OpVal.draw hF (opFieldAddr rfl fo49_3) ⟨G, fun _ _ h => h, ⟨hC, hB, hg⟩, rfl⟩
        refine dsNone (j := 5) rfl ?_ ?_
        ·
         intro done G w ac_ hd hp hn ⟨hC, hB, hg⟩ hM
         replace hr18 := hr18.mono hg
         have f48 := hM.eqv (s := 48) 3 rfl (hp 3 rfl) rfl rfl
         have hF := (hM.fr.add f48)
         exact OpVal.draw hF (opLoadOne (v := (.slice (some ⟨b47, o48, none⟩) x13.marks.length cap28)) rfl (RowG.cell hC.holds hr18 (j := 3) rfl) one31) ⟨G, fun _ _ h => h, ⟨hC, hB, hg⟩, rfl⟩
        refine dsNone (j := 6) rfl ?_ ?_
        ·
         intro done G w ac_ hd hp hn ⟨hC, hB, hg⟩ hM
         have f10 : ac_.tmps[10]? = some (.int .i64 (((j : Nat) : Int))) := hM.old0 rfl rfl
         have hF := (hM.fr.add f10)
         exact OpVal.draw hF (opMove rfl) ⟨G, fun _ _ h => h, ⟨hC, hB, hg⟩, rfl⟩
        refine dsNone (j := 7) rfl ?_ ?_
        ·
         intro done G w ac_ hd hp hn ⟨hC, hB, hg⟩ hM
         have f49 := hM.eqv (s := 49) 4 rfl (hp 4 rfl) rfl rfl
         have f50 := hM.eqv (s := 50) 5 rfl (hp 5 rfl) rfl rfl
         have hF := ((hM.fr.add f49).add f50)
         exact OpVal.draw hF (opIndexAddr rfl rfl slo31 (of_decide_eq_true h44)) ⟨G, fun _ _ h => h, ⟨hC, hB, hg⟩, rfl⟩
        refine dsNone (j := 8) rfl ?_ ?_
        ·
         intro done G w ac_ hd hp hn ⟨hC, hB, hg⟩ hM
         replace hr50 := hr50.mono hg
         have f51 := hM.eqv (s := 51) 6 rfl (hp 6 rfl) rfl rfl
         have hF := (hM.fr.add f51)
         exact OpVal.draw hF (opLoadRow (cs := x45.cells) rfl (RowG.range hC.holds hr50) row30 (by simp [Mark.cells, Stand.cells])) ⟨G, fun _ _ h => h, ⟨hC, hB, hg⟩, rfl⟩
        refine dsNone (j := 9) rfl ?_ ?_
        ·
         intro done G w ac_ hd hp hn ⟨hC, hB, hg⟩ hM
         have f5 : ac_.tmps[5]? = some (.pointer (some ⟨b8, 0, none⟩)) := hM.old0 rfl rfl
         have hF := (hM.fr.add f5)
         exact OpVal.draw hF (opLoadRow (cs := m.cells) rfl (hB.range (i := 0) (m := 33) rfl (by simp [Mark.cells, Stand.cells])) row30 (by simp [Mark.cells, Stand.cells])) ⟨G, fun _ _ h => h, ⟨hC, hB, hg⟩, rfl⟩
        refine dsNone (j := 10) rfl ?_ ?_
        ·
         intro done G w ac_ hd hp hn ⟨hC, hB, hg⟩ hM
         have f52 := hM.eqv (s := 52) 7 rfl (hp 7 rfl) rfl rfl
         have f53 := hM.eqv (s := 53) 8 rfl (hp 8 rfl) rfl rfl
         have hF := ((hM.fr.add f52).add f53)
         exact OpVal.draw hF (opEqRow (eq30 _ x45 m) eg30 rfl rfl) ⟨G, fun _ _ h => h, ⟨hC, hB, hg⟩, rfl⟩
        exact dsNil
       ·
        intro done G w ac_ hall ⟨hC, hB, hg⟩ hM
        replace hs2 := hs2.mono hg
        replace hl := hl.mono hg
        replace hs22 := hs22.mono hg
        replace hs24 := hs24.mono hg
        replace hs26 := hs26.mono hg
        replace hr18 := hr18.mono hg
        have f1 : ac_.tmps[1]? = some (.slice (some ⟨b15, o16, none⟩) l.length cap6) := hM.old0 rfl rfl
        have f3 : ac_.tmps[3]? = some (.pointer (some ⟨b7, 0, none⟩)) := hM.old0 rfl rfl
        have f5 : ac_.tmps[5]? = some (.pointer (some ⟨b8, 0, none⟩)) := hM.old0 rfl rfl
        have f7 : ac_.tmps[7]? = some (.int .i64 (((n + 1 : Nat) : Int))) := hM.old0 rfl rfl
        have f8 : ac_.tmps[8]? = some (.int .i64 (((u : Nat) : Int))) := hM.old0 rfl rfl
        have f9 : ac_.tmps[9]? = some (.int .i64 (((k : Nat) : Int))) := hM.old0 rfl rfl
        have f10 : ac_.tmps[10]? = some (.int .i64 (((j : Nat) : Int))) := hM.old0 rfl rfl
        have f54 := hM.eqv (s := 54) 9 rfl (hall 9 (by decide)) rfl rfl
        refine ⟨((((((((Env.nil.put 1 (.slice (some ⟨b15, o16, none⟩) l.length cap6)).put 3 (.pointer (some ⟨b7, 0, none⟩))).put 5 (.pointer (some ⟨b8, 0, none⟩))).put 7 (.int .i64 (((n + 1 : Nat) : Int)))).put 8 (.int .i64 (((u : Nat) : Int)))).put 9 (.int .i64 (((k : Nat) : Int)))).put 10 (.int .i64 (((j : Nat) : Int)))).put 54 (.bool (decide (x45 = m)))), ((((((((hM.fr.add f1).add f3).add f5).add f7).add f8).add f9).add f10).add f54), ?_⟩
        clear hM hall
        refine wcOf ?_
        cases h53 : decide (x45 = m)
        ·
         skip
         refine wcCondF rfl ?_
         refine wcSkip ?_
         refine wcOf ?_
         refine wcRegion ?_
         refine wlVal (opMove rfl) rfl ?_
         refine wlVal (opIncr rfl rfl (incr_ok (of_decide_eq_true h44) hs22.le)) rfl ?_
         refine wlVal (opAssign rfl) rfl ?_
         refine wlRound ?_
         exact (IH1 (j + 1, u) _ _ ⟨hC, hB, hs2, hl, hs22, hs24, hs26, hr18, hu, (by rw [← hJ, drop_get hx46]; simp [h9, h10, h11, h33, h44, h53])⟩ (by have := of_decide_eq_true h11; have := of_decide_eq_true h44; simp; omega)).sub (fun _ ha => (((((((ha.start.cons ha (t := 1) rfl).cons ha (t := 3) rfl).cons ha (t := 5) rfl).cons ha (t := 7) rfl).cons ha (t := 8) rfl).cons ha (t := 9) rfl).cons ha (t := 10) rfl))
        ·
         skip
         refine wcCondT rfl ?_
         refine wcSeq (wcRegion ?_)
         refine wlVal (opMove rfl) rfl ?_
         refine wlVal (opIncr rfl rfl (by have := hl.le; unfold maxL at this; have := of_decide_eq_true h11; omega)) rfl ?_
         refine wlVal (opAssign rfl) rfl ?_
         refine wlThen ?_
         refine wcExit ?_
         refine wcOf ?_
         refine wcRegion ?_
         refine wlVal (opMove rfl) rfl ?_
         refine wlVal (opIncr rfl rfl (incr_ok (of_decide_eq_true h11) hl.le)) rfl ?_
         refine wlVal (opAssign rfl) rfl ?_
         refine wlRound ?_
         exact (IH0 (k + 1, n + 1, u + 1) _ _ ⟨hC, hB, hs2, hl, (by omega), (by omega), (by rw [← hI, drop_get hx14]; simp only [List.countP_cons, low11B, h9, h10, h11, h33, h53]; simp; try omega), (by have hA := hJ; rw [drop_get hx46] at hA; simp only [List.any_cons, List.any_nil, h9, h10, h33, h53, Bool.true_or, Bool.false_or] at hA; rw [← hJ0, drop_get hx14]; simp only [List.countP_cons, low12B_eq, h9, h10, h11, h33, h53, ← hA]; simp; try omega)⟩ (by have := of_decide_eq_true h11; simp; omega)).sub (fun _ ha => ((((((ha.start.cons ha (t := 1) rfl).cons ha (t := 3) rfl).cons ha (t := 5) rfl).cons ha (t := 7) rfl).cons ha (t := 8) rfl).cons ha (t := 9) rfl))
  ·
   skip
   refine wcCondT rfl ?_
   refine wcSeq (wcRegion ?_)
   refine wlVal (opAssign rfl) rfl ?_
   refine wlThen ?_
   refine wcRet ?_
   exact fun ac_ ha => hQ _ _ _ (results1 ha rfl rfl) ha.df (endS hC hw (by have := h10; simp at *; simp [lowMayB]; intros; omega))
 ·
  skip
  refine wlOff rfl rfl rfl rfl ?_
  refine wlOff rfl rfl rfl rfl ?_
  refine wlOff rfl rfl rfl rfl ?_
  refine wlVal (opPickT rfl rfl) rfl ?_
  refine wlThen ?_
  refine wcCondT rfl ?_
  refine wcSeq (wcRegion ?_)
  refine wlVal (opAssign rfl) rfl ?_
  refine wlThen ?_
  refine wcRet ?_
  exact fun ac_ ha => hQ _ _ _ (results1 ha rfl rfl) ha.df (endS hC hw (by have := h9; simp at *; simp [lowMayB]; intros; omega))

end Go.Proofs.Ytbhkoipmojdkhaa
