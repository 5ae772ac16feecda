/- What functions of the pick seat return, part 9. No condition. -/
import Derived.Test.YtbhkoipmojdkhaaPkG8
set_option linter.all false
namespace Go.Proofs.Ytbhkoipmojdkhaa
open Go Go.Gx Go.RowKit
theorem st11B_eq (m y : Stand) : st11B m y = ((y.seq == m.seq) && (decide (m.view ≤ y.view) && !((y.view == m.view) && decide (y.dig = m.dig)))) := by
  cases m; cases y; rw [Bool.eq_iff_iff]; simp [st11B]; intro h1 h2; constructor
  · intro h; rcases h with h | h | h
    · exact absurd h1 h
    · exact .inr h
    · exact .inl h
  · intro h; rcases h with h | h
    · exact .inr (.inr h)
    · exact .inr (.inl h)
theorem lt_of_ge {a b : Int} {x : Bool} (h : decide (a ≤ b) = x) : decide (b < a) = !x := by
  subst h; by_cases h : a ≤ b <;> simp [h] <;> omega
theorem silent_ret (G0 : Gh) (w0 : World) (hw : Holds G0 w0) (csx : List Value) (x : Change) (hx : Rp.Is G0 csx x) (sq : Int) :
  RetS Try.prog 58 #[.agg csx.toArray, .int .i64 sq] G0 w0 (.bool (at3B sq x)) := by
 have hC := Cx.refl hw
 have hB : Bxs G0 w0 w0.heap.size [] := Bxs.nil _ _ _
 obtain ⟨v1, v3, v5, rfl, hs2, hs4, hs6⟩ := Change.opIs hx
 obtain ⟨A7, cap8, rfl⟩ := hs2.form
 obtain ⟨A9, cap10, rfl⟩ := hs4.form
 obtain ⟨A11, cap12, rfl⟩ := hs6.form
 refine callsOf Try.func58 rfl _ Try.ntmps58 rfl _ (argsCons (argsCons argsNil (t := 0) rfl) (t := 1) rfl) ?_; intro Q0 hQ
 refine wcSeq (wcRegion ?_)
 refine wlBox (cs := [(.int .i64 x.node), (.int .i64 x.view), (.int .i64 x.low), (.slice A7 x.marks.length cap8), (.slice A9 x.p.length cap10), (.slice A11 x.q.length cap12)]) hC hB rfl rfl rfl ?_; intro b13 w hk hC hB
 refine wlVal (opAssign rfl) rfl ?_
 refine wlThen (wcSeq (wcSeq (wcRegion ?_)))
 refine wlVal (opAssign rfl) rfl ?_
 refine wlThen ?_
 refine wcBlock ?_
 refine WC.sub (wrInd (ι := Nat) (fun k => x.p.length - k) (fun k G w => Cx w0 G0 G w ∧ Bxs G w w0.heap.size [(b13, 49, [(.int .i64 x.node), (.int .i64 x.view), (.int .i64 x.low), (.slice A7 x.marks.length cap8), (.slice A9 x.p.length cap10), (.slice A11 x.q.length cap12)])] ∧ Sl G (.slice A7 x.marks.length cap8) x.marks ∧ Sl G (.slice A9 x.p.length cap10) x.p ∧ Sl G (.slice A11 x.q.length cap12) x.q ∧ (x.p.drop k).any (fun y => y.seq == sq) = x.p.any (fun y => y.seq == sq)) (fun k => (((Env.nil.put 1 (.int .i64 sq)).put 2 (.pointer (some ⟨b13, 0, none⟩))).put 5 (.int .i64 (((k : Nat) : Int))))) ?_ (0) _ _ ⟨hC, hB, hs2, hs4, hs6, rfl⟩) (fun _ ha => (((ha.start.cons ha (t := 1) rfl).cons ha (t := 2) rfl).cons ha (t := 5) rfl))
 rintro k G w N0 IH0 ⟨hC, hB, hs2, hs4, hs6, hI⟩
 show WC _ _ _ _ (((Env.nil.put 1 (.int .i64 sq)).put 2 (.pointer (some ⟨b13, 0, none⟩))).put 5 (.int .i64 (((k : Nat) : Int)))) w
 refine wcSeq (wcSeq (wcRegion ?_))
 refine wlVal (opMove rfl) rfl ?_
 refine wlVal (opFieldAddr rfl fo49_4) rfl ?_
 refine wlVal (opLoadOne (v := (.slice A9 x.p.length cap10)) rfl (hB.cell (i := 0) rfl rfl) one47) rfl ?_
 refine wlVal (opLen rfl isl47) rfl ?_
 refine wlVal (opLssN rfl rfl) rfl ?_
 refine wlThen ?_
 cases h14 : decide (k < x.p.length)
 ·
  skip
  refine wcCondF rfl ?_
  refine wcExit ?_
  refine wcOf ?_
  refine wcSeq (wcRegion ?_)
  refine wlVal (opFieldAddr rfl fo49_2) rfl ?_
  refine wlVal (opLoadOne (v := (.int .i64 x.low)) rfl (hB.cell (i := 0) rfl rfl) one3) rfl ?_
  refine wlVal (opMove rfl) rfl ?_
  refine wlVal (opLss rfl rfl) rfl ?_
  refine wlVal (opAssign rfl) rfl ?_
  refine wlThen ?_
  refine wcRet ?_
  exact fun ac_ ha => hQ _ _ _ (results1 ha rfl rfl) ha.df (endS hC hw (by have e := hI; rw [List.drop_eq_nil_of_le (Nat.le_of_not_lt (of_decide_eq_false h14))] at e; simp [h14] at e; simp [at3B, h14]; first | done | exact e | simp [e] | (intro _; exact e)))
 ·
  skip
  refine wcCondT rfl ?_
  refine wcSkip ?_
  refine wcOf ?_
  refine wcSeq ?_
  refine wcBlock (wcSeq (wcRegion ?_))
  refine wlVal (opFieldAddr rfl fo49_4) rfl ?_
  refine wlVal (opLoadOne (v := (.slice A9 x.p.length cap10)) rfl (hB.cell (i := 0) rfl rfl) one47) rfl ?_
  refine wlVal (opMove rfl) rfl ?_
  obtain ⟨x15, hx16⟩ : ∃ y_, x.p[k]? = some y_ := ⟨_, List.getElem?_eq_getElem (of_decide_eq_true h14)⟩
  obtain ⟨b17, o18, row19, hA22, hr20, hi21⟩ := hs4.elem hx16; subst hA22
  obtain rfl := hi21
  refine wlVal (opIndexAddr rfl rfl slo47 (of_decide_eq_true h14)) rfl ?_
  refine wlVal (opFieldAddr rfl fo58_0) rfl ?_
  refine wlVal (opLoadOne (v := (.int .i64 x15.seq)) rfl (RowG.cell0 hC.holds hr20 (by simp [Mark.cells, Stand.cells])) one3) rfl ?_
  refine wlVal (opMove rfl) rfl ?_
  refine wlVal (opEql rfl rfl) rfl ?_
  refine wlThen ?_
  cases h23 : x15.seq == sq
  ·
   skip
   refine wcCondF rfl ?_
   refine wcSkip ?_
   refine wcOf ?_
   refine wcRegion ?_
   refine wlVal (opMove rfl) rfl ?_
   refine wlVal (opIncr rfl rfl (incr_ok (of_decide_eq_true h14) hs4.le)) rfl ?_
   refine wlVal (opAssign rfl) rfl ?_
   refine wlRound ?_
   exact (IH0 (k + 1) _ _ ⟨hC, hB, hs2, hs4, hs6, (by rw [← hI, drop_get hx16]; simp [h14, h23])⟩ (by have := of_decide_eq_true h14; simp; omega)).sub (fun _ ha => (((ha.start.cons ha (t := 1) rfl).cons ha (t := 2) rfl).cons ha (t := 5) rfl))
  ·
   skip
   refine wcCondT rfl ?_
   refine wcSeq (wcRegion ?_)
   refine wlVal (opAssign rfl) rfl ?_
   refine wlThen ?_
   refine wcRet ?_
   exact fun ac_ ha => hQ _ _ _ (results1 ha rfl rfl) ha.df (endS hC hw (by have e := hI; rw [drop_get hx16] at e; simp [h14, h23] at e; simp [at3B, h14, h23]; first | done | exact e | simp [e] | (intro _; exact e)))

theorem agrees_ret (G0 : Gh) (w0 : World) (hw : Holds G0 w0) (csx : List Value) (x : Change) (hx : Rp.Is G0 csx x) (m : Stand) :
  RetS Try.prog 71 #[.agg csx.toArray, .agg m.cells.toArray] G0 w0 (.bool (st1B m x)) := by
 have hC := Cx.refl hw
 have hB : Bxs G0 w0 w0.heap.size [] := Bxs.nil _ _ _
 obtain ⟨v1, v3, v5, rfl, hs2, hs4, hs6⟩ := Change.opIs hx
 obtain ⟨A7, cap8, rfl⟩ := hs2.form
 obtain ⟨A9, cap10, rfl⟩ := hs4.form
 obtain ⟨A11, cap12, rfl⟩ := hs6.form
 refine callsOf Try.func71 rfl _ Try.ntmps71 rfl _ (argsCons (argsCons argsNil (t := 0) rfl) (t := 1) rfl) ?_; intro Q0 hQ
 refine wcSeq (wcRegion ?_)
 refine wlBox (cs := [(.int .i64 x.node), (.int .i64 x.view), (.int .i64 x.low), (.slice A7 x.marks.length cap8), (.slice A9 x.p.length cap10), (.slice A11 x.q.length cap12)]) hC hB rfl rfl rfl ?_; intro b13 w hk hC hB
 refine wlBox (cs := m.cells) hC hB rfl rfl rfl ?_; intro b14 w hk hC hB
 refine wlVal (opAssign rfl) rfl ?_
 refine wlThen (wcSeq (wcSeq (wcRegion ?_)))
 refine wlVal (opFieldAddr rfl fo49_2) rfl ?_
 refine wlVal (opLoadOne (v := (.int .i64 x.low)) rfl (hB.cell (i := 1) rfl rfl) one3) rfl ?_
 refine wlVal (opFieldAddr rfl fo58_0) rfl ?_
 refine wlVal (opLoadOne (v := (.int .i64 m.seq)) rfl (hB.cell (i := 0) rfl (by simp [Mark.cells, Stand.cells])) one3) rfl ?_
 refine wlVal (opGeq rfl rfl) rfl ?_
 refine wlThen ?_
 cases h15 : decide (m.seq ≤ x.low)
 ·
  skip
  refine wcCondF rfl ?_
  refine wcSkip ?_
  refine wcOf ?_
  refine wcSeq (wcSeq (wcRegion ?_))
  refine wlVal (opAssign rfl) rfl ?_
  refine wlThen ?_
  refine wcBlock ?_
  refine WC.sub (wrInd (ι := Nat) (fun k => x.p.length - k) (fun k G w => Cx w0 G0 G w ∧ Bxs G w w0.heap.size [(b14, 58, m.cells), (b13, 49, [(.int .i64 x.node), (.int .i64 x.view), (.int .i64 x.low), (.slice A7 x.marks.length cap8), (.slice A9 x.p.length cap10), (.slice A11 x.q.length cap12)])] ∧ Sl G (.slice A7 x.marks.length cap8) x.marks ∧ Sl G (.slice A9 x.p.length cap10) x.p ∧ Sl G (.slice A11 x.q.length cap12) x.q ∧ (x.p.drop k).any (st11B m) = x.p.any (st11B m)) (fun k => (((Env.nil.put 2 (.pointer (some ⟨b13, 0, none⟩))).put 3 (.pointer (some ⟨b14, 0, none⟩))).put 5 (.int .i64 (((k : Nat) : Int))))) ?_ (0) _ _ ⟨hC, hB, hs2, hs4, hs6, rfl⟩) (fun _ ha => (((ha.start.cons ha (t := 2) rfl).cons ha (t := 3) rfl).cons ha (t := 5) rfl))
  rintro k G w N0 IH0 ⟨hC, hB, hs2, hs4, hs6, hI⟩
  show WC _ _ _ _ (((Env.nil.put 2 (.pointer (some ⟨b13, 0, none⟩))).put 3 (.pointer (some ⟨b14, 0, none⟩))).put 5 (.int .i64 (((k : Nat) : Int)))) w
  refine wcSeq (wcSeq (wcRegion ?_))
  refine wlVal (opMove rfl) rfl ?_
  refine wlVal (opFieldAddr rfl fo49_4) rfl ?_
  refine wlVal (opLoadOne (v := (.slice A9 x.p.length cap10)) rfl (hB.cell (i := 1) rfl rfl) one47) rfl ?_
  refine wlVal (opLen rfl isl47) rfl ?_
  refine wlVal (opLssN rfl rfl) rfl ?_
  refine wlThen ?_
  cases h16 : decide (k < x.p.length)
  ·
   skip
   refine wcCondF rfl ?_
   refine wcExit ?_
   refine wcOf ?_
   refine wcSeq (wcRegion ?_)
   refine wlVal (opAssign rfl) rfl ?_
   refine wlThen ?_
   refine wcRet ?_
   exact fun ac_ ha => hQ _ _ _ (results1 ha rfl rfl) ha.df (endS hC hw (by simp only [st1B]; have e := hI; rw [List.drop_eq_nil_of_le (Nat.le_of_not_lt (of_decide_eq_false h16))] at e; simp only [List.any_cons, List.any_nil, st11B_eq, h15, h16, Bool.and_true, Bool.true_and, Bool.and_false, Bool.false_and, Bool.not_true, Bool.not_false, Bool.true_or, Bool.false_or] at e; simp only [← e, lt_of_ge h15]; rfl))
  ·
   skip
   refine wcCondT rfl ?_
   refine wcSkip ?_
   refine wcOf ?_
   refine wcSeq ?_
   refine wcBlock (wcSeq (wcRegion ?_))
   refine wlVal (opFieldAddr rfl fo49_4) rfl ?_
   refine wlVal (opLoadOne (v := (.slice A9 x.p.length cap10)) rfl (hB.cell (i := 1) rfl rfl) one47) rfl ?_
   refine wlVal (opMove rfl) rfl ?_
   obtain ⟨x17, hx18⟩ : ∃ y_, x.p[k]? = some y_ := ⟨_, List.getElem?_eq_getElem (of_decide_eq_true h16)⟩
   obtain ⟨b19, o20, row21, hA24, hr22, hi23⟩ := hs4.elem hx18; subst hA24
   obtain rfl := hi23
   refine wlVal (opIndexAddr rfl rfl slo47 (of_decide_eq_true h16)) rfl ?_
   refine wlVal (opLoadRow (cs := x17.cells) rfl (RowG.range hC.holds hr22) row58 (by simp [Mark.cells, Stand.cells])) rfl ?_
   refine wlAlloc hC hB zero58 rfl ?_; intro b25 w hk hC hB
   refine wlStore 0 (vs := x17.cells) (cs := ((.int .i64 0) :: (Dig.zero.cells ++ ((.int .i64 0) :: [])))) (cs' := x17.cells) hC hB rfl rfl rfl sz58 rfl (by simp [Mark.cells, Stand.cells]) (by simp [Mark.cells, Stand.cells, Value.oneCell']) (by simp [Mark.cells, Stand.cells]) (by simp [Mark.cells, Stand.cells]) rfl ?_; intro w hC hB
   refine wlThen (wcSeq (wcRegion ?_))
   refine wlVal (opFieldAddr rfl fo58_0) rfl ?_
   refine wlVal (opLoadOne (v := (.int .i64 x17.seq)) rfl (hB.cell (i := 0) rfl (by simp [Mark.cells, Stand.cells])) one3) rfl ?_
   refine wlVal (opFieldAddr rfl fo58_0) rfl ?_
   refine wlVal (opLoadOne (v := (.int .i64 m.seq)) rfl (hB.cell (i := 1) rfl (by simp [Mark.cells, Stand.cells])) one3) rfl ?_
   refine wlVal (opEql rfl rfl) rfl ?_
   refine wlVal (opMove rfl) rfl ?_
   cases h26 : x17.seq == m.seq
   ·
    skip
    refine wlOff rfl rfl rfl rfl ?_
    refine wlOff rfl rfl rfl rfl ?_
    refine wlOff rfl rfl rfl rfl ?_
    refine wlOff rfl rfl rfl rfl ?_
    refine wlOff rfl rfl rfl rfl ?_
    refine wlVal (opPickF rfl rfl) rfl ?_
    refine wlVal (opMove rfl) rfl ?_
    refine wlOff rfl rfl rfl rfl ?_
    refine wlOff rfl rfl rfl rfl ?_
    refine wlOff rfl rfl rfl rfl ?_
    refine wlOff rfl rfl rfl rfl ?_
    refine wlOff rfl rfl rfl rfl ?_
    refine wlOff rfl rfl rfl rfl ?_
    refine wlOffU rfl rfl rfl ?_
    refine wlOffU rfl rfl rfl ?_
    refine wlOffU rfl rfl rfl ?_
    refine wlOffU rfl rfl rfl ?_
    refine wlOffU rfl rfl rfl ?_
    refine wlOff rfl rfl rfl rfl ?_
    refine wlOff rfl rfl rfl rfl ?_
    refine wlVal (opPickF rfl rfl) rfl ?_
    refine wlThen ?_
    refine wcCondF rfl ?_
    refine wcSkip ?_
    refine wcOf ?_
    refine wcRegion ?_
    refine wlVal (opMove rfl) rfl ?_
    refine wlVal (opIncr rfl rfl (incr_ok (of_decide_eq_true h16) hs4.le)) rfl ?_
    refine wlVal (opAssign rfl) rfl ?_
    refine wlRound ?_
    exact (IH0 (k + 1) _ _ ⟨hC, hB.tail, hs2, hs4, hs6, (by rw [← hI, drop_get hx18]; simp [st11B_eq, h15, h16, h26])⟩ (by have := of_decide_eq_true h16; simp; omega)).sub (fun _ ha => (((ha.start.cons ha (t := 2) rfl).cons ha (t := 3) rfl).cons ha (t := 5) rfl))
   ·
    skip
    refine wlOn rfl rfl ?_
    refine wlVal (opFieldAddr rfl fo58_2) rfl ?_
    refine wlOn rfl rfl ?_
    refine wlVal (opLoadOne (v := (.int .i64 x17.view)) rfl (hB.cell (i := 0) rfl (by simp [Mark.cells, Stand.cells])) one3) rfl ?_
    refine wlOn rfl rfl ?_
    refine wlVal (opFieldAddr rfl fo58_2) rfl ?_
    refine wlOn rfl rfl ?_
    refine wlVal (opLoadOne (v := (.int .i64 m.view)) rfl (hB.cell (i := 1) rfl (by simp [Mark.cells, Stand.cells])) one3) rfl ?_
    refine wlOn rfl rfl ?_
    refine wlVal (opGeq rfl rfl) rfl ?_
    refine wlVal (opPickT rfl rfl) rfl ?_
    refine wlVal (opMove rfl) rfl ?_
    cases h27 : decide (m.view ≤ x17.view)
    ·
     skip
     refine wlOff rfl rfl rfl rfl ?_
     refine wlOff rfl rfl rfl rfl ?_
     refine wlOff rfl rfl rfl rfl ?_
     refine wlOff rfl rfl rfl rfl ?_
     refine wlOff rfl rfl rfl rfl ?_
     refine wlOff rfl rfl rfl rfl ?_
     refine wlOffU rfl rfl rfl ?_
     refine wlOffU rfl rfl rfl ?_
     refine wlOffU rfl rfl rfl ?_
     refine wlOffU rfl rfl rfl ?_
     refine wlOffU rfl rfl rfl ?_
     refine wlOff rfl rfl rfl rfl ?_
     refine wlOff rfl rfl rfl rfl ?_
     refine wlVal (opPickF rfl rfl) rfl ?_
     refine wlThen ?_
     refine wcCondF rfl ?_
     refine wcSkip ?_
     refine wcOf ?_
     refine wcRegion ?_
     refine wlVal (opMove rfl) rfl ?_
     refine wlVal (opIncr rfl rfl (incr_ok (of_decide_eq_true h16) hs4.le)) rfl ?_
     refine wlVal (opAssign rfl) rfl ?_
     refine wlRound ?_
     exact (IH0 (k + 1) _ _ ⟨hC, hB.tail, hs2, hs4, hs6, (by rw [← hI, drop_get hx18]; simp [st11B_eq, h15, h16, h26, h27])⟩ (by have := of_decide_eq_true h16; simp; omega)).sub (fun _ ha => (((ha.start.cons ha (t := 2) rfl).cons ha (t := 3) rfl).cons ha (t := 5) rfl))
    ·
     skip
     refine wlOn rfl rfl ?_
     refine wlVal (opFieldAddr rfl fo58_2) rfl ?_
     refine wlOn rfl rfl ?_
     refine wlVal (opLoadOne (v := (.int .i64 x17.view)) rfl (hB.cell (i := 0) rfl (by simp [Mark.cells, Stand.cells])) one3) rfl ?_
     refine wlOn rfl rfl ?_
     refine wlVal (opFieldAddr rfl fo58_2) rfl ?_
     refine wlOn rfl rfl ?_
     refine wlVal (opLoadOne (v := (.int .i64 m.view)) rfl (hB.cell (i := 1) rfl (by simp [Mark.cells, Stand.cells])) one3) rfl ?_
     refine wlOn rfl rfl ?_
     refine wlVal (opEql rfl rfl) rfl ?_
     refine wlOn rfl rfl ?_
     refine wlVal (opMove rfl) rfl ?_
     cases h28 : x17.view == m.view
     ·
      skip
      refine wlOff rfl rfl rfl rfl ?_
      refine wlOff rfl rfl rfl rfl ?_
      refine wlOff rfl rfl rfl rfl ?_
      refine wlOff rfl rfl rfl rfl ?_
      refine wlOff rfl rfl rfl rfl ?_
      refine wlOn rfl rfl ?_
      refine wlVal (opPickF rfl rfl) rfl ?_
      refine wlOn rfl rfl ?_
      refine wlVal (opNot rfl) rfl ?_
      refine wlVal (opPickT rfl rfl) rfl ?_
      refine wlThen ?_
      refine wcCondT rfl ?_
      refine wcSeq (wcRegion ?_)
      refine wlVal (opAssign rfl) rfl ?_
      refine wlThen ?_
      refine wcRet ?_
      exact fun ac_ ha => hQ _ _ _ (results1 ha rfl rfl) ha.df (endS hC hw (by simp only [st1B]; have e := hI; rw [drop_get hx18] at e; simp only [List.any_cons, List.any_nil, st11B_eq, h15, h16, h26, h27, h28, Bool.and_true, Bool.true_and, Bool.and_false, Bool.false_and, Bool.not_true, Bool.not_false, Bool.true_or, Bool.false_or] at e; simp only [← e, lt_of_ge h15]; rfl))
     ·
      skip
      refine wlOn rfl rfl ?_
      refine wlVal (opFieldAddr rfl fo58_1) rfl ?_
      refine wlOn rfl rfl ?_
      refine wlVal (opLoadRow (cs := x17.dig.cells) rfl (hB.range (i := 0) (m := 32) rfl (by simp [Mark.cells, Stand.cells])) row28 (by simp [Mark.cells, Stand.cells])) rfl ?_
      refine wlOn rfl rfl ?_
      refine wlVal (opFieldAddr rfl fo58_1) rfl ?_
      refine wlOn rfl rfl ?_
      refine wlVal (opLoadRow (cs := m.dig.cells) rfl (hB.range (i := 1) (m := 32) rfl (by simp [Mark.cells, Stand.cells])) row28 (by simp [Mark.cells, Stand.cells])) rfl ?_
      refine wlOn rfl rfl ?_
      refine wlVal (opEqRow (eq28 _ x17.dig m.dig) eg28 rfl rfl) rfl ?_
      refine wlOn rfl rfl ?_
      refine wlVal (opPickT rfl rfl) rfl ?_
      refine wlOn rfl rfl ?_
      refine wlVal (opNot rfl) rfl ?_
      refine wlVal (opPickT rfl rfl) rfl ?_
      refine wlThen ?_
      cases h29 : decide (x17.dig = m.dig)
      ·
       skip
       refine wcCondT rfl ?_
       refine wcSeq (wcRegion ?_)
       refine wlVal (opAssign rfl) rfl ?_
       refine wlThen ?_
       refine wcRet ?_
       exact fun ac_ ha => hQ _ _ _ (results1 ha rfl rfl) ha.df (endS hC hw (by simp only [st1B]; have e := hI; rw [drop_get hx18] at e; simp only [List.any_cons, List.any_nil, st11B_eq, h15, h16, h26, h27, h28, h29, Bool.and_true, Bool.true_and, Bool.and_false, Bool.false_and, Bool.not_true, Bool.not_false, Bool.true_or, Bool.false_or] at e; simp only [← e, lt_of_ge h15]; rfl))
      ·
       skip
       refine wcCondF rfl ?_
       refine wcSkip ?_
       refine wcOf ?_
       refine wcRegion ?_
       refine wlVal (opMove rfl) rfl ?_
       refine wlVal (opIncr rfl rfl (incr_ok (of_decide_eq_true h16) hs4.le)) rfl ?_
       refine wlVal (opAssign rfl) rfl ?_
       refine wlRound ?_
       exact (IH0 (k + 1) _ _ ⟨hC, hB.tail, hs2, hs4, hs6, (by rw [← hI, drop_get hx18]; simp [st11B_eq, h15, h16, h26, h27, h28, h29])⟩ (by have := of_decide_eq_true h16; simp; omega)).sub (fun _ ha => (((ha.start.cons ha (t := 2) rfl).cons ha (t := 3) rfl).cons ha (t := 5) rfl))
 ·
  skip
  refine wcCondT rfl ?_
  refine wcSeq (wcRegion ?_)
  refine wlVal (opAssign rfl) rfl ?_
  refine wlThen ?_
  refine wcRet ?_
  exact fun ac_ ha => hQ _ _ _ (results1 ha rfl rfl) ha.df (endS hC hw (by simp only [st1B, lt_of_ge h15]; rfl))

theorem vouches_ret (G0 : Gh) (w0 : World) (hw : Holds G0 w0) (csx : List Value) (x : Change) (hx : Rp.Is G0 csx x) (m : Stand) :
  RetS Try.prog 72 #[.agg csx.toArray, .agg m.cells.toArray] G0 w0 (.bool (st2B m x)) := by
 have hC := Cx.refl hw
 have hB : Bxs G0 w0 w0.heap.size [] := Bxs.nil _ _ _
 obtain ⟨v1, v3, v5, rfl, hs2, hs4, hs6⟩ := Change.opIs hx
 obtain ⟨A7, cap8, rfl⟩ := hs2.form
 obtain ⟨A9, cap10, rfl⟩ := hs4.form
 obtain ⟨A11, cap12, rfl⟩ := hs6.form
 refine callsOf Try.func72 rfl _ Try.ntmps72 rfl _ (argsCons (argsCons argsNil (t := 0) rfl) (t := 1) rfl) ?_; intro Q0 hQ
 refine wcSeq (wcRegion ?_)
 refine wlBox (cs := [(.int .i64 x.node), (.int .i64 x.view), (.int .i64 x.low), (.slice A7 x.marks.length cap8), (.slice A9 x.p.length cap10), (.slice A11 x.q.length cap12)]) hC hB rfl rfl rfl ?_; intro b13 w hk hC hB
 refine wlBox (cs := m.cells) hC hB rfl rfl rfl ?_; intro b14 w hk hC hB
 refine wlVal (opAssign rfl) rfl ?_
 refine wlThen (wcSeq (wcSeq (wcRegion ?_)))
 refine wlVal (opAssign rfl) rfl ?_
 refine wlThen ?_
 refine wcBlock ?_
 refine WC.sub (wrInd (ι := Nat) (fun k => x.q.length - k) (fun k G w => Cx w0 G0 G w ∧ Bxs G w w0.heap.size [(b14, 58, m.cells), (b13, 49, [(.int .i64 x.node), (.int .i64 x.view), (.int .i64 x.low), (.slice A7 x.marks.length cap8), (.slice A9 x.p.length cap10), (.slice A11 x.q.length cap12)])] ∧ Sl G (.slice A7 x.marks.length cap8) x.marks ∧ Sl G (.slice A9 x.p.length cap10) x.p ∧ Sl G (.slice A11 x.q.length cap12) x.q ∧ (x.q.drop k).any (st21B m) = x.q.any (st21B m)) (fun k => (((Env.nil.put 2 (.pointer (some ⟨b13, 0, none⟩))).put 3 (.pointer (some ⟨b14, 0, none⟩))).put 5 (.int .i64 (((k : Nat) : Int))))) ?_ (0) _ _ ⟨hC, hB, hs2, hs4, hs6, rfl⟩) (fun _ ha => (((ha.start.cons ha (t := 2) rfl).cons ha (t := 3) rfl).cons ha (t := 5) rfl))
 rintro k G w N0 IH0 ⟨hC, hB, hs2, hs4, hs6, hI⟩
 show WC _ _ _ _ (((Env.nil.put 2 (.pointer (some ⟨b13, 0, none⟩))).put 3 (.pointer (some ⟨b14, 0, none⟩))).put 5 (.int .i64 (((k : Nat) : Int)))) w
 refine wcSeq (wcSeq (wcRegion ?_))
 refine wlVal (opMove rfl) rfl ?_
 refine wlVal (opFieldAddr rfl fo49_5) rfl ?_
 refine wlVal (opLoadOne (v := (.slice A11 x.q.length cap12)) rfl (hB.cell (i := 1) rfl rfl) one47) rfl ?_
 refine wlVal (opLen rfl isl47) rfl ?_
 refine wlVal (opLssN rfl rfl) rfl ?_
 refine wlThen ?_
 cases h15 : decide (k < x.q.length)
 ·
  skip
  refine wcCondF rfl ?_
  refine wcExit ?_
  refine wcOf ?_
  refine wcSeq (wcRegion ?_)
  refine wlVal (opAssign rfl) rfl ?_
  refine wlThen ?_
  refine wcRet ?_
  exact fun ac_ ha => hQ _ _ _ (results1 ha rfl rfl) ha.df (endS hC hw (by simp only [st2B]; have e := hI; rw [List.drop_eq_nil_of_le (Nat.le_of_not_lt (of_decide_eq_false h15))] at e; simp only [List.any_cons, List.any_nil, st21B, h15, Bool.and_true, Bool.true_and, Bool.and_false, Bool.false_and, Bool.true_or, Bool.false_or] at e; simp only [← e]))
 ·
  skip
  refine wcCondT rfl ?_
  refine wcSkip ?_
  refine wcOf ?_
  refine wcSeq ?_
  refine wcBlock (wcSeq (wcRegion ?_))
  refine wlVal (opFieldAddr rfl fo49_5) rfl ?_
  refine wlVal (opLoadOne (v := (.slice A11 x.q.length cap12)) rfl (hB.cell (i := 1) rfl rfl) one47) rfl ?_
  refine wlVal (opMove rfl) rfl ?_
  obtain ⟨x16, hx17⟩ : ∃ y_, x.q[k]? = some y_ := ⟨_, List.getElem?_eq_getElem (of_decide_eq_true h15)⟩
  obtain ⟨b18, o19, row20, hA23, hr21, hi22⟩ := hs6.elem hx17; subst hA23
  obtain rfl := hi22
  refine wlVal (opIndexAddr rfl rfl slo47 (of_decide_eq_true h15)) rfl ?_
  refine wlVal (opLoadRow (cs := x16.cells) rfl (RowG.range hC.holds hr21) row58 (by simp [Mark.cells, Stand.cells])) rfl ?_
  refine wlAlloc hC hB zero58 rfl ?_; intro b24 w hk hC hB
  refine wlStore 0 (vs := x16.cells) (cs := ((.int .i64 0) :: (Dig.zero.cells ++ ((.int .i64 0) :: [])))) (cs' := x16.cells) hC hB rfl rfl rfl sz58 rfl (by simp [Mark.cells, Stand.cells]) (by simp [Mark.cells, Stand.cells, Value.oneCell']) (by simp [Mark.cells, Stand.cells]) (by simp [Mark.cells, Stand.cells]) rfl ?_; intro w hC hB
  refine wlThen (wcSeq (wcRegion ?_))
  refine wlVal (opFieldAddr rfl fo58_0) rfl ?_
  refine wlVal (opLoadOne (v := (.int .i64 x16.seq)) rfl (hB.cell (i := 0) rfl (by simp [Mark.cells, Stand.cells])) one3) rfl ?_
  refine wlVal (opFieldAddr rfl fo58_0) rfl ?_
  refine wlVal (opLoadOne (v := (.int .i64 m.seq)) rfl (hB.cell (i := 1) rfl (by simp [Mark.cells, Stand.cells])) one3) rfl ?_
  refine wlVal (opEql rfl rfl) rfl ?_
  refine wlVal (opMove rfl) rfl ?_
  cases h25 : x16.seq == m.seq
  ·
   skip
   refine wlOff rfl rfl rfl rfl ?_
   refine wlOff rfl rfl rfl rfl ?_
   refine wlOff rfl rfl rfl rfl ?_
   refine wlOff rfl rfl rfl rfl ?_
   refine wlOff rfl rfl rfl rfl ?_
   refine wlVal (opPickF rfl rfl) rfl ?_
   refine wlVal (opMove rfl) rfl ?_
   refine wlOff rfl rfl rfl rfl ?_
   refine wlOff rfl rfl rfl rfl ?_
   refine wlOff rfl rfl rfl rfl ?_
   refine wlOff rfl rfl rfl rfl ?_
   refine wlOff rfl rfl rfl rfl ?_
   refine wlVal (opPickF rfl rfl) rfl ?_
   refine wlThen ?_
   refine wcCondF rfl ?_
   refine wcSkip ?_
   refine wcOf ?_
   refine wcRegion ?_
   refine wlVal (opMove rfl) rfl ?_
   refine wlVal (opIncr rfl rfl (incr_ok (of_decide_eq_true h15) hs6.le)) rfl ?_
   refine wlVal (opAssign rfl) rfl ?_
   refine wlRound ?_
   exact (IH0 (k + 1) _ _ ⟨hC, hB.tail, hs2, hs4, hs6, (by rw [← hI, drop_get hx17]; simp [st21B, h15, h25])⟩ (by have := of_decide_eq_true h15; simp; omega)).sub (fun _ ha => (((ha.start.cons ha (t := 2) rfl).cons ha (t := 3) rfl).cons ha (t := 5) rfl))
  ·
   skip
   refine wlOn rfl rfl ?_
   refine wlVal (opFieldAddr rfl fo58_1) rfl ?_
   refine wlOn rfl rfl ?_
   refine wlVal (opLoadRow (cs := x16.dig.cells) rfl (hB.range (i := 0) (m := 32) rfl (by simp [Mark.cells, Stand.cells])) row28 (by simp [Mark.cells, Stand.cells])) rfl ?_
   refine wlOn rfl rfl ?_
   refine wlVal (opFieldAddr rfl fo58_1) rfl ?_
   refine wlOn rfl rfl ?_
   refine wlVal (opLoadRow (cs := m.dig.cells) rfl (hB.range (i := 1) (m := 32) rfl (by simp [Mark.cells, Stand.cells])) row28 (by simp [Mark.cells, Stand.cells])) rfl ?_
   refine wlOn rfl rfl ?_
   refine wlVal (opEqRow (eq28 _ x16.dig m.dig) eg28 rfl rfl) rfl ?_
   refine wlVal (opPickT rfl rfl) rfl ?_
   refine wlVal (opMove rfl) rfl ?_
   cases h26 : decide (x16.dig = m.dig)
   ·
    skip
    refine wlOff rfl rfl rfl rfl ?_
    refine wlOff rfl rfl rfl rfl ?_
    refine wlOff rfl rfl rfl rfl ?_
    refine wlOff rfl rfl rfl rfl ?_
    refine wlOff rfl rfl rfl rfl ?_
    refine wlVal (opPickF rfl rfl) rfl ?_
    refine wlThen ?_
    refine wcCondF rfl ?_
    refine wcSkip ?_
    refine wcOf ?_
    refine wcRegion ?_
    refine wlVal (opMove rfl) rfl ?_
    refine wlVal (opIncr rfl rfl (incr_ok (of_decide_eq_true h15) hs6.le)) rfl ?_
    refine wlVal (opAssign rfl) rfl ?_
    refine wlRound ?_
    exact (IH0 (k + 1) _ _ ⟨hC, hB.tail, hs2, hs4, hs6, (by rw [← hI, drop_get hx17]; simp [st21B, h15, h25, h26])⟩ (by have := of_decide_eq_true h15; simp; omega)).sub (fun _ ha => (((ha.start.cons ha (t := 2) rfl).cons ha (t := 3) rfl).cons ha (t := 5) rfl))
   ·
    skip
    refine wlOn rfl rfl ?_
    refine wlVal (opFieldAddr rfl fo58_2) rfl ?_
    refine wlOn rfl rfl ?_
    refine wlVal (opLoadOne (v := (.int .i64 x16.view)) rfl (hB.cell (i := 0) rfl (by simp [Mark.cells, Stand.cells])) one3) rfl ?_
    refine wlOn rfl rfl ?_
    refine wlVal (opFieldAddr rfl fo58_2) rfl ?_
    refine wlOn rfl rfl ?_
    refine wlVal (opLoadOne (v := (.int .i64 m.view)) rfl (hB.cell (i := 1) rfl (by simp [Mark.cells, Stand.cells])) one3) rfl ?_
    refine wlOn rfl rfl ?_
    refine wlVal (opGeq rfl rfl) rfl ?_
    refine wlVal (opPickT rfl rfl) rfl ?_
    refine wlThen ?_
    cases h27 : decide (m.view ≤ x16.view)
    ·
     skip
     refine wcCondF rfl ?_
     refine wcSkip ?_
     refine wcOf ?_
     refine wcRegion ?_
     refine wlVal (opMove rfl) rfl ?_
     refine wlVal (opIncr rfl rfl (incr_ok (of_decide_eq_true h15) hs6.le)) rfl ?_
     refine wlVal (opAssign rfl) rfl ?_
     refine wlRound ?_
     exact (IH0 (k + 1) _ _ ⟨hC, hB.tail, hs2, hs4, hs6, (by rw [← hI, drop_get hx17]; simp [st21B, h15, h25, h26, h27])⟩ (by have := of_decide_eq_true h15; simp; omega)).sub (fun _ ha => (((ha.start.cons ha (t := 2) rfl).cons ha (t := 3) rfl).cons ha (t := 5) rfl))
    ·
     skip
     refine wcCondT rfl ?_
     refine wcSeq (wcRegion ?_)
     refine wlVal (opAssign rfl) rfl ?_
     refine wlThen ?_
     refine wcRet ?_
     exact fun ac_ ha => hQ _ _ _ (results1 ha rfl rfl) ha.df (endS hC hw (by simp only [st2B]; have e := hI; rw [drop_get hx17] at e; simp only [List.any_cons, List.any_nil, st21B, h15, h25, h26, h27, Bool.and_true, Bool.true_and, Bool.and_false, Bool.false_and, Bool.true_or, Bool.false_or] at e; simp only [← e]))

end Go.Proofs.Ytbhkoipmojdkhaa
