/- What functions of the pick seat return, part 5. No condition. -/
import Derived.Test.YtbhkoipmojdkhaaPkG4
set_option linter.all false
namespace Go.Proofs.Ytbhkoipmojdkhaa
open Go Go.Gx Go.RowKit
theorem ar28 : arrOk Try.prog 28 32 5 1 = true := by kernel_rfl
theorem one5 : oneOk Try.prog 5 = true := by kernel_rfl
theorem rnode_ret (G0 : Gh) (w0 : World) (hw : Holds G0 w0) (n : Int) :
  RetS Try.prog 54 #[.int .i64 n] G0 w0 (.bool (nodeB n)) := by
 have hC := Cx.refl hw
 have hB : Bxs G0 w0 w0.heap.size [] := Bxs.nil _ _ _
 refine callsOf Try.func54 rfl _ Try.ntmps54 rfl _ (argsCons argsNil (t := 0) rfl) ?_; intro Q0 hQ
 refine wcSeq (wcRegion ?_)
 refine wlVal (opAssign rfl) rfl ?_
 refine wlThen (wcSeq (wcRegion ?_))
 refine wlVal (opMove rfl) rfl ?_
 refine wlVal (opGeq rfl rfl) rfl ?_
 refine wlVal (opMove rfl) rfl ?_
 cases h1 : decide (1 ≤ n)
 ·
  skip
  refine wlOff rfl rfl rfl rfl ?_
  refine wlOff rfl rfl rfl rfl ?_
  refine wlVal (opPickF rfl rfl) rfl ?_
  refine wlVal (opAssign rfl) rfl ?_
  refine wlThen ?_
  refine wcRet ?_
  exact fun ac_ ha => hQ _ _ _ (results1 ha rfl rfl) ha.df (endS hC hw (by simp [nodeB, *]))
 ·
  skip
  refine wlOn rfl rfl ?_
  refine wlVal (opMove rfl) rfl ?_
  refine wlOn rfl rfl ?_
  refine wlVal (opLeq rfl rfl) rfl ?_
  refine wlVal (opPickT rfl rfl) rfl ?_
  refine wlVal (opAssign rfl) rfl ?_
  refine wlThen ?_
  refine wcRet ?_
  exact fun ac_ ha => hQ _ _ _ (results1 ha rfl rfl) ha.df (endS hC hw (by simp [nodeB, *]))

theorem rin_ret (G0 : Gh) (w0 : World) (hw : Holds G0 w0) (vl : Value) (l : List Int) (hl : Sl G0 vl l) (t : Int) :
  RetS Try.prog 55 #[vl, .int .i64 t] G0 w0 (.bool (l.any (fun y => y == t))) := by
 have hC := Cx.refl hw
 have hB : Bxs G0 w0 w0.heap.size [] := Bxs.nil _ _ _
 obtain ⟨A1, cap2, rfl⟩ := hl.form
 refine callsOf Try.func55 rfl _ Try.ntmps55 rfl _ (argsCons (argsCons argsNil (t := 0) rfl) (t := 1) rfl) ?_; intro Q0 hQ
 refine wcSeq (wcRegion ?_)
 refine wlVal (opAssign rfl) rfl ?_
 refine wlThen (wcSeq (wcSeq (wcRegion ?_)))
 refine wlVal (opAssign rfl) rfl ?_
 refine wlThen ?_
 refine wcBlock ?_
 refine WC.sub (wrInd (ι := Nat) (fun k => l.length - k) (fun k G w => Cx w0 G0 G w ∧ Bxs G w w0.heap.size [] ∧ Sl G (.slice A1 l.length cap2) l ∧ (l.drop k).any (fun y => y == t) = l.any (fun y => y == t)) (fun k => (((Env.nil.put 0 (.slice A1 l.length cap2)).put 1 (.int .i64 t)).put 5 (.int .i64 (((k : Nat) : Int))))) ?_ (0) _ _ ⟨hC, hB, hl, rfl⟩) (fun _ ha => (((ha.start.cons ha (t := 0) rfl).cons ha (t := 1) rfl).cons ha (t := 5) rfl))
 rintro k G w N0 IH0 ⟨hC, hB, hl, hI⟩
 show WC _ _ _ _ (((Env.nil.put 0 (.slice A1 l.length cap2)).put 1 (.int .i64 t)).put 5 (.int .i64 (((k : Nat) : Int)))) w
 refine wcSeq (wcSeq (wcRegion ?_))
 refine wlVal (opMove rfl) rfl ?_
 refine wlVal (opMove rfl) rfl ?_
 refine wlVal (opLen rfl isl22) rfl ?_
 refine wlVal (opLssN rfl rfl) rfl ?_
 refine wlThen ?_
 cases h3 : decide (k < l.length)
 ·
  skip
  refine wcCondF rfl ?_
  refine wcExit ?_
  refine wcOf ?_
  refine wcSeq (wcRegion ?_)
  refine wlVal (opAssign rfl) rfl ?_
  refine wlThen ?_
  refine wcRet ?_
  exact fun ac_ ha => hQ _ _ _ (results1 ha rfl rfl) ha.df (endS hC hw (by have e := hI; rw [List.drop_eq_nil_of_le (Nat.le_of_not_lt (of_decide_eq_false h3))] at e; simp [h3] at e; first | (simp [h3, e]; done) | (simp [h3, ← e]; done) | (simp [h3]; exact e)))
 ·
  skip
  refine wcCondT rfl ?_
  refine wcSkip ?_
  refine wcOf ?_
  refine wcSeq ?_
  refine wcBlock (wcSeq (wcRegion ?_))
  refine wlVal (opMove rfl) rfl ?_
  refine wlVal (opMove rfl) rfl ?_
  obtain ⟨x4, hx5⟩ : ∃ y_, l[k]? = some y_ := ⟨_, List.getElem?_eq_getElem (of_decide_eq_true h3)⟩
  obtain ⟨b6, o7, row8, hA11, hr9, hi10⟩ := hl.elem hx5; subst hA11
  obtain rfl := hi10
  refine wlVal (opIndexAddr rfl rfl slo22 (of_decide_eq_true h3)) rfl ?_
  refine wlVal (opLoadOne (v := (.int .i64 x4)) rfl (RowG.cell0 hC.holds hr9 rfl) one3) rfl ?_
  refine wlVal (opMove rfl) rfl ?_
  refine wlVal (opEql rfl rfl) rfl ?_
  refine wlThen ?_
  cases h12 : x4 == t
  ·
   skip
   refine wcCondF rfl ?_
   refine wcSkip ?_
   refine wcOf ?_
   refine wcRegion ?_
   refine wlVal (opMove rfl) rfl ?_
   refine wlVal (opIncr rfl rfl (incr_ok (of_decide_eq_true h3) hl.le)) rfl ?_
   refine wlVal (opAssign rfl) rfl ?_
   refine wlRound ?_
   exact (IH0 (k + 1) _ _ ⟨hC, hB, hl, (by rw [← hI, drop_get hx5]; simp [h3, h12])⟩ (by have := of_decide_eq_true h3; simp; omega)).sub (fun _ ha => (((ha.start.cons ha (t := 0) rfl).cons ha (t := 1) rfl).cons ha (t := 5) rfl))
  ·
   skip
   refine wcCondT rfl ?_
   refine wcSeq (wcRegion ?_)
   refine wlVal (opAssign rfl) rfl ?_
   refine wlThen ?_
   refine wcRet ?_
   exact fun ac_ ha => hQ _ _ _ (results1 ha rfl rfl) ha.df (endS hC hw (by have e := hI; rw [drop_get hx5] at e; simp [h3, h12] at e; first | (simp [h3, h12, e]; done) | (simp [h3, h12, ← e]; done) | (simp [h3, h12]; exact e)))

theorem rless_ret (G0 : Gh) (w0 : World) (hw : Holds G0 w0) (a : Dig) (b : Dig) :
  RetS Try.prog 57 #[.agg a.cells.toArray, .agg b.cells.toArray] G0 w0 (.bool (lessB a.l b.l)) := by
 have hC := Cx.refl hw
 have hB : Bxs G0 w0 w0.heap.size [] := Bxs.nil _ _ _
 refine callsOf Try.func57 rfl _ Try.ntmps57 rfl _ (argsCons (argsCons argsNil (t := 0) rfl) (t := 1) rfl) ?_; intro Q0 hQ
 refine wcSeq (wcRegion ?_)
 refine wlBox (cs := a.cells) hC hB rfl rfl rfl ?_; intro b1 w hk hC hB
 refine wlBox (cs := b.cells) hC hB rfl rfl rfl ?_; intro b2 w hk hC hB
 refine wlVal (opAssign rfl) rfl ?_
 refine wlThen (wcSeq (wcSeq (wcRegion ?_)))
 refine wlVal (opAssign rfl) rfl ?_
 refine wlThen ?_
 refine wcBlock ?_
 refine WC.sub (wrInd (ι := Nat) (fun k => 32 - k) (fun k G w => Cx w0 G0 G w ∧ Bxs G w w0.heap.size [(b2, 28, b.cells), (b1, 28, a.cells)] ∧ lessB (a.l.drop k) (b.l.drop k) = lessB a.l b.l) (fun k => (((Env.nil.put 2 (.pointer (some ⟨b1, 0, none⟩))).put 3 (.pointer (some ⟨b2, 0, none⟩))).put 5 (.int .i64 (((k : Nat) : Int))))) ?_ (0) _ _ ⟨hC, hB, rfl⟩) (fun _ ha => (((ha.start.cons ha (t := 2) rfl).cons ha (t := 3) rfl).cons ha (t := 5) rfl))
 rintro k G w N0 IH0 ⟨hC, hB, hI⟩
 show WC _ _ _ _ (((Env.nil.put 2 (.pointer (some ⟨b1, 0, none⟩))).put 3 (.pointer (some ⟨b2, 0, none⟩))).put 5 (.int .i64 (((k : Nat) : Int)))) w
 refine wcSeq (wcSeq (wcRegion ?_))
 refine wlVal (opMove rfl) rfl ?_
 refine wlVal (opLssN (b := 32) rfl rfl) rfl ?_
 refine wlThen ?_
 cases h3 : decide (k < 32)
 ·
  skip
  refine wcCondF rfl ?_
  refine wcExit ?_
  refine wcOf ?_
  refine wcSeq (wcRegion ?_)
  refine wlVal (opAssign rfl) rfl ?_
  refine wlThen ?_
  refine wcRet ?_
  exact fun ac_ ha => hQ _ _ _ (results1 ha rfl rfl) ha.df (endS hC hw (by have hk32 := of_decide_eq_false h3; have e := hI; rw [List.drop_eq_nil_of_le (by rw [a.h]; omega)] at e; simp [lessB] at e; simp [← e]))
 ·
  skip
  refine wcCondT rfl ?_
  refine wcSkip ?_
  refine wcOf ?_
  refine wcSeq ?_
  refine wcBlock (wcSeq ?_)
  refine wcDraw fmix (by kernel_rfl) (by kernel_rfl) (vAt [(fun _ v_ => v_ = (.int .i64 (((k : Nat) : Int)))), (fun _ v_ => v_ = (.pointer (some ⟨b1, 0 + k * 1, none⟩))), (fun _ v_ => v_ = (.int .u8 (((a.l.getD k 0).toNat : Int)))), (fun _ v_ => v_ = (.int .i64 (((k : Nat) : Int)))), (fun _ v_ => v_ = (.pointer (some ⟨b2, 0 + k * 1, none⟩))), (fun _ v_ => v_ = (.int .u8 (((b.l.getD k 0).toNat : Int)))), (fun _ v_ => v_ = (.bool ((((a.l.getD k 0).toNat : Int)) != (((b.l.getD k 0).toNat : Int)))))]) (fun _ _ G' w => Cx w0 G0 G' w ∧ Bxs G' w w0.heap.size [(b2, 28, b.cells), (b1, 28, a.cells)] ∧ GLe G G') G (vAt_mono ⟨fun _ _ _ _ h => h, fun _ _ _ _ h => h, fun _ _ _ _ h => h, fun _ _ _ _ h => h, fun _ _ _ _ h => h, fun _ _ _ _ h => h, fun _ _ _ _ h => h, trivial⟩) (fun _ _ => ⟨hC.drew, hB.drew, fun _ _ h => h⟩) ?_ ?_
  ·
   refine dsNone (j := 1) rfl ?_ ?_
   ·
    intro done G w ac_ hd hp hn ⟨hC, hB, hg⟩ hM
    have f5 : ac_.tmps[5]? = some (.int .i64 (((k : Nat) : Int))) := hM.old0 rfl rfl
    have hF := (hM.fr.add f5)
    exact OpVal.draw hF (opMove rfl) ⟨G, fun _ _ h => h, ⟨hC, hB, hg⟩, rfl⟩
   refine dsNone (j := 2) rfl ?_ ?_
   ·
    intro done G w ac_ hd hp hn ⟨hC, hB, hg⟩ hM
    have f2 : ac_.tmps[2]? = some (.pointer (some ⟨b1, 0, none⟩)) := hM.old0 rfl rfl
    have f10 := hM.eqv (s := 10) 0 rfl (hp 0 rfl) rfl rfl
    have hF := ((hM.fr.add f2).add f10)
    exact OpVal.draw hF (opIndexArr rfl rfl ar28 (of_decide_eq_true h3)) ⟨G, fun _ _ h => h, ⟨hC, hB, hg⟩, rfl⟩
   refine dsNone (j := 3) rfl ?_ ?_
   ·
    intro done G w ac_ hd hp hn ⟨hC, hB, hg⟩ hM
    have f11 := hM.eqv (s := 11) 1 rfl (hp 1 rfl) rfl rfl
    have hF := (hM.fr.add f11)
    exact OpVal.draw hF (opLoadOne (v := (.int .u8 (((a.l.getD k 0).toNat : Int)))) rfl (hB.cell (i := 1) rfl (Dig.cellAt a (of_decide_eq_true h3))) one5) ⟨G, fun _ _ h => h, ⟨hC, hB, hg⟩, rfl⟩
   refine dsNone (j := 4) rfl ?_ ?_
   ·
    intro done G w ac_ hd hp hn ⟨hC, hB, hg⟩ hM
    have f5 : ac_.tmps[5]? = some (.int .i64 (((k : Nat) : Int))) := hM.old0 rfl rfl
    have hF := (hM.fr.add f5)
    exact OpVal.draw hF (opMove rfl) ⟨G, fun _ _ h => h, ⟨hC, hB, hg⟩, rfl⟩
   refine dsNone (j := 5) rfl ?_ ?_
   ·
    intro done G w ac_ hd hp hn ⟨hC, hB, hg⟩ hM
    have f3 : ac_.tmps[3]? = some (.pointer (some ⟨b2, 0, none⟩)) := hM.old0 rfl rfl
    have f13 := hM.eqv (s := 13) 3 rfl (hp 3 rfl) rfl rfl
    have hF := ((hM.fr.add f3).add f13)
    exact OpVal.draw hF (opIndexArr rfl rfl ar28 (of_decide_eq_true h3)) ⟨G, fun _ _ h => h, ⟨hC, hB, hg⟩, rfl⟩
   refine dsNone (j := 6) rfl ?_ ?_
   ·
    intro done G w ac_ hd hp hn ⟨hC, hB, hg⟩ hM
    have f14 := hM.eqv (s := 14) 4 rfl (hp 4 rfl) rfl rfl
    have hF := (hM.fr.add f14)
    exact OpVal.draw hF (opLoadOne (v := (.int .u8 (((b.l.getD k 0).toNat : Int)))) rfl (hB.cell (i := 0) rfl (Dig.cellAt b (of_decide_eq_true h3))) one5) ⟨G, fun _ _ h => h, ⟨hC, hB, hg⟩, rfl⟩
   refine dsNone (j := 7) rfl ?_ ?_
   ·
    intro done G w ac_ hd hp hn ⟨hC, hB, hg⟩ hM
    have f12 := hM.eqv (s := 12) 2 rfl (hp 2 rfl) rfl rfl
    have f15 := hM.eqv (s := 15) 5 rfl (hp 5 rfl) rfl rfl
    have hF := ((hM.fr.add f12).add f15)
    exact OpVal.draw hF (opNeq rfl rfl) ⟨G, fun _ _ h => h, ⟨hC, hB, hg⟩, rfl⟩
   exact dsNil
  ·
   intro done G w ac_ hall ⟨hC, hB, hg⟩ hM
   have f2 : ac_.tmps[2]? = some (.pointer (some ⟨b1, 0, none⟩)) := hM.old0 rfl rfl
   have f3 : ac_.tmps[3]? = some (.pointer (some ⟨b2, 0, none⟩)) := hM.old0 rfl rfl
   have f5 : ac_.tmps[5]? = some (.int .i64 (((k : Nat) : Int))) := hM.old0 rfl rfl
   have f16 := hM.eqv (s := 16) 6 rfl (hall 6 (by decide)) rfl rfl
   refine ⟨((((Env.nil.put 2 (.pointer (some ⟨b1, 0, none⟩))).put 3 (.pointer (some ⟨b2, 0, none⟩))).put 5 (.int .i64 (((k : Nat) : Int)))).put 16 (.bool ((((a.l.getD k 0).toNat : Int)) != (((b.l.getD k 0).toNat : Int))))), ((((hM.fr.add f2).add f3).add f5).add f16), ?_⟩
   clear hM hall
   refine wcOf ?_
   cases h4 : (((a.l.getD k 0).toNat : Int)) != (((b.l.getD k 0).toNat : Int))
   ·
    skip
    refine wcCondF rfl ?_
    refine wcSkip ?_
    refine wcOf ?_
    refine wcRegion ?_
    refine wlVal (opMove rfl) rfl ?_
    refine wlVal (opIncr rfl rfl (by have := of_decide_eq_true h3; omega)) rfl ?_
    refine wlVal (opAssign rfl) rfl ?_
    refine wlRound ?_
    exact (IH0 (k + 1) _ _ ⟨hC, hB, (by have hk32 := of_decide_eq_true h3; rw [← hI, drop_getD (d := 0) a.l k (by rw [a.h]; omega), drop_getD (d := 0) b.l k (by rw [b.h]; omega)]; simp only [lessB, h3, h4, cond_true, cond_false])⟩ (by have := of_decide_eq_true h3; show 32 - (k + 1) < 32 - k; omega)).sub (fun _ ha => (((ha.start.cons ha (t := 2) rfl).cons ha (t := 3) rfl).cons ha (t := 5) rfl))
   ·
    skip
    refine wcCondT rfl ?_
    refine wcSeq ?_
    refine wcDraw fmix (by kernel_rfl) (by kernel_rfl) (vAt [(fun _ v_ => v_ = (.int .i64 (((k : Nat) : Int)))), (fun _ v_ => v_ = (.pointer (some ⟨b1, 0 + k * 1, none⟩))), (fun _ v_ => v_ = (.int .u8 (((a.l.getD k 0).toNat : Int)))), (fun _ v_ => v_ = (.int .i64 (((k : Nat) : Int)))), (fun _ v_ => v_ = (.pointer (some ⟨b2, 0 + k * 1, none⟩))), (fun _ v_ => v_ = (.int .u8 (((b.l.getD k 0).toNat : Int)))), (fun _ v_ => v_ = (.bool (decide (((a.l.getD k 0).toNat : Int) < ((b.l.getD k 0).toNat : Int))))), (fun _ v_ => v_ = (.bool (decide (((a.l.getD k 0).toNat : Int) < ((b.l.getD k 0).toNat : Int)))))]) (fun _ _ G' w => Cx w0 G0 G' w ∧ Bxs G' w w0.heap.size [(b2, 28, b.cells), (b1, 28, a.cells)] ∧ GLe G G') G (vAt_mono ⟨fun _ _ _ _ h => h, fun _ _ _ _ h => h, fun _ _ _ _ h => h, fun _ _ _ _ h => h, fun _ _ _ _ h => h, fun _ _ _ _ h => h, fun _ _ _ _ h => h, fun _ _ _ _ h => h, trivial⟩) (fun _ _ => ⟨hC.drew, hB.drew, fun _ _ h => h⟩) ?_ ?_
    ·
     refine dsNone (j := 1) rfl ?_ ?_
     ·
      intro done G w ac_ hd hp hn ⟨hC, hB, hg⟩ hM
      have f5 : ac_.tmps[5]? = some (.int .i64 (((k : Nat) : Int))) := hM.old0 rfl rfl
      have hF := (hM.fr.add f5)
      exact OpVal.draw hF (opMove rfl) ⟨G, fun _ _ h => h, ⟨hC, hB, hg⟩, rfl⟩
     refine dsNone (j := 2) rfl ?_ ?_
     ·
      intro done G w ac_ hd hp hn ⟨hC, hB, hg⟩ hM
      have f2 : ac_.tmps[2]? = some (.pointer (some ⟨b1, 0, none⟩)) := hM.old0 rfl rfl
      have f17 := hM.eqv (s := 17) 0 rfl (hp 0 rfl) rfl rfl
      have hF := ((hM.fr.add f2).add f17)
      exact OpVal.draw hF (opIndexArr rfl rfl ar28 (of_decide_eq_true h3)) ⟨G, fun _ _ h => h, ⟨hC, hB, hg⟩, rfl⟩
     refine dsNone (j := 3) rfl ?_ ?_
     ·
      intro done G w ac_ hd hp hn ⟨hC, hB, hg⟩ hM
      have f18 := hM.eqv (s := 18) 1 rfl (hp 1 rfl) rfl rfl
      have hF := (hM.fr.add f18)
      exact OpVal.draw hF (opLoadOne (v := (.int .u8 (((a.l.getD k 0).toNat : Int)))) rfl (hB.cell (i := 1) rfl (Dig.cellAt a (of_decide_eq_true h3))) one5) ⟨G, fun _ _ h => h, ⟨hC, hB, hg⟩, rfl⟩
     refine dsNone (j := 4) rfl ?_ ?_
     ·
      intro done G w ac_ hd hp hn ⟨hC, hB, hg⟩ hM
      have f5 : ac_.tmps[5]? = some (.int .i64 (((k : Nat) : Int))) := hM.old0 rfl rfl
      have hF := (hM.fr.add f5)
      exact OpVal.draw hF (opMove rfl) ⟨G, fun _ _ h => h, ⟨hC, hB, hg⟩, rfl⟩
     refine dsNone (j := 5) rfl ?_ ?_
     ·
      intro done G w ac_ hd hp hn ⟨hC, hB, hg⟩ hM
      have f3 : ac_.tmps[3]? = some (.pointer (some ⟨b2, 0, none⟩)) := hM.old0 rfl rfl
      have f20 := hM.eqv (s := 20) 3 rfl (hp 3 rfl) rfl rfl
      have hF := ((hM.fr.add f3).add f20)
      exact OpVal.draw hF (opIndexArr rfl rfl ar28 (of_decide_eq_true h3)) ⟨G, fun _ _ h => h, ⟨hC, hB, hg⟩, rfl⟩
     refine dsNone (j := 6) rfl ?_ ?_
     ·
      intro done G w ac_ hd hp hn ⟨hC, hB, hg⟩ hM
      have f21 := hM.eqv (s := 21) 4 rfl (hp 4 rfl) rfl rfl
      have hF := (hM.fr.add f21)
      exact OpVal.draw hF (opLoadOne (v := (.int .u8 (((b.l.getD k 0).toNat : Int)))) rfl (hB.cell (i := 0) rfl (Dig.cellAt b (of_decide_eq_true h3))) one5) ⟨G, fun _ _ h => h, ⟨hC, hB, hg⟩, rfl⟩
     refine dsNone (j := 7) rfl ?_ ?_
     ·
      intro done G w ac_ hd hp hn ⟨hC, hB, hg⟩ hM
      have f19 := hM.eqv (s := 19) 2 rfl (hp 2 rfl) rfl rfl
      have f22 := hM.eqv (s := 22) 5 rfl (hp 5 rfl) rfl rfl
      have hF := ((hM.fr.add f19).add f22)
      exact OpVal.draw hF (opLss rfl rfl) ⟨G, fun _ _ h => h, ⟨hC, hB, hg⟩, rfl⟩
     refine dsNone (j := 8) rfl ?_ ?_
     ·
      intro done G w ac_ hd hp hn ⟨hC, hB, hg⟩ hM
      have f23 := hM.eqv (s := 23) 6 rfl (hp 6 rfl) rfl rfl
      have hF := (hM.fr.add f23)
      exact OpVal.draw hF (opAssign rfl) ⟨G, fun _ _ h => h, ⟨hC, hB, hg⟩, rfl⟩
     exact dsNil
    ·
     intro done G w ac_ hall ⟨hC, hB, hg⟩ hM
     have f4 := hM.eqv (s := 4) 7 rfl (hall 7 (by decide)) rfl rfl
     refine ⟨(Env.nil.put 4 (.bool (decide (((a.l.getD k 0).toNat : Int) < ((b.l.getD k 0).toNat : Int))))), (hM.fr.add f4), ?_⟩
     clear hM hall
     refine wcOf ?_
     refine wcRet ?_
     exact fun ac_ ha => hQ _ _ _ (results1 ha rfl rfl) ha.df (endS hC hw (by have hk32 := of_decide_eq_true h3; have e := hI; rw [drop_getD (d := 0) a.l k (by rw [a.h]; omega), drop_getD (d := 0) b.l k (by rw [b.h]; omega)] at e; simp only [lessB, h3, h4, cond_true, cond_false] at e; rw [← e]))

theorem rsame_ret (G0 : Gh) (w0 : World) (hw : Holds G0 w0) (vx : Value) (x : List Mark) (hx : Sl G0 vx x) (vy : Value) (y : List Mark) (hy : Sl G0 vy y) :
  RetS Try.prog 12 #[vx, vy] G0 w0 (.bool (decide (x = y))) := by
 have hC := Cx.refl hw
 have hB : Bxs G0 w0 w0.heap.size [] := Bxs.nil _ _ _
 obtain ⟨A1, cap2, rfl⟩ := hx.form
 obtain ⟨A3, cap4, rfl⟩ := hy.form
 refine callsOf Try.func12 rfl _ Try.ntmps12 rfl _ (argsCons (argsCons argsNil (t := 0) rfl) (t := 1) rfl) ?_; intro Q0 hQ
 refine wcSeq (wcRegion ?_)
 refine wlVal (opAssign rfl) rfl ?_
 refine wlThen (wcSeq (wcSeq (wcRegion ?_)))
 refine wlVal (opMove rfl) rfl ?_
 refine wlVal (opLen rfl isl31) rfl ?_
 refine wlVal (opMove rfl) rfl ?_
 refine wlVal (opLen rfl isl31) rfl ?_
 refine wlVal (opNeq rfl rfl) rfl ?_
 refine wlThen ?_
 cases h5 : (((x.length : Nat) : Int)) != (((y.length : Nat) : Int))
 ·
  skip
  refine wcCondF rfl ?_
  refine wcSkip ?_
  refine wcOf ?_
  refine wcSeq (wcSeq (wcRegion ?_))
  refine wlVal (opAssign rfl) rfl ?_
  refine wlThen ?_
  refine wcBlock ?_
  refine WC.sub (wrInd (ι := Nat) (fun k => x.length - k) (fun k G w => Cx w0 G0 G w ∧ Bxs G w w0.heap.size [] ∧ Sl G (.slice A1 x.length cap2) x ∧ Sl G (.slice A3 y.length cap4) y ∧ k ≤ x.length ∧ x.take k = y.take k) (fun k => (((Env.nil.put 0 (.slice A1 x.length cap2)).put 1 (.slice A3 y.length cap4)).put 5 (.int .i64 (((k : Nat) : Int))))) ?_ (0) _ _ ⟨hC, hB, hx, hy, (by simp), rfl⟩) (fun _ ha => (((ha.start.cons ha (t := 0) rfl).cons ha (t := 1) rfl).cons ha (t := 5) rfl))
  rintro k G w N0 IH0 ⟨hC, hB, hx, hy, hk, hI⟩
  show WC _ _ _ _ (((Env.nil.put 0 (.slice A1 x.length cap2)).put 1 (.slice A3 y.length cap4)).put 5 (.int .i64 (((k : Nat) : Int)))) w
  refine wcSeq (wcSeq (wcRegion ?_))
  refine wlVal (opMove rfl) rfl ?_
  refine wlVal (opMove rfl) rfl ?_
  refine wlVal (opLen rfl isl31) rfl ?_
  refine wlVal (opLssN rfl rfl) rfl ?_
  refine wlThen ?_
  cases h6 : decide (k < x.length)
  ·
   skip
   refine wcCondF rfl ?_
   refine wcExit ?_
   refine wcOf ?_
   refine wcSeq (wcRegion ?_)
   refine wlVal (opAssign rfl) rfl ?_
   refine wlThen ?_
   refine wcRet ?_
   exact fun ac_ ha => hQ _ _ _ (results1 ha rfl rfl) ha.df (endS hC hw (by have e1 := of_decide_eq_false h6; have e2 := h5; simp at e2; have e3 := hI; rw [List.take_of_length_le (by omega), List.take_of_length_le (by omega)] at e3; simp [e3]))
  ·
   skip
   refine wcCondT rfl ?_
   refine wcSkip ?_
   refine wcOf ?_
   refine wcSeq ?_
   refine wcBlock (wcSeq ?_)
   obtain ⟨x7, hx8⟩ : ∃ y_, x[k]? = some y_ := ⟨_, List.getElem?_eq_getElem (of_decide_eq_true h6)⟩
   obtain ⟨b9, o10, row11, hA14, hr12, hi13⟩ := hx.elem hx8; subst hA14
   obtain rfl := hi13
   obtain ⟨x15, hx16⟩ : ∃ y_, y[k]? = some y_ := ⟨_, List.getElem?_eq_getElem (by have e1 := of_decide_eq_true h6; have e2 := h5; simp at e2; omega)⟩
   obtain ⟨b17, o18, row19, hA22, hr20, hi21⟩ := hy.elem hx16; subst hA22
   obtain rfl := hi21
   refine wcDraw fmix (by kernel_rfl) (by kernel_rfl) (vAt [(fun _ v_ => v_ = (.slice (some ⟨b9, o10, none⟩) x.length cap2)), (fun _ v_ => v_ = (.int .i64 (((k : Nat) : Int)))), (fun _ v_ => v_ = (.pointer (some ⟨b9, o10 + k * 33, none⟩))), (fun _ v_ => v_ = (.agg x7.cells.toArray)), (fun _ v_ => v_ = (.slice (some ⟨b17, o18, none⟩) y.length cap4)), (fun _ v_ => v_ = (.int .i64 (((k : Nat) : Int)))), (fun _ v_ => v_ = (.pointer (some ⟨b17, o18 + k * 33, none⟩))), (fun _ v_ => v_ = (.agg x15.cells.toArray)), (fun _ v_ => v_ = (.bool (!(decide (x7 = x15)))))]) (fun _ _ G' w => Cx w0 G0 G' w ∧ Bxs G' w w0.heap.size [] ∧ GLe G G') G (vAt_mono ⟨fun _ _ _ _ h => h, fun _ _ _ _ h => h, fun _ _ _ _ h => h, fun _ _ _ _ h => h, fun _ _ _ _ h => h, fun _ _ _ _ h => h, fun _ _ _ _ h => h, fun _ _ _ _ h => h, fun _ _ _ _ h => h, trivial⟩) (fun _ _ => ⟨hC.drew, hB.drew, fun _ _ h => h⟩) ?_ ?_
   ·
    refine dsNone (j := 1) rfl ?_ ?_
    ·
     intro done G w ac_ hd hp hn ⟨hC, hB, hg⟩ hM
     have f0 : ac_.tmps[0]? = some (.slice (some ⟨b9, o10, none⟩) x.length cap2) := hM.old0 rfl rfl
     have hF := (hM.fr.add f0)
     exact OpVal.draw hF (opMove rfl) ⟨G, fun _ _ h => h, ⟨hC, hB, hg⟩, rfl⟩
    refine dsNone (j := 2) rfl ?_ ?_
    ·
     intro done G w ac_ hd hp hn ⟨hC, hB, hg⟩ hM
     have f5 : ac_.tmps[5]? = some (.int .i64 (((k : Nat) : Int))) := hM.old0 rfl rfl
     have hF := (hM.fr.add f5)
     exact OpVal.draw hF (opMove rfl) ⟨G, fun _ _ h => h, ⟨hC, hB, hg⟩, rfl⟩
    refine dsNone (j := 3) rfl ?_ ?_
    ·
     intro done G w ac_ hd hp hn ⟨hC, hB, hg⟩ hM
     have f17 := hM.eqv (s := 17) 0 rfl (hp 0 rfl) rfl rfl
     have f18 := hM.eqv (s := 18) 1 rfl (hp 1 rfl) rfl rfl
     have hF := ((hM.fr.add f17).add f18)
     exact OpVal.draw hF (opIndexAddr rfl rfl slo31 (of_decide_eq_true h6)) ⟨G, fun _ _ h => h, ⟨hC, hB, hg⟩, rfl⟩
    refine dsNone (j := 4) rfl ?_ ?_
    ·
     intro done G w ac_ hd hp hn ⟨hC, hB, hg⟩ hM
     replace hr12 := hr12.mono hg
     have f19 := hM.eqv (s := 19) 2 rfl (hp 2 rfl) rfl rfl
     have hF := (hM.fr.add f19)
     exact OpVal.draw hF (opLoadRow (cs := x7.cells) rfl (RowG.range hC.holds hr12) row30 (by simp [Mark.cells, Stand.cells])) ⟨G, fun _ _ h => h, ⟨hC, hB, hg⟩, rfl⟩
    refine dsNone (j := 5) rfl ?_ ?_
    ·
     intro done G w ac_ hd hp hn ⟨hC, hB, hg⟩ hM
     have f1 : ac_.tmps[1]? = some (.slice (some ⟨b17, o18, none⟩) y.length cap4) := hM.old0 rfl rfl
     have hF := (hM.fr.add f1)
     exact OpVal.draw hF (opMove rfl) ⟨G, fun _ _ h => h, ⟨hC, hB, hg⟩, rfl⟩
    refine dsNone (j := 6) rfl ?_ ?_
    ·
     intro done G w ac_ hd hp hn ⟨hC, hB, hg⟩ hM
     have f5 : ac_.tmps[5]? = some (.int .i64 (((k : Nat) : Int))) := hM.old0 rfl rfl
     have hF := (hM.fr.add f5)
     exact OpVal.draw hF (opMove rfl) ⟨G, fun _ _ h => h, ⟨hC, hB, hg⟩, rfl⟩
    refine dsNone (j := 7) rfl ?_ ?_
    ·
     intro done G w ac_ hd hp hn ⟨hC, hB, hg⟩ hM
     have f21 := hM.eqv (s := 21) 4 rfl (hp 4 rfl) rfl rfl
     have f22 := hM.eqv (s := 22) 5 rfl (hp 5 rfl) rfl rfl
     have hF := ((hM.fr.add f21).add f22)
     exact OpVal.draw hF (opIndexAddr rfl rfl slo31 (by have e1 := of_decide_eq_true h6; have e2 := h5; simp at e2; omega)) ⟨G, fun _ _ h => h, ⟨hC, hB, hg⟩, rfl⟩
    refine dsNone (j := 8) rfl ?_ ?_
    ·
     intro done G w ac_ hd hp hn ⟨hC, hB, hg⟩ hM
     replace hr20 := hr20.mono hg
     have f23 := hM.eqv (s := 23) 6 rfl (hp 6 rfl) rfl rfl
     have hF := (hM.fr.add f23)
     exact OpVal.draw hF (opLoadRow (cs := x15.cells) rfl (RowG.range hC.holds hr20) row30 (by simp [Mark.cells, Stand.cells])) ⟨G, fun _ _ h => h, ⟨hC, hB, hg⟩, rfl⟩
    refine dsNone (j := 9) rfl ?_ ?_
    ·
     intro done G w ac_ hd hp hn ⟨hC, hB, hg⟩ hM
     have f20 := hM.eqv (s := 20) 3 rfl (hp 3 rfl) rfl rfl
     have f24 := hM.eqv (s := 24) 7 rfl (hp 7 rfl) rfl rfl
     have hF := ((hM.fr.add f20).add f24)
     exact OpVal.draw hF (opNeRow (eq30 _ x7 x15) eg30 rfl rfl) ⟨G, fun _ _ h => h, ⟨hC, hB, hg⟩, rfl⟩
    exact dsNil
   ·
    intro done G w ac_ hall ⟨hC, hB, hg⟩ hM
    replace hx := hx.mono hg
    replace hy := hy.mono hg
    have f0 : ac_.tmps[0]? = some (.slice (some ⟨b9, o10, none⟩) x.length cap2) := hM.old0 rfl rfl
    have f1 : ac_.tmps[1]? = some (.slice (some ⟨b17, o18, none⟩) y.length cap4) := hM.old0 rfl rfl
    have f5 : ac_.tmps[5]? = some (.int .i64 (((k : Nat) : Int))) := hM.old0 rfl rfl
    have f25 := hM.eqv (s := 25) 8 rfl (hall 8 (by decide)) rfl rfl
    refine ⟨((((Env.nil.put 0 (.slice (some ⟨b9, o10, none⟩) x.length cap2)).put 1 (.slice (some ⟨b17, o18, none⟩) y.length cap4)).put 5 (.int .i64 (((k : Nat) : Int)))).put 25 (.bool (!(decide (x7 = x15))))), ((((hM.fr.add f0).add f1).add f5).add f25), ?_⟩
    clear hM hall
    refine wcOf ?_
    cases h23 : decide (x7 = x15)
    ·
     skip
     refine wcCondT rfl ?_
     refine wcSeq (wcRegion ?_)
     refine wlVal (opAssign rfl) rfl ?_
     refine wlThen ?_
     refine wcRet ?_
     exact fun ac_ ha => hQ _ _ _ (results1 ha rfl rfl) ha.df (endS hC hw (by have e1 := h23; simp at e1; symm; simp; rintro rfl; exact e1 (Option.some.inj (hx8.symm.trans hx16))))
    ·
     skip
     refine wcCondF rfl ?_
     refine wcSkip ?_
     refine wcOf ?_
     refine wcRegion ?_
     refine wlVal (opMove rfl) rfl ?_
     refine wlVal (opIncr rfl rfl (incr_ok (of_decide_eq_true h6) hx.le)) rfl ?_
     refine wlVal (opAssign rfl) rfl ?_
     refine wlRound ?_
     exact (IH0 (k + 1) _ _ ⟨hC, hB, hx, hy, (of_decide_eq_true h6), (by have e1 := h23; simp at e1; rw [List.take_add_one, List.take_add_one, hI, hx8, hx16, e1])⟩ (by have := of_decide_eq_true h6; simp; omega)).sub (fun _ ha => (((ha.start.cons ha (t := 0) rfl).cons ha (t := 1) rfl).cons ha (t := 5) rfl))
 ·
  skip
  refine wcCondT rfl ?_
  refine wcSeq (wcRegion ?_)
  refine wlVal (opAssign rfl) rfl ?_
  refine wlThen ?_
  refine wcRet ?_
  exact fun ac_ ha => hQ _ _ _ (results1 ha rfl rfl) ha.df (endS hC hw (by simp at h5; symm; simp; rintro rfl; exact h5 rfl))

end Go.Proofs.Ytbhkoipmojdkhaa
