/- What functions of the pick seat return, part 6. No condition. -/
import Derived.Test.YtbhkoipmojdkhaaPkG5
set_option linter.all false
namespace Go.Proofs.Ytbhkoipmojdkhaa
open Go Go.Gx Go.RowKit
def rhasB (c : Crew) (n : Int) : Bool := (check c == 0) && c.nodes.any (fun y => y == n)
theorem co54 : callOk Try.prog 54 = true := by kernel_rfl
theorem co29 : callOk Try.prog 29 = true := by kernel_rfl
theorem co55 : callOk Try.prog 55 = true := by kernel_rfl
theorem rcheck_ret (G0 : Gh) (w0 : World) (hw : Holds G0 w0) (csc : List Value) (c : Crew) (hc : Rp.Is G0 csc c) :
  RetS Try.prog 29 #[.agg csc.toArray] G0 w0 (.int .i64 (check c)) := by
 have hC := Cx.refl hw
 have hB : Bxs G0 w0 w0.heap.size [] := Bxs.nil _ _ _
 obtain ⟨v1, rfl, hs2⟩ := Crew.opIs hc
 obtain ⟨A3, cap4, rfl⟩ := hs2.form
 refine callsOf Try.func29 rfl _ Try.ntmps29 rfl _ (argsCons argsNil (t := 0) rfl) ?_; intro Q0 hQ
 refine wcSeq (wcRegion ?_)
 refine wlBox (cs := [(.int .i64 c.faults), (.slice A3 c.nodes.length cap4)]) hC hB rfl rfl rfl ?_; intro b5 w hk hC hB
 refine wlVal (opAssign rfl) rfl ?_
 refine wlThen (wcSeq (wcSeq (wcRegion ?_)))
 refine wlVal (opFieldAddr rfl fo24_0) rfl ?_
 refine wlVal (opLoadOne (v := (.int .i64 c.faults)) rfl (hB.cell (i := 0) rfl rfl) one3) rfl ?_
 refine wlVal (opLss rfl rfl) rfl ?_
 refine wlVal (opMove rfl) rfl ?_
 cases h6 : decide (c.faults < 0)
 ·
  skip
  refine wlOn rfl rfl ?_
  refine wlVal (opFieldAddr rfl fo24_0) rfl ?_
  refine wlOn rfl rfl ?_
  refine wlVal (opLoadOne (v := (.int .i64 c.faults)) rfl (hB.cell (i := 0) rfl rfl) one3) rfl ?_
  refine wlOn rfl rfl ?_
  refine wlVal (opGtr rfl rfl) rfl ?_
  refine wlVal (opPickF rfl rfl) rfl ?_
  refine wlVal (opMove rfl) rfl ?_
  cases h7 : decide (2 < c.faults)
  ·
   skip
   refine wlOn rfl rfl ?_
   refine wlVal (opFieldAddr rfl fo24_1) rfl ?_
   refine wlOn rfl rfl ?_
   refine wlVal (opLoadOne (v := (.slice A3 c.nodes.length cap4)) rfl (hB.cell (i := 0) rfl rfl) one22) rfl ?_
   refine wlOn rfl rfl ?_
   refine wlVal (opLen rfl isl22) rfl ?_
   refine wlOn rfl rfl ?_
   refine wlVal (opFieldAddr rfl fo24_0) rfl ?_
   refine wlOn rfl rfl ?_
   refine wlVal (opLoadOne (v := (.int .i64 c.faults)) rfl (hB.cell (i := 0) rfl rfl) one3) rfl ?_
   refine wlOn rfl rfl ?_
   refine wlVal (opMul rfl rfl) rfl ?_
   refine wlOn rfl rfl ?_
   refine wlVal (opAdd rfl rfl) rfl ?_
   refine wlOn rfl rfl ?_
   refine wlVal (opNeq rfl rfl) rfl ?_
   refine wlVal (opPickF rfl rfl) rfl ?_
   refine wlThen ?_
   cases h8 : (((c.nodes.length : Nat) : Int)) != (IntKind.wrap .i64 (IntKind.wrap .i64 (3 * c.faults) + 1))
   ·
    skip
    refine wcCondF rfl ?_
    refine wcSkip ?_
    refine wcOf ?_
    refine wcSeq (wcSeq (wcRegion ?_))
    refine wlVal (opAssign rfl) rfl ?_
    refine wlThen ?_
    refine wcBlock ?_
    refine WC.sub (wrInd (ι := Nat) (fun k => c.nodes.length - k) (fun k G w => Cx w0 G0 G w ∧ Bxs G w w0.heap.size [(b5, 24, [(.int .i64 c.faults), (.slice A3 c.nodes.length cap4)])] ∧ Sl G (.slice A3 c.nodes.length cap4) c.nodes ∧ risesB (prevI c.nodes k) (c.nodes.drop k) = risesB 0 c.nodes) (fun k => ((Env.nil.put 1 (.pointer (some ⟨b5, 0, none⟩))).put 3 (.int .i64 (((k : Nat) : Int))))) ?_ (0) _ _ ⟨hC, hB, hs2, rfl⟩) (fun _ ha => ((ha.start.cons ha (t := 1) rfl).cons ha (t := 3) rfl))
    rintro k G w N0 IH0 ⟨hC, hB, hs2, hI⟩
    show WC _ _ _ _ ((Env.nil.put 1 (.pointer (some ⟨b5, 0, none⟩))).put 3 (.int .i64 (((k : Nat) : Int)))) w
    refine wcSeq (wcSeq (wcRegion ?_))
    refine wlVal (opMove rfl) rfl ?_
    refine wlVal (opFieldAddr rfl fo24_1) rfl ?_
    refine wlVal (opLoadOne (v := (.slice A3 c.nodes.length cap4)) rfl (hB.cell (i := 0) rfl rfl) one22) rfl ?_
    refine wlVal (opLen rfl isl22) rfl ?_
    refine wlVal (opLssN rfl rfl) rfl ?_
    refine wlThen ?_
    cases h9 : decide (k < c.nodes.length)
    ·
     skip
     refine wcCondF rfl ?_
     refine wcExit ?_
     refine wcOf ?_
     refine wcSeq (wcRegion ?_)
     refine wlVal (opAssign rfl) rfl ?_
     refine wlThen ?_
     refine wcRet ?_
     exact fun ac_ ha => hQ _ _ _ (results1 ha rfl rfl) ha.df (endS hC hw (by have e := hI; rw [List.drop_eq_nil_of_le (Nat.le_of_not_lt (of_decide_eq_false h9))] at e; simp [risesB, h6, h7, h8, h9] at e; first | (simp [check, h6, h7, h8, h9, e]; done) | (simp at e)))
    ·
     skip
     refine wcCondT rfl ?_
     refine wcSkip ?_
     refine wcOf ?_
     refine wcSeq ?_
     refine wcBlock (wcSeq ?_)
     obtain ⟨x10, hx11⟩ : ∃ y_, c.nodes[k]? = some y_ := ⟨_, List.getElem?_eq_getElem (of_decide_eq_true h9)⟩
     obtain ⟨b12, o13, row14, hA17, hr15, hi16⟩ := hs2.elem hx11; subst hA17
     obtain rfl := hi16
     cases h18 : (nodeB x10)
     ·
      skip
      refine wcDraw fmix (by kernel_rfl) (by kernel_rfl) (vAt [(fun _ v_ => v_ = (.pointer (some ⟨b5, 1, none⟩))), (fun _ v_ => v_ = (.slice (some ⟨b12, o13, none⟩) c.nodes.length cap4)), (fun _ v_ => v_ = (.int .i64 (((k : Nat) : Int)))), (fun _ v_ => v_ = (.pointer (some ⟨b12, o13 + k * 1, none⟩))), (fun _ v_ => v_ = (.int .i64 x10)), (fun _ v_ => v_ = (.bool false)), (fun _ v_ => v_ = (.bool true)), (fun _ v_ => v_ = (.bool true)), (fun _ v_ => v_ = undef), (fun _ v_ => v_ = undef), (fun _ v_ => v_ = undef), (fun _ v_ => v_ = undef), (fun _ v_ => v_ = undef), (fun _ v_ => v_ = undef), (fun _ v_ => v_ = undef), (fun _ v_ => v_ = undef), (fun _ v_ => v_ = undef), (fun _ v_ => v_ = undef), (fun _ v_ => v_ = undef), (fun _ v_ => v_ = undef), (fun _ v_ => v_ = undef), (fun _ v_ => v_ = undef), (fun _ v_ => v_ = undef), (fun _ v_ => v_ = undef), (fun _ v_ => v_ = (.bool true))]) (fun _ _ G' w => Cx w0 G0 G' w ∧ Bxs G' w w0.heap.size [(b5, 24, [(.int .i64 c.faults), (.slice (some ⟨b12, o13, none⟩) c.nodes.length cap4)])] ∧ GLe G G') G (vAt_mono ⟨fun _ _ _ _ h => h, fun _ _ _ _ h => h, fun _ _ _ _ h => h, fun _ _ _ _ h => h, fun _ _ _ _ h => h, fun _ _ _ _ h => h, fun _ _ _ _ h => h, fun _ _ _ _ h => h, fun _ _ _ _ h => h, fun _ _ _ _ h => h, fun _ _ _ _ h => h, fun _ _ _ _ h => h, fun _ _ _ _ h => h, fun _ _ _ _ h => h, fun _ _ _ _ h => h, fun _ _ _ _ h => h, fun _ _ _ _ h => h, fun _ _ _ _ h => h, fun _ _ _ _ h => h, fun _ _ _ _ h => h, fun _ _ _ _ h => h, fun _ _ _ _ h => h, fun _ _ _ _ h => h, fun _ _ _ _ h => h, fun _ _ _ _ h => h, trivial⟩) (fun _ _ => ⟨hC.drew, hB.drew, fun _ _ h => h⟩) ?_ ?_
      ·
       refine dsNone (j := 1) rfl ?_ ?_
       ·
        intro done G w ac_ hd hp hn ⟨hC, hB, hg⟩ hM
        have f1 : ac_.tmps[1]? = some (.pointer (some ⟨b5, 0, none⟩)) := hM.old0 rfl rfl
        have hF := (hM.fr.add f1)
        exact OpVal.draw hF (opFieldAddr rfl fo24_1) ⟨G, fun _ _ h => h, ⟨hC, hB, hg⟩, rfl⟩
       refine dsNone (j := 2) rfl ?_ ?_
       ·
        intro done G w ac_ hd hp hn ⟨hC, hB, hg⟩ hM
        have f29 := hM.eqv (s := 29) 0 rfl (hp 0 rfl) rfl rfl
        have hF := (hM.fr.add f29)
        exact OpVal.draw hF (opLoadOne (v := (.slice (some ⟨b12, o13, none⟩) c.nodes.length cap4)) rfl (hB.cell (i := 0) rfl rfl) one22) ⟨G, fun _ _ h => h, ⟨hC, hB, hg⟩, rfl⟩
       refine dsNone (j := 3) rfl ?_ ?_
       ·
        intro done G w ac_ hd hp hn ⟨hC, hB, hg⟩ hM
        have f3 : ac_.tmps[3]? = some (.int .i64 (((k : Nat) : Int))) := hM.old0 rfl rfl
        have hF := (hM.fr.add f3)
        exact OpVal.draw hF (opMove rfl) ⟨G, fun _ _ h => h, ⟨hC, hB, hg⟩, rfl⟩
       refine dsNone (j := 4) rfl ?_ ?_
       ·
        intro done G w ac_ hd hp hn ⟨hC, hB, hg⟩ hM
        have f30 := hM.eqv (s := 30) 1 rfl (hp 1 rfl) rfl rfl
        have f31 := hM.eqv (s := 31) 2 rfl (hp 2 rfl) rfl rfl
        have hF := ((hM.fr.add f30).add f31)
        exact OpVal.draw hF (opIndexAddr rfl rfl slo22 (of_decide_eq_true h9)) ⟨G, fun _ _ h => h, ⟨hC, hB, hg⟩, rfl⟩
       refine dsNone (j := 5) rfl ?_ ?_
       ·
        intro done G w ac_ hd hp hn ⟨hC, hB, hg⟩ hM
        replace hr15 := hr15.mono hg
        have f32 := hM.eqv (s := 32) 3 rfl (hp 3 rfl) rfl rfl
        have hF := (hM.fr.add f32)
        exact OpVal.draw hF (opLoadOne (v := (.int .i64 x10)) rfl (RowG.cell0 hC.holds hr15 rfl) one3) ⟨G, fun _ _ h => h, ⟨hC, hB, hg⟩, rfl⟩
       refine dsNone (j := 6) rfl ?_ ?_
       ·
        intro done G w ac_ hd hp hn ⟨hC, hB, hg⟩ hM
        have f33 := hM.eqv (s := 33) 4 rfl (hp 4 rfl) rfl rfl
        have hF := (hM.fr.add f33)
        exact drawCallS hF rfl co54 rfl (RetS.cast (rnode_ret _ _ hC.holds x10) (congrArg Value.bool h18)) (fun w' hk => ⟨G, fun _ _ h => h, ⟨hC.trans hk, hB.ext hk, hg⟩, rfl⟩)
       refine dsNone (j := 7) rfl ?_ ?_
       ·
        intro done G w ac_ hd hp hn ⟨hC, hB, hg⟩ hM
        have f34 := hM.eqv (s := 34) 5 rfl (hp 5 rfl) rfl rfl
        have hF := (hM.fr.add f34)
        exact OpVal.draw hF (opNot rfl) ⟨G, fun _ _ h => h, ⟨hC, hB, hg⟩, rfl⟩
       refine dsNone (j := 8) rfl ?_ ?_
       ·
        intro done G w ac_ hd hp hn ⟨hC, hB, hg⟩ hM
        have f35 := hM.eqv (s := 35) 6 rfl (hp 6 rfl) rfl rfl
        have hF := (hM.fr.add f35)
        exact OpVal.draw hF (opMove rfl) ⟨G, fun _ _ h => h, ⟨hC, hB, hg⟩, rfl⟩
       refine dsOff (j := 9) (b' := true) rfl rfl rfl ?_ ?_
       ·
        intro done G w ac_ hd hp hn ⟨hC, hB, hg⟩ hM
        have f36 := hM.eqv (s := 36) 7 rfl (hp 7 rfl) rfl rfl
        exact ⟨f36, ⟨hC, hB, hg⟩, rfl⟩
       refine dsOff (j := 10) (b' := true) rfl rfl rfl ?_ ?_
       ·
        intro done G w ac_ hd hp hn ⟨hC, hB, hg⟩ hM
        have f36 := hM.eqv (s := 36) 7 rfl (hp 7 rfl) rfl rfl
        exact ⟨f36, ⟨hC, hB, hg⟩, rfl⟩
       refine dsOff (j := 11) (b' := true) rfl rfl rfl ?_ ?_
       ·
        intro done G w ac_ hd hp hn ⟨hC, hB, hg⟩ hM
        have f36 := hM.eqv (s := 36) 7 rfl (hp 7 rfl) rfl rfl
        exact ⟨f36, ⟨hC, hB, hg⟩, rfl⟩
       refine dsOffU (j := 12) rfl rfl ?_ ?_
       ·
        intro done G w ac_ hd hp hn ⟨hC, hB, hg⟩ hM
        have f39 := hM.eqv (s := 39) 10 rfl (hp 10 rfl) rfl rfl
        exact ⟨f39, ⟨hC, hB, hg⟩, rfl⟩
       refine dsOffU (j := 13) rfl rfl ?_ ?_
       ·
        intro done G w ac_ hd hp hn ⟨hC, hB, hg⟩ hM
        have f39 := hM.eqv (s := 39) 10 rfl (hp 10 rfl) rfl rfl
        exact ⟨f39, ⟨hC, hB, hg⟩, rfl⟩
       refine dsOffU (j := 14) rfl rfl ?_ ?_
       ·
        intro done G w ac_ hd hp hn ⟨hC, hB, hg⟩ hM
        have f39 := hM.eqv (s := 39) 10 rfl (hp 10 rfl) rfl rfl
        exact ⟨f39, ⟨hC, hB, hg⟩, rfl⟩
       refine dsOffU (j := 15) rfl rfl ?_ ?_
       ·
        intro done G w ac_ hd hp hn ⟨hC, hB, hg⟩ hM
        have f39 := hM.eqv (s := 39) 10 rfl (hp 10 rfl) rfl rfl
        exact ⟨f39, ⟨hC, hB, hg⟩, rfl⟩
       refine dsOffU (j := 16) rfl rfl ?_ ?_
       ·
        intro done G w ac_ hd hp hn ⟨hC, hB, hg⟩ hM
        have f39 := hM.eqv (s := 39) 10 rfl (hp 10 rfl) rfl rfl
        exact ⟨f39, ⟨hC, hB, hg⟩, rfl⟩
       refine dsOffU (j := 17) rfl rfl ?_ ?_
       ·
        intro done G w ac_ hd hp hn ⟨hC, hB, hg⟩ hM
        have f39 := hM.eqv (s := 39) 10 rfl (hp 10 rfl) rfl rfl
        exact ⟨f39, ⟨hC, hB, hg⟩, rfl⟩
       refine dsOffU (j := 18) rfl rfl ?_ ?_
       ·
        intro done G w ac_ hd hp hn ⟨hC, hB, hg⟩ hM
        have f39 := hM.eqv (s := 39) 10 rfl (hp 10 rfl) rfl rfl
        exact ⟨f39, ⟨hC, hB, hg⟩, rfl⟩
       refine dsOffU (j := 19) rfl rfl ?_ ?_
       ·
        intro done G w ac_ hd hp hn ⟨hC, hB, hg⟩ hM
        have f39 := hM.eqv (s := 39) 10 rfl (hp 10 rfl) rfl rfl
        exact ⟨f39, ⟨hC, hB, hg⟩, rfl⟩
       refine dsOffU (j := 20) rfl rfl ?_ ?_
       ·
        intro done G w ac_ hd hp hn ⟨hC, hB, hg⟩ hM
        have f39 := hM.eqv (s := 39) 10 rfl (hp 10 rfl) rfl rfl
        exact ⟨f39, ⟨hC, hB, hg⟩, rfl⟩
       refine dsOffU (j := 21) rfl rfl ?_ ?_
       ·
        intro done G w ac_ hd hp hn ⟨hC, hB, hg⟩ hM
        have f39 := hM.eqv (s := 39) 10 rfl (hp 10 rfl) rfl rfl
        exact ⟨f39, ⟨hC, hB, hg⟩, rfl⟩
       refine dsOffU (j := 22) rfl rfl ?_ ?_
       ·
        intro done G w ac_ hd hp hn ⟨hC, hB, hg⟩ hM
        have f39 := hM.eqv (s := 39) 10 rfl (hp 10 rfl) rfl rfl
        exact ⟨f39, ⟨hC, hB, hg⟩, rfl⟩
       refine dsOffU (j := 23) rfl rfl ?_ ?_
       ·
        intro done G w ac_ hd hp hn ⟨hC, hB, hg⟩ hM
        have f39 := hM.eqv (s := 39) 10 rfl (hp 10 rfl) rfl rfl
        exact ⟨f39, ⟨hC, hB, hg⟩, rfl⟩
       refine dsOff (j := 24) (b' := true) rfl rfl rfl ?_ ?_
       ·
        intro done G w ac_ hd hp hn ⟨hC, hB, hg⟩ hM
        have f36 := hM.eqv (s := 36) 7 rfl (hp 7 rfl) rfl rfl
        exact ⟨f36, ⟨hC, hB, hg⟩, rfl⟩
       refine dsNone (j := 25) rfl ?_ ?_
       ·
        intro done G w ac_ hd hp hn ⟨hC, hB, hg⟩ hM
        have f36 := hM.eqv (s := 36) 7 rfl (hp 7 rfl) rfl rfl
        have f52 := hM.eqv (s := 52) 23 rfl (hp 23 rfl) rfl rfl
        have hF := ((hM.fr.add f36).add f52)
        exact OpVal.draw hF (opPickT rfl rfl) ⟨G, fun _ _ h => h, ⟨hC, hB, hg⟩, rfl⟩
       exact dsNil
      ·
       intro done G w ac_ hall ⟨hC, hB, hg⟩ hM
       replace hs2 := hs2.mono hg
       replace hr15 := hr15.mono hg
       have f1 : ac_.tmps[1]? = some (.pointer (some ⟨b5, 0, none⟩)) := hM.old0 rfl rfl
       have f3 : ac_.tmps[3]? = some (.int .i64 (((k : Nat) : Int))) := hM.old0 rfl rfl
       have f53 := hM.eqv (s := 53) 24 rfl (hall 24 (by decide)) rfl rfl
       refine ⟨(((Env.nil.put 1 (.pointer (some ⟨b5, 0, none⟩))).put 3 (.int .i64 (((k : Nat) : Int)))).put 53 (.bool true)), (((hM.fr.add f1).add f3).add f53), ?_⟩
       clear hM hall
       refine wcOf ?_
       refine wcCondT rfl ?_
       refine wcSeq (wcRegion ?_)
       refine wlVal (opAssign rfl) rfl ?_
       refine wlThen ?_
       refine wcRet ?_
       exact fun ac_ ha => hQ _ _ _ (results1 ha rfl rfl) ha.df (endS hC hw (by have e := hI; rw [drop_get hx11] at e; simp [risesB, h6, h7, h8, h9, h18] at e; first | (simp [check, h6, h7, h8, h9, h18, e]; done) | (simp at e)))
     ·
      skip
      cases h19 : decide (0 < ((k : Nat) : Int))
      ·
       skip
       refine wcDraw fmix (by kernel_rfl) (by kernel_rfl) (vAt [(fun _ v_ => v_ = (.pointer (some ⟨b5, 1, none⟩))), (fun _ v_ => v_ = (.slice (some ⟨b12, o13, none⟩) c.nodes.length cap4)), (fun _ v_ => v_ = (.int .i64 (((k : Nat) : Int)))), (fun _ v_ => v_ = (.pointer (some ⟨b12, o13 + k * 1, none⟩))), (fun _ v_ => v_ = (.int .i64 x10)), (fun _ v_ => v_ = (.bool true)), (fun _ v_ => v_ = (.bool false)), (fun _ v_ => v_ = (.bool false)), (fun _ v_ => v_ = (.int .i64 (((k : Nat) : Int)))), (fun _ v_ => v_ = (.bool false)), (fun _ v_ => v_ = (.bool false)), (fun _ v_ => v_ = undef), (fun _ v_ => v_ = undef), (fun _ v_ => v_ = undef), (fun _ v_ => v_ = undef), (fun _ v_ => v_ = undef), (fun _ v_ => v_ = undef), (fun _ v_ => v_ = undef), (fun _ v_ => v_ = undef), (fun _ v_ => v_ = undef), (fun _ v_ => v_ = undef), (fun _ v_ => v_ = undef), (fun _ v_ => v_ = undef), (fun _ v_ => v_ = (.bool false)), (fun _ v_ => v_ = (.bool false))]) (fun _ _ G' w => Cx w0 G0 G' w ∧ Bxs G' w w0.heap.size [(b5, 24, [(.int .i64 c.faults), (.slice (some ⟨b12, o13, none⟩) c.nodes.length cap4)])] ∧ GLe G G') G (vAt_mono ⟨fun _ _ _ _ h => h, fun _ _ _ _ h => h, fun _ _ _ _ h => h, fun _ _ _ _ h => h, fun _ _ _ _ h => h, fun _ _ _ _ h => h, fun _ _ _ _ h => h, fun _ _ _ _ h => h, fun _ _ _ _ h => h, fun _ _ _ _ h => h, fun _ _ _ _ h => h, fun _ _ _ _ h => h, fun _ _ _ _ h => h, fun _ _ _ _ h => h, fun _ _ _ _ h => h, fun _ _ _ _ h => h, fun _ _ _ _ h => h, fun _ _ _ _ h => h, fun _ _ _ _ h => h, fun _ _ _ _ h => h, fun _ _ _ _ h => h, fun _ _ _ _ h => h, fun _ _ _ _ h => h, fun _ _ _ _ h => h, fun _ _ _ _ h => h, trivial⟩) (fun _ _ => ⟨hC.drew, hB.drew, fun _ _ h => h⟩) ?_ ?_
       ·
        refine dsNone (j := 1) rfl ?_ ?_
        ·
         intro done G w ac_ hd hp hn ⟨hC, hB, hg⟩ hM
         have f1 : ac_.tmps[1]? = some (.pointer (some ⟨b5, 0, none⟩)) := hM.old0 rfl rfl
         have hF := (hM.fr.add f1)
         exact OpVal.draw hF (opFieldAddr rfl fo24_1) ⟨G, fun _ _ h => h, ⟨hC, hB, hg⟩, rfl⟩
        refine dsNone (j := 2) rfl ?_ ?_
        ·
         intro done G w ac_ hd hp hn ⟨hC, hB, hg⟩ hM
         have f29 := hM.eqv (s := 29) 0 rfl (hp 0 rfl) rfl rfl
         have hF := (hM.fr.add f29)
         exact OpVal.draw hF (opLoadOne (v := (.slice (some ⟨b12, o13, none⟩) c.nodes.length cap4)) rfl (hB.cell (i := 0) rfl rfl) one22) ⟨G, fun _ _ h => h, ⟨hC, hB, hg⟩, rfl⟩
        refine dsNone (j := 3) rfl ?_ ?_
        ·
         intro done G w ac_ hd hp hn ⟨hC, hB, hg⟩ hM
         have f3 : ac_.tmps[3]? = some (.int .i64 (((k : Nat) : Int))) := hM.old0 rfl rfl
         have hF := (hM.fr.add f3)
         exact OpVal.draw hF (opMove rfl) ⟨G, fun _ _ h => h, ⟨hC, hB, hg⟩, rfl⟩
        refine dsNone (j := 4) rfl ?_ ?_
        ·
         intro done G w ac_ hd hp hn ⟨hC, hB, hg⟩ hM
         have f30 := hM.eqv (s := 30) 1 rfl (hp 1 rfl) rfl rfl
         have f31 := hM.eqv (s := 31) 2 rfl (hp 2 rfl) rfl rfl
         have hF := ((hM.fr.add f30).add f31)
         exact OpVal.draw hF (opIndexAddr rfl rfl slo22 (of_decide_eq_true h9)) ⟨G, fun _ _ h => h, ⟨hC, hB, hg⟩, rfl⟩
        refine dsNone (j := 5) rfl ?_ ?_
        ·
         intro done G w ac_ hd hp hn ⟨hC, hB, hg⟩ hM
         replace hr15 := hr15.mono hg
         have f32 := hM.eqv (s := 32) 3 rfl (hp 3 rfl) rfl rfl
         have hF := (hM.fr.add f32)
         exact OpVal.draw hF (opLoadOne (v := (.int .i64 x10)) rfl (RowG.cell0 hC.holds hr15 rfl) one3) ⟨G, fun _ _ h => h, ⟨hC, hB, hg⟩, rfl⟩
        refine dsNone (j := 6) rfl ?_ ?_
        ·
         intro done G w ac_ hd hp hn ⟨hC, hB, hg⟩ hM
         have f33 := hM.eqv (s := 33) 4 rfl (hp 4 rfl) rfl rfl
         have hF := (hM.fr.add f33)
         exact drawCallS hF rfl co54 rfl (RetS.cast (rnode_ret _ _ hC.holds x10) (congrArg Value.bool h18)) (fun w' hk => ⟨G, fun _ _ h => h, ⟨hC.trans hk, hB.ext hk, hg⟩, rfl⟩)
        refine dsNone (j := 7) rfl ?_ ?_
        ·
         intro done G w ac_ hd hp hn ⟨hC, hB, hg⟩ hM
         have f34 := hM.eqv (s := 34) 5 rfl (hp 5 rfl) rfl rfl
         have hF := (hM.fr.add f34)
         exact OpVal.draw hF (opNot rfl) ⟨G, fun _ _ h => h, ⟨hC, hB, hg⟩, rfl⟩
        refine dsNone (j := 8) rfl ?_ ?_
        ·
         intro done G w ac_ hd hp hn ⟨hC, hB, hg⟩ hM
         have f35 := hM.eqv (s := 35) 6 rfl (hp 6 rfl) rfl rfl
         have hF := (hM.fr.add f35)
         exact OpVal.draw hF (opMove rfl) ⟨G, fun _ _ h => h, ⟨hC, hB, hg⟩, rfl⟩
        refine dsOn (j := 9) rfl rfl ?_ ?_
        ·
         intro done G w ac_ hd hp hn ⟨hC, hB, hg⟩ hM
         have f3 : ac_.tmps[3]? = some (.int .i64 (((k : Nat) : Int))) := hM.old0 rfl rfl
         have f36 := hM.eqv (s := 36) 7 rfl (hp 7 rfl) rfl rfl
         refine ⟨f36, ?_⟩
         have hF := (hM.fr.add f3)
         exact OpVal.draw hF (opMove rfl) ⟨G, fun _ _ h => h, ⟨hC, hB, hg⟩, rfl⟩
        refine dsOn (j := 10) rfl rfl ?_ ?_
        ·
         intro done G w ac_ hd hp hn ⟨hC, hB, hg⟩ hM
         have f37 := hM.eqv (s := 37) 8 rfl (hp 8 rfl) rfl rfl
         have f36 := hM.eqv (s := 36) 7 rfl (hp 7 rfl) rfl rfl
         refine ⟨f36, ?_⟩
         have hF := (hM.fr.add f37)
         exact OpVal.draw hF (OpVal.cast (opGtr rfl rfl) (congrArg Value.bool h19)) ⟨G, fun _ _ h => h, ⟨hC, hB, hg⟩, rfl⟩
        refine dsOn (j := 11) rfl rfl ?_ ?_
        ·
         intro done G w ac_ hd hp hn ⟨hC, hB, hg⟩ hM
         have f38 := hM.eqv (s := 38) 9 rfl (hp 9 rfl) rfl rfl
         have f36 := hM.eqv (s := 36) 7 rfl (hp 7 rfl) rfl rfl
         refine ⟨f36, ?_⟩
         have hF := (hM.fr.add f38)
         exact OpVal.draw hF (opMove rfl) ⟨G, fun _ _ h => h, ⟨hC, hB, hg⟩, rfl⟩
        refine dsOff (j := 12) (b' := false) rfl rfl rfl ?_ ?_
        ·
         intro done G w ac_ hd hp hn ⟨hC, hB, hg⟩ hM
         have f39 := hM.eqv (s := 39) 10 rfl (hp 10 rfl) rfl rfl
         exact ⟨f39, ⟨hC, hB, hg⟩, rfl⟩
        refine dsOff (j := 13) (b' := false) rfl rfl rfl ?_ ?_
        ·
         intro done G w ac_ hd hp hn ⟨hC, hB, hg⟩ hM
         have f39 := hM.eqv (s := 39) 10 rfl (hp 10 rfl) rfl rfl
         exact ⟨f39, ⟨hC, hB, hg⟩, rfl⟩
        refine dsOff (j := 14) (b' := false) rfl rfl rfl ?_ ?_
        ·
         intro done G w ac_ hd hp hn ⟨hC, hB, hg⟩ hM
         have f39 := hM.eqv (s := 39) 10 rfl (hp 10 rfl) rfl rfl
         exact ⟨f39, ⟨hC, hB, hg⟩, rfl⟩
        refine dsOff (j := 15) (b' := false) rfl rfl rfl ?_ ?_
        ·
         intro done G w ac_ hd hp hn ⟨hC, hB, hg⟩ hM
         have f39 := hM.eqv (s := 39) 10 rfl (hp 10 rfl) rfl rfl
         exact ⟨f39, ⟨hC, hB, hg⟩, rfl⟩
        refine dsOff (j := 16) (b' := false) rfl rfl rfl ?_ ?_
        ·
         intro done G w ac_ hd hp hn ⟨hC, hB, hg⟩ hM
         have f39 := hM.eqv (s := 39) 10 rfl (hp 10 rfl) rfl rfl
         exact ⟨f39, ⟨hC, hB, hg⟩, rfl⟩
        refine dsOff (j := 17) (b' := false) rfl rfl rfl ?_ ?_
        ·
         intro done G w ac_ hd hp hn ⟨hC, hB, hg⟩ hM
         have f39 := hM.eqv (s := 39) 10 rfl (hp 10 rfl) rfl rfl
         exact ⟨f39, ⟨hC, hB, hg⟩, rfl⟩
        refine dsOff (j := 18) (b' := false) rfl rfl rfl ?_ ?_
        ·
         intro done G w ac_ hd hp hn ⟨hC, hB, hg⟩ hM
         have f39 := hM.eqv (s := 39) 10 rfl (hp 10 rfl) rfl rfl
         exact ⟨f39, ⟨hC, hB, hg⟩, rfl⟩
        refine dsOff (j := 19) (b' := false) rfl rfl rfl ?_ ?_
        ·
         intro done G w ac_ hd hp hn ⟨hC, hB, hg⟩ hM
         have f39 := hM.eqv (s := 39) 10 rfl (hp 10 rfl) rfl rfl
         exact ⟨f39, ⟨hC, hB, hg⟩, rfl⟩
        refine dsOff (j := 20) (b' := false) rfl rfl rfl ?_ ?_
        ·
         intro done G w ac_ hd hp hn ⟨hC, hB, hg⟩ hM
         have f39 := hM.eqv (s := 39) 10 rfl (hp 10 rfl) rfl rfl
         exact ⟨f39, ⟨hC, hB, hg⟩, rfl⟩
        refine dsOff (j := 21) (b' := false) rfl rfl rfl ?_ ?_
        ·
         intro done G w ac_ hd hp hn ⟨hC, hB, hg⟩ hM
         have f39 := hM.eqv (s := 39) 10 rfl (hp 10 rfl) rfl rfl
         exact ⟨f39, ⟨hC, hB, hg⟩, rfl⟩
        refine dsOff (j := 22) (b' := false) rfl rfl rfl ?_ ?_
        ·
         intro done G w ac_ hd hp hn ⟨hC, hB, hg⟩ hM
         have f39 := hM.eqv (s := 39) 10 rfl (hp 10 rfl) rfl rfl
         exact ⟨f39, ⟨hC, hB, hg⟩, rfl⟩
        refine dsOff (j := 23) (b' := false) rfl rfl rfl ?_ ?_
        ·
         intro done G w ac_ hd hp hn ⟨hC, hB, hg⟩ hM
         have f39 := hM.eqv (s := 39) 10 rfl (hp 10 rfl) rfl rfl
         exact ⟨f39, ⟨hC, hB, hg⟩, rfl⟩
        refine dsOn (j := 24) rfl rfl ?_ ?_
        ·
         intro done G w ac_ hd hp hn ⟨hC, hB, hg⟩ hM
         have f39 := hM.eqv (s := 39) 10 rfl (hp 10 rfl) rfl rfl
         have f51 := hM.eqv (s := 51) 22 rfl (hp 22 rfl) rfl rfl
         have f36 := hM.eqv (s := 36) 7 rfl (hp 7 rfl) rfl rfl
         refine ⟨f36, ?_⟩
         have hF := ((hM.fr.add f39).add f51)
         exact OpVal.draw hF (opPickF rfl rfl) ⟨G, fun _ _ h => h, ⟨hC, hB, hg⟩, rfl⟩
        refine dsNone (j := 25) rfl ?_ ?_
        ·
         intro done G w ac_ hd hp hn ⟨hC, hB, hg⟩ hM
         have f36 := hM.eqv (s := 36) 7 rfl (hp 7 rfl) rfl rfl
         have f52 := hM.eqv (s := 52) 23 rfl (hp 23 rfl) rfl rfl
         have hF := ((hM.fr.add f36).add f52)
         exact OpVal.draw hF (opPickF rfl rfl) ⟨G, fun _ _ h => h, ⟨hC, hB, hg⟩, rfl⟩
        exact dsNil
       ·
        intro done G w ac_ hall ⟨hC, hB, hg⟩ hM
        replace hs2 := hs2.mono hg
        replace hr15 := hr15.mono hg
        have f1 : ac_.tmps[1]? = some (.pointer (some ⟨b5, 0, none⟩)) := hM.old0 rfl rfl
        have f3 : ac_.tmps[3]? = some (.int .i64 (((k : Nat) : Int))) := hM.old0 rfl rfl
        have f53 := hM.eqv (s := 53) 24 rfl (hall 24 (by decide)) rfl rfl
        refine ⟨(((Env.nil.put 1 (.pointer (some ⟨b5, 0, none⟩))).put 3 (.int .i64 (((k : Nat) : Int)))).put 53 (.bool false)), (((hM.fr.add f1).add f3).add f53), ?_⟩
        clear hM hall
        refine wcOf ?_
        refine wcCondF rfl ?_
        refine wcSkip ?_
        refine wcOf ?_
        refine wcRegion ?_
        refine wlVal (opMove rfl) rfl ?_
        refine wlVal (opIncr rfl rfl (incr_ok (of_decide_eq_true h9) hs2.le)) rfl ?_
        refine wlVal (opAssign rfl) rfl ?_
        refine wlRound ?_
        exact (IH0 (k + 1) _ _ ⟨hC, hB, hs2, (by have hk0 : k = 0 := (by have := of_decide_eq_false h19; omega); subst hk0; rw [← hI, drop_get hx11]; rw [prevI_succ hx11]; simp only [risesB, h6, h7, h8, h9, h18, h19]; rw [prevI_0, nodeB_pos (by simpa using h18)]; simp)⟩ (by have := of_decide_eq_true h9; simp; omega)).sub (fun _ ha => ((ha.start.cons ha (t := 1) rfl).cons ha (t := 3) rfl))
      ·
       skip
       obtain ⟨x20, hx21⟩ : ∃ y_, c.nodes[(k - 1)]? = some y_ := ⟨_, List.getElem?_eq_getElem (by have := of_decide_eq_true h9; omega)⟩
       obtain ⟨row24, hr25, hi26⟩ := Sl.elem' hs2 hx21
       obtain rfl := hi26
       refine wcDraw fmix (by kernel_rfl) (by kernel_rfl) (vAt [(fun _ v_ => v_ = (.pointer (some ⟨b5, 1, none⟩))), (fun _ v_ => v_ = (.slice (some ⟨b12, o13, none⟩) c.nodes.length cap4)), (fun _ v_ => v_ = (.int .i64 (((k : Nat) : Int)))), (fun _ v_ => v_ = (.pointer (some ⟨b12, o13 + k * 1, none⟩))), (fun _ v_ => v_ = (.int .i64 x10)), (fun _ v_ => v_ = (.bool true)), (fun _ v_ => v_ = (.bool false)), (fun _ v_ => v_ = (.bool false)), (fun _ v_ => v_ = (.int .i64 (((k : Nat) : Int)))), (fun _ v_ => v_ = (.bool true)), (fun _ v_ => v_ = (.bool true)), (fun _ v_ => v_ = (.pointer (some ⟨b5, 1, none⟩))), (fun _ v_ => v_ = (.slice (some ⟨b12, o13, none⟩) c.nodes.length cap4)), (fun _ v_ => v_ = (.int .i64 (((k : Nat) : Int)))), (fun _ v_ => v_ = (.pointer (some ⟨b12, o13 + k * 1, none⟩))), (fun _ v_ => v_ = (.int .i64 x10)), (fun _ v_ => v_ = (.pointer (some ⟨b5, 1, none⟩))), (fun _ v_ => v_ = (.slice (some ⟨b12, o13, none⟩) c.nodes.length cap4)), (fun _ v_ => v_ = (.int .i64 (((k : Nat) : Int)))), (fun _ v_ => v_ = (.int .i64 ((((k - 1) : Nat) : Int)))), (fun _ v_ => v_ = (.pointer (some ⟨b12, o13 + ((k - 1)) * 1, none⟩))), (fun _ v_ => v_ = (.int .i64 x20)), (fun _ v_ => v_ = (.bool (decide (x10 ≤ x20)))), (fun _ v_ => v_ = (.bool (decide (x10 ≤ x20)))), (fun _ v_ => v_ = (.bool (decide (x10 ≤ x20))))]) (fun _ _ G' w => Cx w0 G0 G' w ∧ Bxs G' w w0.heap.size [(b5, 24, [(.int .i64 c.faults), (.slice (some ⟨b12, o13, none⟩) c.nodes.length cap4)])] ∧ GLe G G') G (vAt_mono ⟨fun _ _ _ _ h => h, fun _ _ _ _ h => h, fun _ _ _ _ h => h, fun _ _ _ _ h => h, fun _ _ _ _ h => h, fun _ _ _ _ h => h, fun _ _ _ _ h => h, fun _ _ _ _ h => h, fun _ _ _ _ h => h, fun _ _ _ _ h => h, fun _ _ _ _ h => h, fun _ _ _ _ h => h, fun _ _ _ _ h => h, fun _ _ _ _ h => h, fun _ _ _ _ h => h, fun _ _ _ _ h => h, fun _ _ _ _ h => h, fun _ _ _ _ h => h, fun _ _ _ _ h => h, fun _ _ _ _ h => h, fun _ _ _ _ h => h, fun _ _ _ _ h => h, fun _ _ _ _ h => h, fun _ _ _ _ h => h, fun _ _ _ _ h => h, trivial⟩) (fun _ _ => ⟨hC.drew, hB.drew, fun _ _ h => h⟩) ?_ ?_
       ·
        refine dsNone (j := 1) rfl ?_ ?_
        ·
         intro done G w ac_ hd hp hn ⟨hC, hB, hg⟩ hM
         have f1 : ac_.tmps[1]? = some (.pointer (some ⟨b5, 0, none⟩)) := hM.old0 rfl rfl
         have hF := (hM.fr.add f1)
         exact OpVal.draw hF (opFieldAddr rfl fo24_1) ⟨G, fun _ _ h => h, ⟨hC, hB, hg⟩, rfl⟩
        refine dsNone (j := 2) rfl ?_ ?_
        ·
         intro done G w ac_ hd hp hn ⟨hC, hB, hg⟩ hM
         have f29 := hM.eqv (s := 29) 0 rfl (hp 0 rfl) rfl rfl
         have hF := (hM.fr.add f29)
         exact OpVal.draw hF (opLoadOne (v := (.slice (some ⟨b12, o13, none⟩) c.nodes.length cap4)) rfl (hB.cell (i := 0) rfl rfl) one22) ⟨G, fun _ _ h => h, ⟨hC, hB, hg⟩, rfl⟩
        refine dsNone (j := 3) rfl ?_ ?_
        ·
         intro done G w ac_ hd hp hn ⟨hC, hB, hg⟩ hM
         have f3 : ac_.tmps[3]? = some (.int .i64 (((k : Nat) : Int))) := hM.old0 rfl rfl
         have hF := (hM.fr.add f3)
         exact OpVal.draw hF (opMove rfl) ⟨G, fun _ _ h => h, ⟨hC, hB, hg⟩, rfl⟩
        refine dsNone (j := 4) rfl ?_ ?_
        ·
         intro done G w ac_ hd hp hn ⟨hC, hB, hg⟩ hM
         have f30 := hM.eqv (s := 30) 1 rfl (hp 1 rfl) rfl rfl
         have f31 := hM.eqv (s := 31) 2 rfl (hp 2 rfl) rfl rfl
         have hF := ((hM.fr.add f30).add f31)
         exact OpVal.draw hF (opIndexAddr rfl rfl slo22 (of_decide_eq_true h9)) ⟨G, fun _ _ h => h, ⟨hC, hB, hg⟩, rfl⟩
        refine dsNone (j := 5) rfl ?_ ?_
        ·
         intro done G w ac_ hd hp hn ⟨hC, hB, hg⟩ hM
         replace hr15 := hr15.mono hg
         have f32 := hM.eqv (s := 32) 3 rfl (hp 3 rfl) rfl rfl
         have hF := (hM.fr.add f32)
         exact OpVal.draw hF (opLoadOne (v := (.int .i64 x10)) rfl (RowG.cell0 hC.holds hr15 rfl) one3) ⟨G, fun _ _ h => h, ⟨hC, hB, hg⟩, rfl⟩
        refine dsNone (j := 6) rfl ?_ ?_
        ·
         intro done G w ac_ hd hp hn ⟨hC, hB, hg⟩ hM
         have f33 := hM.eqv (s := 33) 4 rfl (hp 4 rfl) rfl rfl
         have hF := (hM.fr.add f33)
         exact drawCallS hF rfl co54 rfl (RetS.cast (rnode_ret _ _ hC.holds x10) (congrArg Value.bool h18)) (fun w' hk => ⟨G, fun _ _ h => h, ⟨hC.trans hk, hB.ext hk, hg⟩, rfl⟩)
        refine dsNone (j := 7) rfl ?_ ?_
        ·
         intro done G w ac_ hd hp hn ⟨hC, hB, hg⟩ hM
         have f34 := hM.eqv (s := 34) 5 rfl (hp 5 rfl) rfl rfl
         have hF := (hM.fr.add f34)
         exact OpVal.draw hF (opNot rfl) ⟨G, fun _ _ h => h, ⟨hC, hB, hg⟩, rfl⟩
        refine dsNone (j := 8) rfl ?_ ?_
        ·
         intro done G w ac_ hd hp hn ⟨hC, hB, hg⟩ hM
         have f35 := hM.eqv (s := 35) 6 rfl (hp 6 rfl) rfl rfl
         have hF := (hM.fr.add f35)
         exact OpVal.draw hF (opMove rfl) ⟨G, fun _ _ h => h, ⟨hC, hB, hg⟩, rfl⟩
        refine dsOn (j := 9) rfl rfl ?_ ?_
        ·
         intro done G w ac_ hd hp hn ⟨hC, hB, hg⟩ hM
         have f3 : ac_.tmps[3]? = some (.int .i64 (((k : Nat) : Int))) := hM.old0 rfl rfl
         have f36 := hM.eqv (s := 36) 7 rfl (hp 7 rfl) rfl rfl
         refine ⟨f36, ?_⟩
         have hF := (hM.fr.add f3)
         exact OpVal.draw hF (opMove rfl) ⟨G, fun _ _ h => h, ⟨hC, hB, hg⟩, rfl⟩
        refine dsOn (j := 10) rfl rfl ?_ ?_
        ·
         intro done G w ac_ hd hp hn ⟨hC, hB, hg⟩ hM
         have f37 := hM.eqv (s := 37) 8 rfl (hp 8 rfl) rfl rfl
         have f36 := hM.eqv (s := 36) 7 rfl (hp 7 rfl) rfl rfl
         refine ⟨f36, ?_⟩
         have hF := (hM.fr.add f37)
         exact OpVal.draw hF (OpVal.cast (opGtr rfl rfl) (congrArg Value.bool h19)) ⟨G, fun _ _ h => h, ⟨hC, hB, hg⟩, rfl⟩
        refine dsOn (j := 11) rfl rfl ?_ ?_
        ·
         intro done G w ac_ hd hp hn ⟨hC, hB, hg⟩ hM
         have f38 := hM.eqv (s := 38) 9 rfl (hp 9 rfl) rfl rfl
         have f36 := hM.eqv (s := 36) 7 rfl (hp 7 rfl) rfl rfl
         refine ⟨f36, ?_⟩
         have hF := (hM.fr.add f38)
         exact OpVal.draw hF (opMove rfl) ⟨G, fun _ _ h => h, ⟨hC, hB, hg⟩, rfl⟩
        refine dsOn (j := 12) rfl rfl ?_ ?_
        ·
         intro done G w ac_ hd hp hn ⟨hC, hB, hg⟩ hM
         have f1 : ac_.tmps[1]? = some (.pointer (some ⟨b5, 0, none⟩)) := hM.old0 rfl rfl
         have f39 := hM.eqv (s := 39) 10 rfl (hp 10 rfl) rfl rfl
         refine ⟨f39, ?_⟩
         have hF := (hM.fr.add f1)
         exact OpVal.draw hF (opFieldAddr rfl fo24_1) ⟨G, fun _ _ h => h, ⟨hC, hB, hg⟩, rfl⟩
        refine dsOn (j := 13) rfl rfl ?_ ?_
        ·
         intro done G w ac_ hd hp hn ⟨hC, hB, hg⟩ hM
         have f40 := hM.eqv (s := 40) 11 rfl (hp 11 rfl) rfl rfl
         have f39 := hM.eqv (s := 39) 10 rfl (hp 10 rfl) rfl rfl
         refine ⟨f39, ?_⟩
         have hF := (hM.fr.add f40)
         exact OpVal.draw hF (opLoadOne (v := (.slice (some ⟨b12, o13, none⟩) c.nodes.length cap4)) rfl (hB.cell (i := 0) rfl rfl) one22) ⟨G, fun _ _ h => h, ⟨hC, hB, hg⟩, rfl⟩
        refine dsOn (j := 14) rfl rfl ?_ ?_
        ·
         intro done G w ac_ hd hp hn ⟨hC, hB, hg⟩ hM
         have f3 : ac_.tmps[3]? = some (.int .i64 (((k : Nat) : Int))) := hM.old0 rfl rfl
         have f39 := hM.eqv (s := 39) 10 rfl (hp 10 rfl) rfl rfl
         refine ⟨f39, ?_⟩
         have hF := (hM.fr.add f3)
         exact OpVal.draw hF (opMove rfl) ⟨G, fun _ _ h => h, ⟨hC, hB, hg⟩, rfl⟩
        refine dsOn (j := 15) rfl rfl ?_ ?_
        ·
         intro done G w ac_ hd hp hn ⟨hC, hB, hg⟩ hM
         have f41 := hM.eqv (s := 41) 12 rfl (hp 12 rfl) rfl rfl
         have f42 := hM.eqv (s := 42) 13 rfl (hp 13 rfl) rfl rfl
         have f39 := hM.eqv (s := 39) 10 rfl (hp 10 rfl) rfl rfl
         refine ⟨f39, ?_⟩
         have hF := ((hM.fr.add f41).add f42)
         exact OpVal.draw hF (opIndexAddr rfl rfl slo22 (of_decide_eq_true h9)) ⟨G, fun _ _ h => h, ⟨hC, hB, hg⟩, rfl⟩
        refine dsOn (j := 16) rfl rfl ?_ ?_
        ·
         intro done G w ac_ hd hp hn ⟨hC, hB, hg⟩ hM
         replace hr15 := hr15.mono hg
         have f43 := hM.eqv (s := 43) 14 rfl (hp 14 rfl) rfl rfl
         have f39 := hM.eqv (s := 39) 10 rfl (hp 10 rfl) rfl rfl
         refine ⟨f39, ?_⟩
         have hF := (hM.fr.add f43)
         exact OpVal.draw hF (opLoadOne (v := (.int .i64 x10)) rfl (RowG.cell0 hC.holds hr15 rfl) one3) ⟨G, fun _ _ h => h, ⟨hC, hB, hg⟩, rfl⟩
        refine dsOn (j := 17) rfl rfl ?_ ?_
        ·
         intro done G w ac_ hd hp hn ⟨hC, hB, hg⟩ hM
         have f1 : ac_.tmps[1]? = some (.pointer (some ⟨b5, 0, none⟩)) := hM.old0 rfl rfl
         have f39 := hM.eqv (s := 39) 10 rfl (hp 10 rfl) rfl rfl
         refine ⟨f39, ?_⟩
         have hF := (hM.fr.add f1)
         exact OpVal.draw hF (opFieldAddr rfl fo24_1) ⟨G, fun _ _ h => h, ⟨hC, hB, hg⟩, rfl⟩
        refine dsOn (j := 18) rfl rfl ?_ ?_
        ·
         intro done G w ac_ hd hp hn ⟨hC, hB, hg⟩ hM
         have f45 := hM.eqv (s := 45) 16 rfl (hp 16 rfl) rfl rfl
         have f39 := hM.eqv (s := 39) 10 rfl (hp 10 rfl) rfl rfl
         refine ⟨f39, ?_⟩
         have hF := (hM.fr.add f45)
         exact OpVal.draw hF (opLoadOne (v := (.slice (some ⟨b12, o13, none⟩) c.nodes.length cap4)) rfl (hB.cell (i := 0) rfl rfl) one22) ⟨G, fun _ _ h => h, ⟨hC, hB, hg⟩, rfl⟩
        refine dsOn (j := 19) rfl rfl ?_ ?_
        ·
         intro done G w ac_ hd hp hn ⟨hC, hB, hg⟩ hM
         have f3 : ac_.tmps[3]? = some (.int .i64 (((k : Nat) : Int))) := hM.old0 rfl rfl
         have f39 := hM.eqv (s := 39) 10 rfl (hp 10 rfl) rfl rfl
         refine ⟨f39, ?_⟩
         have hF := (hM.fr.add f3)
         exact OpVal.draw hF (opMove rfl) ⟨G, fun _ _ h => h, ⟨hC, hB, hg⟩, rfl⟩
        refine dsOn (j := 20) rfl rfl ?_ ?_
        ·
         intro done G w ac_ hd hp hn ⟨hC, hB, hg⟩ hM
         replace hs2 := hs2.mono hg
         have f47 := hM.eqv (s := 47) 18 rfl (hp 18 rfl) rfl rfl
         have f39 := hM.eqv (s := 39) 10 rfl (hp 10 rfl) rfl rfl
         refine ⟨f39, ?_⟩
         have hF := (hM.fr.add f47)
         exact OpVal.draw hF (opDecr rfl rfl (Int.ofNat_lt.1 (of_decide_eq_true h19)) (incr_ok (of_decide_eq_true h9) hs2.le)) ⟨G, fun _ _ h => h, ⟨hC, hB, hg⟩, rfl⟩
        refine dsOn (j := 21) rfl rfl ?_ ?_
        ·
         intro done G w ac_ hd hp hn ⟨hC, hB, hg⟩ hM
         have f46 := hM.eqv (s := 46) 17 rfl (hp 17 rfl) rfl rfl
         have f48 := hM.eqv (s := 48) 19 rfl (hp 19 rfl) rfl rfl
         have f39 := hM.eqv (s := 39) 10 rfl (hp 10 rfl) rfl rfl
         refine ⟨f39, ?_⟩
         have hF := ((hM.fr.add f46).add f48)
         exact OpVal.draw hF (opIndexAddr rfl rfl slo22 (by have := of_decide_eq_true h9; omega)) ⟨G, fun _ _ h => h, ⟨hC, hB, hg⟩, rfl⟩
        refine dsOn (j := 22) rfl rfl ?_ ?_
        ·
         intro done G w ac_ hd hp hn ⟨hC, hB, hg⟩ hM
         replace hr25 := hr25.mono hg
         have f49 := hM.eqv (s := 49) 20 rfl (hp 20 rfl) rfl rfl
         have f39 := hM.eqv (s := 39) 10 rfl (hp 10 rfl) rfl rfl
         refine ⟨f39, ?_⟩
         have hF := (hM.fr.add f49)
         exact OpVal.draw hF (opLoadOne (v := (.int .i64 x20)) rfl (RowG.cell0 hC.holds hr25 rfl) one3) ⟨G, fun _ _ h => h, ⟨hC, hB, hg⟩, rfl⟩
        refine dsOn (j := 23) rfl rfl ?_ ?_
        ·
         intro done G w ac_ hd hp hn ⟨hC, hB, hg⟩ hM
         have f44 := hM.eqv (s := 44) 15 rfl (hp 15 rfl) rfl rfl
         have f50 := hM.eqv (s := 50) 21 rfl (hp 21 rfl) rfl rfl
         have f39 := hM.eqv (s := 39) 10 rfl (hp 10 rfl) rfl rfl
         refine ⟨f39, ?_⟩
         have hF := ((hM.fr.add f44).add f50)
         exact OpVal.draw hF (opLeq rfl rfl) ⟨G, fun _ _ h => h, ⟨hC, hB, hg⟩, rfl⟩
        refine dsOn (j := 24) rfl rfl ?_ ?_
        ·
         intro done G w ac_ hd hp hn ⟨hC, hB, hg⟩ hM
         have f39 := hM.eqv (s := 39) 10 rfl (hp 10 rfl) rfl rfl
         have f51 := hM.eqv (s := 51) 22 rfl (hp 22 rfl) rfl rfl
         have f36 := hM.eqv (s := 36) 7 rfl (hp 7 rfl) rfl rfl
         refine ⟨f36, ?_⟩
         have hF := ((hM.fr.add f39).add f51)
         exact OpVal.draw hF (opPickT rfl rfl) ⟨G, fun _ _ h => h, ⟨hC, hB, hg⟩, rfl⟩
        refine dsNone (j := 25) rfl ?_ ?_
        ·
         intro done G w ac_ hd hp hn ⟨hC, hB, hg⟩ hM
         have f36 := hM.eqv (s := 36) 7 rfl (hp 7 rfl) rfl rfl
         have f52 := hM.eqv (s := 52) 23 rfl (hp 23 rfl) rfl rfl
         have hF := ((hM.fr.add f36).add f52)
         exact OpVal.draw hF (opPickF rfl rfl) ⟨G, fun _ _ h => h, ⟨hC, hB, hg⟩, rfl⟩
        exact dsNil
       ·
        intro done G w ac_ hall ⟨hC, hB, hg⟩ hM
        replace hs2 := hs2.mono hg
        have f1 : ac_.tmps[1]? = some (.pointer (some ⟨b5, 0, none⟩)) := hM.old0 rfl rfl
        have f3 : ac_.tmps[3]? = some (.int .i64 (((k : Nat) : Int))) := hM.old0 rfl rfl
        have f53 := hM.eqv (s := 53) 24 rfl (hall 24 (by decide)) rfl rfl
        refine ⟨(((Env.nil.put 1 (.pointer (some ⟨b5, 0, none⟩))).put 3 (.int .i64 (((k : Nat) : Int)))).put 53 (.bool (decide (x10 ≤ x20)))), (((hM.fr.add f1).add f3).add f53), ?_⟩
        clear hM hall
        refine wcOf ?_
        cases h28 : decide (x10 ≤ x20)
        ·
         skip
         refine wcCondF rfl ?_
         refine wcSkip ?_
         refine wcOf ?_
         refine wcRegion ?_
         refine wlVal (opMove rfl) rfl ?_
         refine wlVal (opIncr rfl rfl (incr_ok (of_decide_eq_true h9) hs2.le)) rfl ?_
         refine wlVal (opAssign rfl) rfl ?_
         refine wlRound ?_
         exact (IH0 (k + 1) _ _ ⟨hC, hB, hs2, (by rw [← hI, drop_get hx11]; simp [risesB, prevI_succ hx11, prevI_of (Int.ofNat_lt.1 (of_decide_eq_true h19)) hx21, h6, h7, h8, h9, h18, h19, h28])⟩ (by have := of_decide_eq_true h9; have := of_decide_eq_true h19; simp; omega)).sub (fun _ ha => ((ha.start.cons ha (t := 1) rfl).cons ha (t := 3) rfl))
        ·
         skip
         refine wcCondT rfl ?_
         refine wcSeq (wcRegion ?_)
         refine wlVal (opAssign rfl) rfl ?_
         refine wlThen ?_
         refine wcRet ?_
         exact fun ac_ ha => hQ _ _ _ (results1 ha rfl rfl) ha.df (endS hC hw (by have e := hI; rw [drop_get hx11] at e; simp [risesB, h6, h7, h8, h9, h18, h19, h28] at e; first | (simp [check, h6, h7, h8, h9, h18, h19, h28, e]; done) | (have e4 := prevI_of (Int.ofNat_lt.1 (of_decide_eq_true h19)) hx21; simp [e4, h6, h7, h8, h9, h18, h19, h28] at e; simp [check, h6, h7, h8, h9, h18, h19, h28, e])))
   ·
    skip
    refine wcCondT rfl ?_
    refine wcSeq (wcRegion ?_)
    refine wlVal (opAssign rfl) rfl ?_
    refine wlThen ?_
    refine wcRet ?_
    exact fun ac_ ha => hQ _ _ _ (results1 ha rfl rfl) ha.df (endS hC hw (by simp [check, h6, h7, h8]))
  ·
   skip
   refine wlOff rfl rfl rfl rfl ?_
   refine wlOff rfl rfl rfl rfl ?_
   refine wlOff rfl rfl rfl rfl ?_
   refine wlOff rfl rfl rfl rfl ?_
   refine wlOff rfl rfl rfl rfl ?_
   refine wlOff rfl rfl rfl rfl ?_
   refine wlOff rfl rfl rfl rfl ?_
   refine wlOff rfl rfl rfl rfl ?_
   refine wlVal (opPickT rfl rfl) rfl ?_
   refine wlThen ?_
   refine wcCondT rfl ?_
   refine wcSeq (wcRegion ?_)
   refine wlVal (opAssign rfl) rfl ?_
   refine wlThen ?_
   refine wcRet ?_
   exact fun ac_ ha => hQ _ _ _ (results1 ha rfl rfl) ha.df (endS hC hw (by simp [check, h6, h7]))
 ·
  skip
  refine wlOff rfl rfl rfl rfl ?_
  refine wlOff rfl rfl rfl rfl ?_
  refine wlOff rfl rfl rfl rfl ?_
  refine wlVal (opPickT rfl rfl) rfl ?_
  refine wlVal (opMove rfl) rfl ?_
  refine wlOff rfl rfl rfl rfl ?_
  refine wlOff rfl rfl rfl rfl ?_
  refine wlOff rfl rfl rfl rfl ?_
  refine wlOff rfl rfl rfl rfl ?_
  refine wlOff rfl rfl rfl rfl ?_
  refine wlOff rfl rfl rfl rfl ?_
  refine wlOff rfl rfl rfl rfl ?_
  refine wlOff rfl rfl rfl rfl ?_
  refine wlVal (opPickT rfl rfl) rfl ?_
  refine wlThen ?_
  refine wcCondT rfl ?_
  refine wcSeq (wcRegion ?_)
  refine wlVal (opAssign rfl) rfl ?_
  refine wlThen ?_
  refine wcRet ?_
  exact fun ac_ ha => hQ _ _ _ (results1 ha rfl rfl) ha.df (endS hC hw (by simp [check, h6]))

theorem rhas_ret (G0 : Gh) (w0 : World) (hw : Holds G0 w0) (csc : List Value) (c : Crew) (hc : Rp.Is G0 csc c) (n : Int) :
  RetS Try.prog 30 #[.agg csc.toArray, .int .i64 n] G0 w0 (.bool (rhasB c n)) := by
 have hC := Cx.refl hw
 have hB : Bxs G0 w0 w0.heap.size [] := Bxs.nil _ _ _
 obtain ⟨v1, rfl, hs2⟩ := Crew.opIs hc
 obtain ⟨A3, cap4, rfl⟩ := hs2.form
 refine callsOf Try.func30 rfl _ Try.ntmps30 rfl _ (argsCons (argsCons argsNil (t := 0) rfl) (t := 1) rfl) ?_; intro Q0 hQ
 refine wcSeq (wcRegion ?_)
 refine wlBox (cs := [(.int .i64 c.faults), (.slice A3 c.nodes.length cap4)]) hC hB rfl rfl rfl ?_; intro b5 w hk hC hB
 refine wlVal (opAssign rfl) rfl ?_
 refine wlThen (wcSeq (wcRegion ?_))
 refine wlVal (opLoadRow (cs := [(.int .i64 c.faults), (.slice A3 c.nodes.length cap4)]) rfl (hB.range (i := 0) (m := 2) rfl rfl) row24 rfl) rfl ?_
 refine wlCallS hC hB rfl co29 rfl rfl (rcheck_ret _ _ hC.holds _ c (Crew.mkIs (x := c) hs2)) ?_; intro w hk hC hB
 refine wlVal (opEql rfl rfl) rfl ?_
 refine wlVal (opMove rfl) rfl ?_
 cases h6 : ((check c)) == 0
 ·
  skip
  refine wlOff rfl rfl rfl rfl ?_
  refine wlOff rfl rfl rfl rfl ?_
  refine wlOff rfl rfl rfl rfl ?_
  refine wlOff rfl rfl rfl rfl ?_
  refine wlVal (opPickF rfl rfl) rfl ?_
  refine wlVal (opAssign rfl) rfl ?_
  refine wlThen ?_
  refine wcRet ?_
  exact fun ac_ ha => hQ _ _ _ (results1 ha rfl rfl) ha.df (endS hC hw (by simp [rhasB, h6]))
 ·
  skip
  refine wlOn rfl rfl ?_
  refine wlVal (opFieldAddr rfl fo24_1) rfl ?_
  refine wlOn rfl rfl ?_
  refine wlVal (opLoadOne (v := (.slice A3 c.nodes.length cap4)) rfl (hB.cell (i := 0) rfl rfl) one22) rfl ?_
  refine wlOn rfl rfl ?_
  refine wlVal (opMove rfl) rfl ?_
  refine wlOn rfl rfl ?_
  refine wlCallS hC hB rfl co55 rfl rfl (rin_ret _ _ hC.holds _ c.nodes hs2 n) ?_; intro w hk hC hB
  refine wlVal (opPickT rfl rfl) rfl ?_
  refine wlVal (opAssign rfl) rfl ?_
  refine wlThen ?_
  refine wcRet ?_
  exact fun ac_ ha => hQ _ _ _ (results1 ha rfl rfl) ha.df (endS hC hw (by simp [rhasB, h6]))

theorem rmost_ret (G0 : Gh) (w0 : World) (hw : Holds G0 w0) (csc : List Value) (c : Crew) (hc : Rp.Is G0 csc c) :
  RetS Try.prog 32 #[.agg csc.toArray] G0 w0 (.int .i64 (most c)) := by
 have hC := Cx.refl hw
 have hB : Bxs G0 w0 w0.heap.size [] := Bxs.nil _ _ _
 obtain ⟨v1, rfl, hs2⟩ := Crew.opIs hc
 obtain ⟨A3, cap4, rfl⟩ := hs2.form
 refine callsOf Try.func32 rfl _ Try.ntmps32 rfl _ (argsCons argsNil (t := 0) rfl) ?_; intro Q0 hQ
 refine wcSeq (wcRegion ?_)
 refine wlBox (cs := [(.int .i64 c.faults), (.slice A3 c.nodes.length cap4)]) hC hB rfl rfl rfl ?_; intro b5 w hk hC hB
 refine wlVal (opAssign rfl) rfl ?_
 refine wlThen (wcSeq (wcSeq (wcRegion ?_)))
 refine wlVal (opLoadRow (cs := [(.int .i64 c.faults), (.slice A3 c.nodes.length cap4)]) rfl (hB.range (i := 0) (m := 2) rfl rfl) row24 rfl) rfl ?_
 refine wlCallS hC hB rfl co29 rfl rfl (rcheck_ret _ _ hC.holds _ c (Crew.mkIs (x := c) hs2)) ?_; intro w hk hC hB
 refine wlVal (opNeq rfl rfl) rfl ?_
 refine wlThen ?_
 cases h6 : ((check c)) != 0
 ·
  skip
  refine wcCondF rfl ?_
  refine wcSkip ?_
  refine wcOf ?_
  refine wcSeq (wcRegion ?_)
  refine wlVal (opFieldAddr rfl fo24_0) rfl ?_
  refine wlVal (opLoadOne (v := (.int .i64 c.faults)) rfl (hB.cell (i := 0) rfl rfl) one3) rfl ?_
  refine wlVal (opMul rfl rfl) rfl ?_
  refine wlVal (opAdd rfl rfl) rfl ?_
  refine wlVal (opAssign rfl) rfl ?_
  refine wlThen ?_
  refine wcRet ?_
  exact fun ac_ ha => hQ _ _ _ (results1 ha rfl rfl) ha.df (endS hC hw (by simp [most, h6]))
 ·
  skip
  refine wcCondT rfl ?_
  refine wcSeq (wcRegion ?_)
  refine wlVal (opAssign rfl) rfl ?_
  refine wlThen ?_
  refine wcRet ?_
  exact fun ac_ ha => hQ _ _ _ (results1 ha rfl rfl) ha.df (endS hC hw (by simp [most, h6]))

theorem rsome_ret (G0 : Gh) (w0 : World) (hw : Holds G0 w0) (csc : List Value) (c : Crew) (hc : Rp.Is G0 csc c) :
  RetS Try.prog 70 #[.agg csc.toArray] G0 w0 (.int .i64 (some_ c)) := by
 have hC := Cx.refl hw
 have hB : Bxs G0 w0 w0.heap.size [] := Bxs.nil _ _ _
 obtain ⟨v1, rfl, hs2⟩ := Crew.opIs hc
 obtain ⟨A3, cap4, rfl⟩ := hs2.form
 refine callsOf Try.func70 rfl _ Try.ntmps70 rfl _ (argsCons argsNil (t := 0) rfl) ?_; intro Q0 hQ
 refine wcSeq (wcRegion ?_)
 refine wlBox (cs := [(.int .i64 c.faults), (.slice A3 c.nodes.length cap4)]) hC hB rfl rfl rfl ?_; intro b5 w hk hC hB
 refine wlVal (opAssign rfl) rfl ?_
 refine wlThen (wcSeq (wcSeq (wcRegion ?_)))
 refine wlVal (opLoadRow (cs := [(.int .i64 c.faults), (.slice A3 c.nodes.length cap4)]) rfl (hB.range (i := 0) (m := 2) rfl rfl) row24 rfl) rfl ?_
 refine wlCallS hC hB rfl co29 rfl rfl (rcheck_ret _ _ hC.holds _ c (Crew.mkIs (x := c) hs2)) ?_; intro w hk hC hB
 refine wlVal (opNeq rfl rfl) rfl ?_
 refine wlThen ?_
 cases h6 : ((check c)) != 0
 ·
  skip
  refine wcCondF rfl ?_
  refine wcSkip ?_
  refine wcOf ?_
  refine wcSeq (wcRegion ?_)
  refine wlVal (opFieldAddr rfl fo24_0) rfl ?_
  refine wlVal (opLoadOne (v := (.int .i64 c.faults)) rfl (hB.cell (i := 0) rfl rfl) one3) rfl ?_
  refine wlVal (opAdd rfl rfl) rfl ?_
  refine wlVal (opAssign rfl) rfl ?_
  refine wlThen ?_
  refine wcRet ?_
  exact fun ac_ ha => hQ _ _ _ (results1 ha rfl rfl) ha.df (endS hC hw (by simp [some_, h6]))
 ·
  skip
  refine wcCondT rfl ?_
  refine wcSeq (wcRegion ?_)
  refine wlVal (opAssign rfl) rfl ?_
  refine wlThen ?_
  refine wcRet ?_
  exact fun ac_ ha => hQ _ _ _ (results1 ha rfl rfl) ha.df (endS hC hw (by simp [some_, h6]))

end Go.Proofs.Ytbhkoipmojdkhaa
