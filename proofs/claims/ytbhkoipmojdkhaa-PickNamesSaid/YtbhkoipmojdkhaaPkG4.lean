/- What functions of the pick seat return, part 4. No condition. -/
import Derived.Test.YtbhkoipmojdkhaaPkG3
set_option linter.all false
namespace Go.Proofs.Ytbhkoipmojdkhaa
open Go Go.Gx Go.RowKit
theorem co65 : callOk Try.prog 65 = true := by kernel_rfl
theorem co67 : callOk Try.prog 67 = true := by kernel_rfl
theorem co49 : callOk Try.prog 49 = true := by kernel_rfl
theorem stands_ret (G0 : Gh) (w0 : World) (hw : Holds G0 w0) (csc : List Value) (c : Council) (hc : Rp.Is G0 csc c) (m : Stand) :
  RetS Try.prog 49 #[.agg csc.toArray, .agg m.cells.toArray] G0 w0 (.bool (standsB c m)) := by
 have hC := Cx.refl hw
 have hB : Bxs G0 w0 w0.heap.size [] := Bxs.nil _ _ _
 obtain ⟨v1, rfl, hs2⟩ := Council.opIs hc
 obtain ⟨A3, cap4, rfl⟩ := hs2.form
 refine callsOf Try.func49 rfl _ Try.ntmps49 rfl _ (argsCons (argsCons argsNil (t := 0) rfl) (t := 1) rfl) ?_; intro Q0 hQ
 refine wcSeq (wcRegion ?_)
 refine wlBox (cs := [(.int .i64 c.most), (.int .i64 c.some_), (.slice A3 c.list.length cap4)]) hC hB rfl rfl rfl ?_; intro b5 w hk hC hB
 refine wlBox (cs := m.cells) hC hB rfl rfl rfl ?_; intro b6 w hk hC hB
 refine wlVal (opAssign rfl) rfl ?_
 refine wlThen (wcSeq (wcRegion ?_))
 obtain ⟨G, hg8, hC, hB, hF7⟩ := freezeBox (cs := m.cells) hC (Nat.le_refl _) hB (i := 0) rfl
 replace hs2 := hs2.mono hg8
 refine wlVal (opMakeFunc (fun a ha => ha.evals (xs := []) rfl) (fun a ha => ha.evals (xs := [.tmp 3]) rfl)) rfl ?_
 refine wlVal (opAssign rfl) rfl ?_
 refine wlThen (wcSeq (wcRegion ?_))
 refine wlVal (opMakeFunc (fun a ha => ha.evals (xs := []) rfl) (fun a ha => ha.evals (xs := [.tmp 3]) rfl)) rfl ?_
 refine wlVal (opAssign rfl) rfl ?_
 refine wlThen (wcSeq ?_)
 cases h9 : decide (c.most ≤ (cnt c (fun is_x0 => st1B m is_x0)))
 ·
  skip
  refine wcDraw fmix (by kernel_rfl) (by kernel_rfl) (vAt [(fun _ v_ => v_ = (.agg [(.int .i64 c.most), (.int .i64 c.some_), (.slice A3 c.list.length cap4)].toArray)), (fun _ v_ => v_ = (.func (.func 65) #[] #[(.pointer (some ⟨b6, 0, none⟩))])), (fun _ v_ => v_ = (.int .i64 ((cnt c (fun is_x0 => st1B m is_x0))))), (fun _ v_ => v_ = (.pointer (some ⟨b5, 0, none⟩))), (fun _ v_ => v_ = (.int .i64 c.most)), (fun _ v_ => v_ = (.bool false)), (fun _ v_ => v_ = (.bool false)), (fun _ v_ => v_ = undef), (fun _ v_ => v_ = undef), (fun _ v_ => v_ = undef), (fun _ v_ => v_ = undef), (fun _ v_ => v_ = undef), (fun _ v_ => v_ = undef), (fun _ v_ => v_ = (.bool false)), (fun _ v_ => v_ = (.bool false))]) (fun _ _ G' w => Cx w0 G0 G' w ∧ Bxs G' w w0.heap.size [(b5, 70, [(.int .i64 c.most), (.int .i64 c.some_), (.slice A3 c.list.length cap4)])] ∧ GLe G G') G (vAt_mono ⟨fun _ _ _ _ h => h, fun _ _ _ _ h => h, fun _ _ _ _ h => h, fun _ _ _ _ h => h, fun _ _ _ _ h => h, fun _ _ _ _ h => h, fun _ _ _ _ h => h, fun _ _ _ _ h => h, fun _ _ _ _ h => h, fun _ _ _ _ h => h, fun _ _ _ _ h => h, fun _ _ _ _ h => h, fun _ _ _ _ h => h, fun _ _ _ _ h => h, fun _ _ _ _ h => h, trivial⟩) (fun _ _ => ⟨hC.drew, hB.drew, fun _ _ h => h⟩) ?_ ?_
  ·
   refine dsNone (j := 1) rfl ?_ ?_
   ·
    intro done G w ac_ hd hp hn ⟨hC, hB, hg⟩ hM
    have f2 : ac_.tmps[2]? = some (.pointer (some ⟨b5, 0, none⟩)) := hM.old0 rfl rfl
    have hF := (hM.fr.add f2)
    exact OpVal.draw hF (opLoadRow (cs := [(.int .i64 c.most), (.int .i64 c.some_), (.slice A3 c.list.length cap4)]) rfl (hB.range (i := 0) (m := 3) rfl rfl) row70 rfl) ⟨G, fun _ _ h => h, ⟨hC, hB, hg⟩, rfl⟩
   refine dsNone (j := 2) rfl ?_ ?_
   ·
    intro done G w ac_ hd hp hn ⟨hC, hB, hg⟩ hM
    have f5 : ac_.tmps[5]? = some (.func (.func 65) #[] #[(.pointer (some ⟨b6, 0, none⟩))]) := hM.old0 rfl rfl
    have hF := (hM.fr.add f5)
    exact OpVal.draw hF (opMove rfl) ⟨G, fun _ _ h => h, ⟨hC, hB, hg⟩, rfl⟩
   refine dsNone (j := 3) rfl ?_ ?_
   ·
    intro done G w ac_ hd hp hn ⟨hC, hB, hg⟩ hM
    replace hs2 := hs2.mono hg
    replace hF7 := hF7.mono hg
    have f9 := hM.eqv (s := 9) 0 rfl (hp 0 rfl) rfl rfl
    have f10 := hM.eqv (s := 10) 1 rfl (hp 1 rfl) rfl rfl
    have hF := ((hM.fr.add f9).add f10)
    exact drawCallS hF rfl co38 rfl (count_ret _ _ hC.holds _ c (Council.mkIs (x := c) hs2) 65 [(.pointer (some ⟨b6, 0, none⟩))] (fun is_x0 => st1B m is_x0) co65 (fun G w cis_x0 is_x0 hg hw hx0 => st1_ret G w hw _ is_x0 hx0 _ m (hF7.mono hg) )) (fun w' hk => ⟨G, fun _ _ h => h, ⟨hC.trans hk, hB.ext hk, hg⟩, rfl⟩)
   refine dsNone (j := 4) rfl ?_ ?_
   ·
    intro done G w ac_ hd hp hn ⟨hC, hB, hg⟩ hM
    have f2 : ac_.tmps[2]? = some (.pointer (some ⟨b5, 0, none⟩)) := hM.old0 rfl rfl
    have hF := (hM.fr.add f2)
    exact OpVal.draw hF (opFieldAddr rfl fo70_0) ⟨G, fun _ _ h => h, ⟨hC, hB, hg⟩, rfl⟩
   refine dsNone (j := 5) rfl ?_ ?_
   ·
    intro done G w ac_ hd hp hn ⟨hC, hB, hg⟩ hM
    have f12 := hM.eqv (s := 12) 3 rfl (hp 3 rfl) rfl rfl
    have hF := (hM.fr.add f12)
    exact OpVal.draw hF (opLoadOne (v := (.int .i64 c.most)) rfl (hB.cell (i := 0) rfl rfl) one3) ⟨G, fun _ _ h => h, ⟨hC, hB, hg⟩, rfl⟩
   refine dsNone (j := 6) rfl ?_ ?_
   ·
    intro done G w ac_ hd hp hn ⟨hC, hB, hg⟩ hM
    have f11 := hM.eqv (s := 11) 2 rfl (hp 2 rfl) rfl rfl
    have f13 := hM.eqv (s := 13) 4 rfl (hp 4 rfl) rfl rfl
    have hF := ((hM.fr.add f11).add f13)
    exact OpVal.draw hF (OpVal.cast (opGeq rfl rfl) (congrArg Value.bool h9)) ⟨G, fun _ _ h => h, ⟨hC, hB, hg⟩, rfl⟩
   refine dsNone (j := 7) rfl ?_ ?_
   ·
    intro done G w ac_ hd hp hn ⟨hC, hB, hg⟩ hM
    have f14 := hM.eqv (s := 14) 5 rfl (hp 5 rfl) rfl rfl
    have hF := (hM.fr.add f14)
    exact OpVal.draw hF (opMove rfl) ⟨G, fun _ _ h => h, ⟨hC, hB, hg⟩, rfl⟩
   refine dsOff (j := 8) (b' := false) rfl rfl rfl ?_ ?_
   ·
    intro done G w ac_ hd hp hn ⟨hC, hB, hg⟩ hM
    have f15 := hM.eqv (s := 15) 6 rfl (hp 6 rfl) rfl rfl
    exact ⟨f15, ⟨hC, hB, hg⟩, rfl⟩
   refine dsOff (j := 9) (b' := false) rfl rfl rfl ?_ ?_
   ·
    intro done G w ac_ hd hp hn ⟨hC, hB, hg⟩ hM
    have f15 := hM.eqv (s := 15) 6 rfl (hp 6 rfl) rfl rfl
    exact ⟨f15, ⟨hC, hB, hg⟩, rfl⟩
   refine dsOff (j := 10) (b' := false) rfl rfl rfl ?_ ?_
   ·
    intro done G w ac_ hd hp hn ⟨hC, hB, hg⟩ hM
    have f15 := hM.eqv (s := 15) 6 rfl (hp 6 rfl) rfl rfl
    exact ⟨f15, ⟨hC, hB, hg⟩, rfl⟩
   refine dsOff (j := 11) (b' := false) rfl rfl rfl ?_ ?_
   ·
    intro done G w ac_ hd hp hn ⟨hC, hB, hg⟩ hM
    have f15 := hM.eqv (s := 15) 6 rfl (hp 6 rfl) rfl rfl
    exact ⟨f15, ⟨hC, hB, hg⟩, rfl⟩
   refine dsOff (j := 12) (b' := false) rfl rfl rfl ?_ ?_
   ·
    intro done G w ac_ hd hp hn ⟨hC, hB, hg⟩ hM
    have f15 := hM.eqv (s := 15) 6 rfl (hp 6 rfl) rfl rfl
    exact ⟨f15, ⟨hC, hB, hg⟩, rfl⟩
   refine dsOff (j := 13) (b' := false) rfl rfl rfl ?_ ?_
   ·
    intro done G w ac_ hd hp hn ⟨hC, hB, hg⟩ hM
    have f15 := hM.eqv (s := 15) 6 rfl (hp 6 rfl) rfl rfl
    exact ⟨f15, ⟨hC, hB, hg⟩, rfl⟩
   refine dsNone (j := 14) rfl ?_ ?_
   ·
    intro done G w ac_ hd hp hn ⟨hC, hB, hg⟩ hM
    have f15 := hM.eqv (s := 15) 6 rfl (hp 6 rfl) rfl rfl
    have f21 := hM.eqv (s := 21) 12 rfl (hp 12 rfl) rfl rfl
    have hF := ((hM.fr.add f15).add f21)
    exact OpVal.draw hF (opPickF rfl rfl) ⟨G, fun _ _ h => h, ⟨hC, hB, hg⟩, rfl⟩
   refine dsNone (j := 15) rfl ?_ ?_
   ·
    intro done G w ac_ hd hp hn ⟨hC, hB, hg⟩ hM
    have f22 := hM.eqv (s := 22) 13 rfl (hp 13 rfl) rfl rfl
    have hF := (hM.fr.add f22)
    exact OpVal.draw hF (opAssign rfl) ⟨G, fun _ _ h => h, ⟨hC, hB, hg⟩, rfl⟩
   exact dsNil
  ·
   intro done G w ac_ hall ⟨hC, hB, hg⟩ hM
   replace hs2 := hs2.mono hg
   replace hF7 := hF7.mono hg
   have f4 := hM.eqv (s := 4) 14 rfl (hall 14 (by decide)) rfl rfl
   refine ⟨(Env.nil.put 4 (.bool false)), (hM.fr.add f4), ?_⟩
   clear hM hall
   refine wcOf ?_
   refine wcRet ?_
   exact fun ac_ ha => hQ _ _ _ (results1 ha rfl rfl) ha.df (endS hC hw (by simp [standsB, h9]))
 ·
  skip
  refine wcDraw fmix (by kernel_rfl) (by kernel_rfl) (vAt [(fun _ v_ => v_ = (.agg [(.int .i64 c.most), (.int .i64 c.some_), (.slice A3 c.list.length cap4)].toArray)), (fun _ v_ => v_ = (.func (.func 65) #[] #[(.pointer (some ⟨b6, 0, none⟩))])), (fun _ v_ => v_ = (.int .i64 ((cnt c (fun is_x0 => st1B m is_x0))))), (fun _ v_ => v_ = (.pointer (some ⟨b5, 0, none⟩))), (fun _ v_ => v_ = (.int .i64 c.most)), (fun _ v_ => v_ = (.bool true)), (fun _ v_ => v_ = (.bool true)), (fun _ v_ => v_ = (.agg [(.int .i64 c.most), (.int .i64 c.some_), (.slice A3 c.list.length cap4)].toArray)), (fun _ v_ => v_ = (.func (.func 67) #[] #[(.pointer (some ⟨b6, 0, none⟩))])), (fun _ v_ => v_ = (.int .i64 ((cnt c (fun is_x0 => st2B m is_x0))))), (fun _ v_ => v_ = (.pointer (some ⟨b5, 1, none⟩))), (fun _ v_ => v_ = (.int .i64 c.some_)), (fun _ v_ => v_ = (.bool (decide (c.some_ ≤ (cnt c (fun is_x0 => st2B m is_x0)))))), (fun _ v_ => v_ = (.bool (decide (c.some_ ≤ (cnt c (fun is_x0 => st2B m is_x0)))))), (fun _ v_ => v_ = (.bool (decide (c.some_ ≤ (cnt c (fun is_x0 => st2B m is_x0))))))]) (fun _ _ G' w => Cx w0 G0 G' w ∧ Bxs G' w w0.heap.size [(b5, 70, [(.int .i64 c.most), (.int .i64 c.some_), (.slice A3 c.list.length cap4)])] ∧ GLe G G') G (vAt_mono ⟨fun _ _ _ _ h => h, fun _ _ _ _ h => h, fun _ _ _ _ h => h, fun _ _ _ _ h => h, fun _ _ _ _ h => h, fun _ _ _ _ h => h, fun _ _ _ _ h => h, fun _ _ _ _ h => h, fun _ _ _ _ h => h, fun _ _ _ _ h => h, fun _ _ _ _ h => h, fun _ _ _ _ h => h, fun _ _ _ _ h => h, fun _ _ _ _ h => h, fun _ _ _ _ h => h, trivial⟩) (fun _ _ => ⟨hC.drew, hB.drew, fun _ _ h => h⟩) ?_ ?_
  ·
   refine dsNone (j := 1) rfl ?_ ?_
   ·
    intro done G w ac_ hd hp hn ⟨hC, hB, hg⟩ hM
    have f2 : ac_.tmps[2]? = some (.pointer (some ⟨b5, 0, none⟩)) := hM.old0 rfl rfl
    have hF := (hM.fr.add f2)
    exact OpVal.draw hF (opLoadRow (cs := [(.int .i64 c.most), (.int .i64 c.some_), (.slice A3 c.list.length cap4)]) rfl (hB.range (i := 0) (m := 3) rfl rfl) row70 rfl) ⟨G, fun _ _ h => h, ⟨hC, hB, hg⟩, rfl⟩
   refine dsNone (j := 2) rfl ?_ ?_
   ·
    intro done G w ac_ hd hp hn ⟨hC, hB, hg⟩ hM
    have f5 : ac_.tmps[5]? = some (.func (.func 65) #[] #[(.pointer (some ⟨b6, 0, none⟩))]) := hM.old0 rfl rfl
    have hF := (hM.fr.add f5)
    exact OpVal.draw hF (opMove rfl) ⟨G, fun _ _ h => h, ⟨hC, hB, hg⟩, rfl⟩
   refine dsNone (j := 3) rfl ?_ ?_
   ·
    intro done G w ac_ hd hp hn ⟨hC, hB, hg⟩ hM
    replace hs2 := hs2.mono hg
    replace hF7 := hF7.mono hg
    have f9 := hM.eqv (s := 9) 0 rfl (hp 0 rfl) rfl rfl
    have f10 := hM.eqv (s := 10) 1 rfl (hp 1 rfl) rfl rfl
    have hF := ((hM.fr.add f9).add f10)
    exact drawCallS hF rfl co38 rfl (count_ret _ _ hC.holds _ c (Council.mkIs (x := c) hs2) 65 [(.pointer (some ⟨b6, 0, none⟩))] (fun is_x0 => st1B m is_x0) co65 (fun G w cis_x0 is_x0 hg hw hx0 => st1_ret G w hw _ is_x0 hx0 _ m (hF7.mono hg) )) (fun w' hk => ⟨G, fun _ _ h => h, ⟨hC.trans hk, hB.ext hk, hg⟩, rfl⟩)
   refine dsNone (j := 4) rfl ?_ ?_
   ·
    intro done G w ac_ hd hp hn ⟨hC, hB, hg⟩ hM
    have f2 : ac_.tmps[2]? = some (.pointer (some ⟨b5, 0, none⟩)) := hM.old0 rfl rfl
    have hF := (hM.fr.add f2)
    exact OpVal.draw hF (opFieldAddr rfl fo70_0) ⟨G, fun _ _ h => h, ⟨hC, hB, hg⟩, rfl⟩
   refine dsNone (j := 5) rfl ?_ ?_
   ·
    intro done G w ac_ hd hp hn ⟨hC, hB, hg⟩ hM
    have f12 := hM.eqv (s := 12) 3 rfl (hp 3 rfl) rfl rfl
    have hF := (hM.fr.add f12)
    exact OpVal.draw hF (opLoadOne (v := (.int .i64 c.most)) rfl (hB.cell (i := 0) rfl rfl) one3) ⟨G, fun _ _ h => h, ⟨hC, hB, hg⟩, rfl⟩
   refine dsNone (j := 6) rfl ?_ ?_
   ·
    intro done G w ac_ hd hp hn ⟨hC, hB, hg⟩ hM
    have f11 := hM.eqv (s := 11) 2 rfl (hp 2 rfl) rfl rfl
    have f13 := hM.eqv (s := 13) 4 rfl (hp 4 rfl) rfl rfl
    have hF := ((hM.fr.add f11).add f13)
    exact OpVal.draw hF (OpVal.cast (opGeq rfl rfl) (congrArg Value.bool h9)) ⟨G, fun _ _ h => h, ⟨hC, hB, hg⟩, rfl⟩
   refine dsNone (j := 7) rfl ?_ ?_
   ·
    intro done G w ac_ hd hp hn ⟨hC, hB, hg⟩ hM
    have f14 := hM.eqv (s := 14) 5 rfl (hp 5 rfl) rfl rfl
    have hF := (hM.fr.add f14)
    exact OpVal.draw hF (opMove rfl) ⟨G, fun _ _ h => h, ⟨hC, hB, hg⟩, rfl⟩
   refine dsOn (j := 8) rfl rfl ?_ ?_
   ·
    intro done G w ac_ hd hp hn ⟨hC, hB, hg⟩ hM
    have f2 : ac_.tmps[2]? = some (.pointer (some ⟨b5, 0, none⟩)) := hM.old0 rfl rfl
    have f15 := hM.eqv (s := 15) 6 rfl (hp 6 rfl) rfl rfl
    refine ⟨f15, ?_⟩
    have hF := (hM.fr.add f2)
    exact OpVal.draw hF (opLoadRow (cs := [(.int .i64 c.most), (.int .i64 c.some_), (.slice A3 c.list.length cap4)]) rfl (hB.range (i := 0) (m := 3) rfl rfl) row70 rfl) ⟨G, fun _ _ h => h, ⟨hC, hB, hg⟩, rfl⟩
   refine dsOn (j := 9) rfl rfl ?_ ?_
   ·
    intro done G w ac_ hd hp hn ⟨hC, hB, hg⟩ hM
    have f6 : ac_.tmps[6]? = some (.func (.func 67) #[] #[(.pointer (some ⟨b6, 0, none⟩))]) := hM.old0 rfl rfl
    have f15 := hM.eqv (s := 15) 6 rfl (hp 6 rfl) rfl rfl
    refine ⟨f15, ?_⟩
    have hF := (hM.fr.add f6)
    exact OpVal.draw hF (opMove rfl) ⟨G, fun _ _ h => h, ⟨hC, hB, hg⟩, rfl⟩
   refine dsOn (j := 10) rfl rfl ?_ ?_
   ·
    intro done G w ac_ hd hp hn ⟨hC, hB, hg⟩ hM
    replace hs2 := hs2.mono hg
    replace hF7 := hF7.mono hg
    have f16 := hM.eqv (s := 16) 7 rfl (hp 7 rfl) rfl rfl
    have f17 := hM.eqv (s := 17) 8 rfl (hp 8 rfl) rfl rfl
    have f15 := hM.eqv (s := 15) 6 rfl (hp 6 rfl) rfl rfl
    refine ⟨f15, ?_⟩
    have hF := ((hM.fr.add f16).add f17)
    exact drawCallS hF rfl co38 rfl (count_ret _ _ hC.holds _ c (Council.mkIs (x := c) hs2) 67 [(.pointer (some ⟨b6, 0, none⟩))] (fun is_x0 => st2B m is_x0) co67 (fun G w cis_x0 is_x0 hg hw hx0 => st2_ret G w hw _ is_x0 hx0 _ m (hF7.mono hg) )) (fun w' hk => ⟨G, fun _ _ h => h, ⟨hC.trans hk, hB.ext hk, hg⟩, rfl⟩)
   refine dsOn (j := 11) rfl rfl ?_ ?_
   ·
    intro done G w ac_ hd hp hn ⟨hC, hB, hg⟩ hM
    have f2 : ac_.tmps[2]? = some (.pointer (some ⟨b5, 0, none⟩)) := hM.old0 rfl rfl
    have f15 := hM.eqv (s := 15) 6 rfl (hp 6 rfl) rfl rfl
    refine ⟨f15, ?_⟩
    have hF := (hM.fr.add f2)
    exact OpVal.draw hF (opFieldAddr rfl fo70_1) ⟨G, fun _ _ h => h, ⟨hC, hB, hg⟩, rfl⟩
   refine dsOn (j := 12) rfl rfl ?_ ?_
   ·
    intro done G w ac_ hd hp hn ⟨hC, hB, hg⟩ hM
    have f19 := hM.eqv (s := 19) 10 rfl (hp 10 rfl) rfl rfl
    have f15 := hM.eqv (s := 15) 6 rfl (hp 6 rfl) rfl rfl
    refine ⟨f15, ?_⟩
    have hF := (hM.fr.add f19)
    exact OpVal.draw hF (opLoadOne (v := (.int .i64 c.some_)) rfl (hB.cell (i := 0) rfl rfl) one3) ⟨G, fun _ _ h => h, ⟨hC, hB, hg⟩, rfl⟩
   refine dsOn (j := 13) rfl rfl ?_ ?_
   ·
    intro done G w ac_ hd hp hn ⟨hC, hB, hg⟩ hM
    have f18 := hM.eqv (s := 18) 9 rfl (hp 9 rfl) rfl rfl
    have f20 := hM.eqv (s := 20) 11 rfl (hp 11 rfl) rfl rfl
    have f15 := hM.eqv (s := 15) 6 rfl (hp 6 rfl) rfl rfl
    refine ⟨f15, ?_⟩
    have hF := ((hM.fr.add f18).add f20)
    exact OpVal.draw hF (opGeq rfl rfl) ⟨G, fun _ _ h => h, ⟨hC, hB, hg⟩, rfl⟩
   refine dsNone (j := 14) rfl ?_ ?_
   ·
    intro done G w ac_ hd hp hn ⟨hC, hB, hg⟩ hM
    have f15 := hM.eqv (s := 15) 6 rfl (hp 6 rfl) rfl rfl
    have f21 := hM.eqv (s := 21) 12 rfl (hp 12 rfl) rfl rfl
    have hF := ((hM.fr.add f15).add f21)
    exact OpVal.draw hF (opPickT rfl rfl) ⟨G, fun _ _ h => h, ⟨hC, hB, hg⟩, rfl⟩
   refine dsNone (j := 15) rfl ?_ ?_
   ·
    intro done G w ac_ hd hp hn ⟨hC, hB, hg⟩ hM
    have f22 := hM.eqv (s := 22) 13 rfl (hp 13 rfl) rfl rfl
    have hF := (hM.fr.add f22)
    exact OpVal.draw hF (opAssign rfl) ⟨G, fun _ _ h => h, ⟨hC, hB, hg⟩, rfl⟩
   exact dsNil
  ·
   intro done G w ac_ hall ⟨hC, hB, hg⟩ hM
   have f4 := hM.eqv (s := 4) 14 rfl (hall 14 (by decide)) rfl rfl
   refine ⟨(Env.nil.put 4 (.bool (decide (c.some_ ≤ (cnt c (fun is_x0 => st2B m is_x0)))))), (hM.fr.add f4), ?_⟩
   clear hM hall
   refine wcOf ?_
   refine wcRet ?_
   exact fun ac_ ha => hQ _ _ _ (results1 ha rfl rfl) ha.df (endS hC hw (by simp [standsB, h9]))

theorem at1_ret (G0 : Gh) (w0 : World) (hw : Holds G0 w0) (y : Stand) (bsq : Nat) (sq : Int) (hsq : RowG G0 bsq 0 [.int .i64 sq]) (bc : Nat) (csc : List Value) (c : Council) (hc : RowG G0 bc 0 csc) (ic : Rp.Is G0 csc c) :
  RetS Try.prog 48 #[.agg y.cells.toArray, .pointer (some ⟨bsq, 0, none⟩), .pointer (some ⟨bc, 0, none⟩)] G0 w0 (.bool (at1B sq c y)) := by
 have hC := Cx.refl hw
 have hB : Bxs G0 w0 w0.heap.size [] := Bxs.nil _ _ _
 obtain ⟨v1, rfl, hs2⟩ := Council.opIs ic
 obtain ⟨A3, cap4, rfl⟩ := hs2.form
 refine callsOf Try.func48 rfl _ Try.ntmps48 rfl _ (argsCons (argsCons (argsCons argsNil (t := 0) rfl) (t := 1) rfl) (t := 2) rfl) ?_; intro Q0 hQ
 refine wcSeq (wcRegion ?_)
 refine wlBox (cs := y.cells) hC hB rfl rfl rfl ?_; intro b5 w hk hC hB
 refine wlVal (opAssign rfl) rfl ?_
 refine wlThen (wcSeq (wcRegion ?_))
 refine wlVal (opFieldAddr rfl fo58_0) rfl ?_
 refine wlVal (opLoadOne (v := (.int .i64 y.seq)) rfl (hB.cell (i := 0) rfl (by simp [Mark.cells, Stand.cells])) one3) rfl ?_
 refine wlVal (opLoadOne (v := (.int .i64 sq)) rfl (RowG.cell hC.holds hsq (j := 0) rfl) one3) rfl ?_
 refine wlVal (opEql rfl rfl) rfl ?_
 refine wlVal (opMove rfl) rfl ?_
 cases h6 : y.seq == sq
 ·
  skip
  refine wlOff rfl rfl rfl rfl ?_
  refine wlOff rfl rfl rfl rfl ?_
  refine wlOff rfl rfl rfl rfl ?_
  refine wlVal (opPickF rfl rfl) rfl ?_
  refine wlVal (opAssign rfl) rfl ?_
  refine wlThen ?_
  refine wcRet ?_
  exact fun ac_ ha => hQ _ _ _ (results1 ha rfl rfl) ha.df (endS hC hw (by simp [at1B, h6]))
 ·
  skip
  refine wlOn rfl rfl ?_
  refine wlVal (opLoadRow (cs := [(.int .i64 c.most), (.int .i64 c.some_), (.slice A3 c.list.length cap4)]) rfl (RowG.range hC.holds (hc.part (i := 0) (m := 3) rfl)) row70 rfl) rfl ?_
  refine wlOn rfl rfl ?_
  refine wlVal (opLoadRow (cs := y.cells) rfl (hB.range (i := 0) (m := 34) rfl (by simp [Mark.cells, Stand.cells])) row58 (by simp [Mark.cells, Stand.cells])) rfl ?_
  refine wlOn rfl rfl ?_
  refine wlCallS hC hB rfl co49 rfl rfl (stands_ret _ _ hC.holds _ c (Council.mkIs (x := c) hs2) y) ?_; intro w hk hC hB
  refine wlVal (opPickT rfl rfl) rfl ?_
  refine wlVal (opAssign rfl) rfl ?_
  refine wlThen ?_
  refine wcRet ?_
  exact fun ac_ ha => hQ _ _ _ (results1 ha rfl rfl) ha.df (endS hC hw (by simp [at1B, h6]))

end Go.Proofs.Ytbhkoipmojdkhaa
