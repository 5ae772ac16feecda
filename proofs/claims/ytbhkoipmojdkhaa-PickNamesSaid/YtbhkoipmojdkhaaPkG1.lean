/- What functions of the pick seat return, part 1. No condition. -/
import Derived.Test.YtbhkoipmojdkhaaPkG0
set_option linter.all false
namespace Go.Proofs.Ytbhkoipmojdkhaa
open Go Go.Gx Go.RowKit
theorem by28 : bytes32 Try.prog 28 = true := by kernel_rfl
theorem co64 : callOk Try.prog 64 = true := by kernel_rfl
theorem fmix : Try.prog.follows .mixedOrders = true := by kernel_rfl
theorem fo30_0 : fieldOk Try.prog 30 0 0 = true := by kernel_rfl
theorem co45 : callOk Try.prog 45 = true := by kernel_rfl
theorem fo30_1 : fieldOk Try.prog 30 1 1 = true := by kernel_rfl
theorem row28 : rowOk Try.prog 28 32 = true := by kernel_rfl
theorem co46 : callOk Try.prog 46 = true := by kernel_rfl
theorem elo22 : elemOk Try.prog 22 3 1 8 = true := by kernel_rfl
theorem co44 : callOk Try.prog 44 = true := by kernel_rfl
theorem fo58_2 : fieldOk Try.prog 58 2 33 = true := by kernel_rfl
theorem fo58_1 : fieldOk Try.prog 58 1 1 = true := by kernel_rfl
theorem lesser_ret (G0 : Gh) (w0 : World) (hw : Holds G0 w0) (a : Dig) (b : Dig) :
  RetS Try.prog 46 #[.agg a.cells.toArray, .agg b.cells.toArray] G0 w0 (.int .i64 (cmpB b.l a.l)) := by
 have hC := Cx.refl hw
 have hB : Bxs G0 w0 w0.heap.size [] := Bxs.nil _ _ _
 refine callsOf Try.func46 rfl _ Try.ntmps46 rfl _ (argsCons (argsCons argsNil (t := 0) rfl) (t := 1) rfl) ?_; intro Q0 hQ
 refine wcSeq (wcRegion ?_)
 refine wlBox (cs := a.cells) hC hB rfl rfl rfl ?_; intro b1 w hk hC hB
 refine wlBox (cs := b.cells) hC hB rfl rfl rfl ?_; intro b2 w hk hC hB
 refine wlVal (opAssign rfl) rfl ?_
 refine wlThen (wcSeq ?_)
 obtain ⟨G, hg4, hC, hB, hF3⟩ := freezeBox (cs := b.cells) hC (Nat.le_refl _) hB (i := 0) rfl
 have hs5 := Sl.ofDig hF3
 obtain ⟨G, hg7, hC, hB, hF6⟩ := freezeBox (cs := a.cells) hC (Nat.le_refl _) hB (i := 0) rfl
 replace hs5 := hs5.mono hg7
 have hs8 := Sl.ofDig hF6
 refine wcDraw fmix (by kernel_rfl) (by kernel_rfl) (vAt [(fun _ v_ => v_ = (.slice (some ⟨b2, 0, none⟩) 32 32)), (fun _ v_ => v_ = (.slice (some ⟨b1, 0, none⟩) 32 32)), (fun _ v_ => v_ = (.int .i64 ((cmpB b.l a.l)))), (fun _ v_ => v_ = (.int .i64 ((cmpB b.l a.l))))]) (fun _ _ G' w => Cx w0 G0 G' w ∧ Bxs G' w w0.heap.size [] ∧ GLe G G') G (vAt_mono ⟨fun _ _ _ _ h => h, fun _ _ _ _ h => h, fun _ _ _ _ h => h, fun _ _ _ _ h => h, trivial⟩) (fun _ _ => ⟨hC.drew, hB.drew, fun _ _ h => h⟩) ?_ ?_
 ·
  refine dsNone (j := 1) rfl ?_ ?_
  ·
   intro done G w ac_ hd hp hn ⟨hC, hB, hg⟩ hM
   have f3 : ac_.tmps[3]? = some (.pointer (some ⟨b2, 0, none⟩)) := hM.old0 rfl rfl
   have hF := (hM.fr.add f3)
   exact OpVal.draw hF (opSliceArr by28 rfl) ⟨G, fun _ _ h => h, ⟨hC, hB, hg⟩, rfl⟩
  refine dsNone (j := 2) rfl ?_ ?_
  ·
   intro done G w ac_ hd hp hn ⟨hC, hB, hg⟩ hM
   have f2 : ac_.tmps[2]? = some (.pointer (some ⟨b1, 0, none⟩)) := hM.old0 rfl rfl
   have hF := (hM.fr.add f2)
   exact OpVal.draw hF (opSliceArr by28 rfl) ⟨G, fun _ _ h => h, ⟨hC, hB, hg⟩, rfl⟩
  refine dsNone (j := 3) rfl ?_ ?_
  ·
   intro done G w ac_ hd hp hn ⟨hC, hB, hg⟩ hM
   replace hs5 := hs5.mono hg
   replace hs8 := hs8.mono hg
   have f5 := hM.eqv (s := 5) 0 rfl (hp 0 rfl) rfl rfl
   have f6 := hM.eqv (s := 6) 1 rfl (hp 1 rfl) rfl rfl
   have hF := ((hM.fr.add f5).add f6)
   exact drawCallS hF rfl co64 rfl (bcmp_ret _ _ hC.holds _ b.l hs5 _ a.l hs8) (fun w' hk => ⟨G, fun _ _ h => h, ⟨hC.trans hk, hB.ext hk, hg⟩, rfl⟩)
  refine dsNone (j := 4) rfl ?_ ?_
  ·
   intro done G w ac_ hd hp hn ⟨hC, hB, hg⟩ hM
   have f7 := hM.eqv (s := 7) 2 rfl (hp 2 rfl) rfl rfl
   have hF := (hM.fr.add f7)
   exact OpVal.draw hF (opAssign rfl) ⟨G, fun _ _ h => h, ⟨hC, hB, hg⟩, rfl⟩
  exact dsNil
 ·
  intro done G w ac_ hall ⟨hC, hB, hg⟩ hM
  have f4 := hM.eqv (s := 4) 3 rfl (hall 3 (by decide)) rfl rfl
  refine ⟨(Env.nil.put 4 (.int .i64 ((cmpB b.l a.l)))), (hM.fr.add f4), ?_⟩
  clear hM hall
  refine wcOf ?_
  refine wcRet ?_
  exact fun ac_ ha => hQ _ _ _ (results1 ha rfl rfl) ha.df (endS hC hw rfl)

theorem low2_ret (G0 : Gh) (w0 : World) (hw : Holds G0 w0) (a : Mark) (b : Mark) :
  RetS Try.prog 43 #[.agg a.cells.toArray, .agg b.cells.toArray] G0 w0 (.int .i64 (orI [cmpI a.seq b.seq, cmpB b.dig.l a.dig.l])) := by
 have hC := Cx.refl hw
 have hB : Bxs G0 w0 w0.heap.size [] := Bxs.nil _ _ _
 refine callsOf Try.func43 rfl _ Try.ntmps43 rfl _ (argsCons (argsCons argsNil (t := 0) rfl) (t := 1) rfl) ?_; intro Q0 hQ
 refine wcSeq (wcRegion ?_)
 refine wlBox (cs := a.cells) hC hB rfl rfl rfl ?_; intro b1 w hk hC hB
 refine wlBox (cs := b.cells) hC hB rfl rfl rfl ?_; intro b2 w hk hC hB
 refine wlVal (opAssign rfl) rfl ?_
 refine wlThen (wcSeq ?_)
 refine wcDraw fmix (by kernel_rfl) (by kernel_rfl) (vAt [(fun _ v_ => v_ = (.pointer (some ⟨b1, 0, none⟩))), (fun _ v_ => v_ = (.int .i64 a.seq)), (fun _ v_ => v_ = (.pointer (some ⟨b2, 0, none⟩))), (fun _ v_ => v_ = (.int .i64 b.seq)), (fun _ v_ => v_ = (.int .i64 ((cmpI a.seq b.seq)))), (fun _ v_ => v_ = (.pointer (some ⟨b1, 1, none⟩))), (fun _ v_ => v_ = (.agg a.dig.cells.toArray)), (fun _ v_ => v_ = (.pointer (some ⟨b2, 1, none⟩))), (fun _ v_ => v_ = (.agg b.dig.cells.toArray)), (fun _ v_ => v_ = (.int .i64 ((cmpB b.dig.l a.dig.l)))), (fun G v => ∃ bb_, v = .slice (some ⟨bb_, 0, none⟩) 2 2 ∧ Sl G v ([(cmpI a.seq b.seq), (cmpB b.dig.l a.dig.l)] : List Int)), (fun _ v_ => v_ = (.int .i64 ((orI ([(cmpI a.seq b.seq), (cmpB b.dig.l a.dig.l)]))))), (fun _ v_ => v_ = (.int .i64 ((orI ([(cmpI a.seq b.seq), (cmpB b.dig.l a.dig.l)])))))]) (fun _ _ G' w => Cx w0 G0 G' w ∧ Bxs G' w w0.heap.size [(b2, 30, b.cells), (b1, 30, a.cells)] ∧ GLe G0 G') G0 (vAt_mono ⟨fun _ _ _ _ h => h, fun _ _ _ _ h => h, fun _ _ _ _ h => h, fun _ _ _ _ h => h, fun _ _ _ _ h => h, fun _ _ _ _ h => h, fun _ _ _ _ h => h, fun _ _ _ _ h => h, fun _ _ _ _ h => h, fun _ _ _ _ h => h, fun _ _ _ hg => fun ⟨b, h1, h2⟩ => ⟨b, h1, h2.mono hg⟩, fun _ _ _ _ h => h, fun _ _ _ _ h => h, trivial⟩) (fun _ _ => ⟨hC.drew, hB.drew, fun _ _ h => h⟩) ?_ ?_
 ·
  refine dsNone (j := 1) rfl ?_ ?_
  ·
   intro done G w ac_ hd hp hn ⟨hC, hB, hg⟩ hM
   have f2 : ac_.tmps[2]? = some (.pointer (some ⟨b1, 0, none⟩)) := hM.old0 rfl rfl
   have hF := (hM.fr.add f2)
   exact OpVal.draw hF (opFieldAddr rfl fo30_0) ⟨G, fun _ _ h => h, ⟨hC, hB, hg⟩, rfl⟩
  refine dsNone (j := 2) rfl ?_ ?_
  ·
   intro done G w ac_ hd hp hn ⟨hC, hB, hg⟩ hM
   have f5 := hM.eqv (s := 5) 0 rfl (hp 0 rfl) rfl rfl
   have hF := (hM.fr.add f5)
   exact OpVal.draw hF (opLoadOne (v := (.int .i64 a.seq)) rfl (hB.cell (i := 1) rfl (by simp [Mark.cells, Stand.cells])) one3) ⟨G, fun _ _ h => h, ⟨hC, hB, hg⟩, rfl⟩
  refine dsNone (j := 3) rfl ?_ ?_
  ·
   intro done G w ac_ hd hp hn ⟨hC, hB, hg⟩ hM
   have f3 : ac_.tmps[3]? = some (.pointer (some ⟨b2, 0, none⟩)) := hM.old0 rfl rfl
   have hF := (hM.fr.add f3)
   exact OpVal.draw hF (opFieldAddr rfl fo30_0) ⟨G, fun _ _ h => h, ⟨hC, hB, hg⟩, rfl⟩
  refine dsNone (j := 4) rfl ?_ ?_
  ·
   intro done G w ac_ hd hp hn ⟨hC, hB, hg⟩ hM
   have f7 := hM.eqv (s := 7) 2 rfl (hp 2 rfl) rfl rfl
   have hF := (hM.fr.add f7)
   exact OpVal.draw hF (opLoadOne (v := (.int .i64 b.seq)) rfl (hB.cell (i := 0) rfl (by simp [Mark.cells, Stand.cells])) one3) ⟨G, fun _ _ h => h, ⟨hC, hB, hg⟩, rfl⟩
  refine dsNone (j := 5) rfl ?_ ?_
  ·
   intro done G w ac_ hd hp hn ⟨hC, hB, hg⟩ hM
   have f6 := hM.eqv (s := 6) 1 rfl (hp 1 rfl) rfl rfl
   have f8 := hM.eqv (s := 8) 3 rfl (hp 3 rfl) rfl rfl
   have hF := ((hM.fr.add f6).add f8)
   exact drawCallS hF rfl co45 rfl (compare_ret _ _ hC.holds a.seq b.seq) (fun w' hk => ⟨G, fun _ _ h => h, ⟨hC.trans hk, hB.ext hk, hg⟩, rfl⟩)
  refine dsNone (j := 6) rfl ?_ ?_
  ·
   intro done G w ac_ hd hp hn ⟨hC, hB, hg⟩ hM
   have f2 : ac_.tmps[2]? = some (.pointer (some ⟨b1, 0, none⟩)) := hM.old0 rfl rfl
   have hF := (hM.fr.add f2)
   exact OpVal.draw hF (opFieldAddr rfl fo30_1) ⟨G, fun _ _ h => h, ⟨hC, hB, hg⟩, rfl⟩
  refine dsNone (j := 7) rfl ?_ ?_
  ·
   intro done G w ac_ hd hp hn ⟨hC, hB, hg⟩ hM
   have f10 := hM.eqv (s := 10) 5 rfl (hp 5 rfl) rfl rfl
   have hF := (hM.fr.add f10)
   exact OpVal.draw hF (opLoadRow (cs := a.dig.cells) rfl (hB.range (i := 1) (m := 32) rfl (by simp [Mark.cells, Stand.cells])) row28 (by simp [Mark.cells, Stand.cells])) ⟨G, fun _ _ h => h, ⟨hC, hB, hg⟩, rfl⟩
  refine dsNone (j := 8) rfl ?_ ?_
  ·
   intro done G w ac_ hd hp hn ⟨hC, hB, hg⟩ hM
   have f3 : ac_.tmps[3]? = some (.pointer (some ⟨b2, 0, none⟩)) := hM.old0 rfl rfl
   have hF := (hM.fr.add f3)
   exact OpVal.draw hF (opFieldAddr rfl fo30_1) ⟨G, fun _ _ h => h, ⟨hC, hB, hg⟩, rfl⟩
  refine dsNone (j := 9) rfl ?_ ?_
  ·
   intro done G w ac_ hd hp hn ⟨hC, hB, hg⟩ hM
   have f12 := hM.eqv (s := 12) 7 rfl (hp 7 rfl) rfl rfl
   have hF := (hM.fr.add f12)
   exact OpVal.draw hF (opLoadRow (cs := b.dig.cells) rfl (hB.range (i := 0) (m := 32) rfl (by simp [Mark.cells, Stand.cells])) row28 (by simp [Mark.cells, Stand.cells])) ⟨G, fun _ _ h => h, ⟨hC, hB, hg⟩, rfl⟩
  refine dsNone (j := 10) rfl ?_ ?_
  ·
   intro done G w ac_ hd hp hn ⟨hC, hB, hg⟩ hM
   have f11 := hM.eqv (s := 11) 6 rfl (hp 6 rfl) rfl rfl
   have f13 := hM.eqv (s := 13) 8 rfl (hp 8 rfl) rfl rfl
   have hF := ((hM.fr.add f11).add f13)
   exact drawCallS hF rfl co46 rfl (lesser_ret _ _ hC.holds a.dig b.dig) (fun w' hk => ⟨G, fun _ _ h => h, ⟨hC.trans hk, hB.ext hk, hg⟩, rfl⟩)
  refine dsNone (j := 11) rfl ?_ ?_
  ·
   intro done G w ac_ hd hp hn ⟨hC, hB, hg⟩ hM
   have f9 := hM.eqv (s := 9) 4 rfl (hp 4 rfl) rfl rfl
   have f14 := hM.eqv (s := 14) 9 rfl (hp 9 rfl) rfl rfl
   have hF := ((hM.fr.add f9).add f14)
   exact drawBsl hF (α := Int) (ps := [(0, .tmp 9), (1, .tmp 14)]) (xs := [(cmpI a.seq b.seq), (cmpB b.dig.l a.dig.l)]) (rows := [[(.int .i64 ((cmpI a.seq b.seq)))], [(.int .i64 ((cmpB b.dig.l a.dig.l)))]]) elo22 rfl rfl hC.holds rfl rfl rfl ⟨rfl, rfl, trivial⟩ (fun b G' w' hk hr => ⟨G', hk.gle, ⟨hC.trans hk, hB.ext hk, fun b o h => hk.gle b o (hg b o h)⟩, ⟨b, rfl, hr⟩⟩)
  refine dsNone (j := 12) rfl ?_ ?_
  ·
   intro done G w ac_ hd hp hn ⟨hC, hB, hg⟩ hM
   obtain ⟨v_, f15, ⟨b3, rfl, hs4⟩⟩ := hM.new 10 _ _ rfl (hp 10 rfl) rfl
   have hF := (hM.fr.add f15)
   exact drawCallS hF rfl co44 rfl (or_ret _ _ hC.holds _ ([(cmpI a.seq b.seq), (cmpB b.dig.l a.dig.l)]) hs4) (fun w' hk => ⟨G, fun _ _ h => h, ⟨hC.trans hk, hB.ext hk, hg⟩, rfl⟩)
  refine dsNone (j := 13) rfl ?_ ?_
  ·
   intro done G w ac_ hd hp hn ⟨hC, hB, hg⟩ hM
   have f16 := hM.eqv (s := 16) 11 rfl (hp 11 rfl) rfl rfl
   have hF := (hM.fr.add f16)
   exact OpVal.draw hF (opAssign rfl) ⟨G, fun _ _ h => h, ⟨hC, hB, hg⟩, rfl⟩
  exact dsNil
 ·
  intro done G w ac_ hall ⟨hC, hB, hg⟩ hM
  have f4 := hM.eqv (s := 4) 12 rfl (hall 12 (by decide)) rfl rfl
  refine ⟨(Env.nil.put 4 (.int .i64 ((orI ([(cmpI a.seq b.seq), (cmpB b.dig.l a.dig.l)]))))), (hM.fr.add f4), ?_⟩
  clear hM hall
  refine wcOf ?_
  refine wcRet ?_
  exact fun ac_ ha => hQ _ _ _ (results1 ha rfl rfl) ha.df (endS hC hw rfl)

theorem at2_ret (G0 : Gh) (w0 : World) (hw : Holds G0 w0) (a : Stand) (b : Stand) :
  RetS Try.prog 50 #[.agg a.cells.toArray, .agg b.cells.toArray] G0 w0 (.int .i64 (orI [cmpI a.view b.view, cmpB b.dig.l a.dig.l])) := by
 have hC := Cx.refl hw
 have hB : Bxs G0 w0 w0.heap.size [] := Bxs.nil _ _ _
 refine callsOf Try.func50 rfl _ Try.ntmps50 rfl _ (argsCons (argsCons argsNil (t := 0) rfl) (t := 1) rfl) ?_; intro Q0 hQ
 refine wcSeq (wcRegion ?_)
 refine wlBox (cs := a.cells) hC hB rfl rfl rfl ?_; intro b1 w hk hC hB
 refine wlBox (cs := b.cells) hC hB rfl rfl rfl ?_; intro b2 w hk hC hB
 refine wlVal (opAssign rfl) rfl ?_
 refine wlThen (wcSeq ?_)
 refine wcDraw fmix (by kernel_rfl) (by kernel_rfl) (vAt [(fun _ v_ => v_ = (.pointer (some ⟨b1, 33, none⟩))), (fun _ v_ => v_ = (.int .i64 a.view)), (fun _ v_ => v_ = (.pointer (some ⟨b2, 33, none⟩))), (fun _ v_ => v_ = (.int .i64 b.view)), (fun _ v_ => v_ = (.int .i64 ((cmpI a.view b.view)))), (fun _ v_ => v_ = (.pointer (some ⟨b1, 1, none⟩))), (fun _ v_ => v_ = (.agg a.dig.cells.toArray)), (fun _ v_ => v_ = (.pointer (some ⟨b2, 1, none⟩))), (fun _ v_ => v_ = (.agg b.dig.cells.toArray)), (fun _ v_ => v_ = (.int .i64 ((cmpB b.dig.l a.dig.l)))), (fun G v => ∃ bb_, v = .slice (some ⟨bb_, 0, none⟩) 2 2 ∧ Sl G v ([(cmpI a.view b.view), (cmpB b.dig.l a.dig.l)] : List Int)), (fun _ v_ => v_ = (.int .i64 ((orI ([(cmpI a.view b.view), (cmpB b.dig.l a.dig.l)]))))), (fun _ v_ => v_ = (.int .i64 ((orI ([(cmpI a.view b.view), (cmpB b.dig.l a.dig.l)])))))]) (fun _ _ G' w => Cx w0 G0 G' w ∧ Bxs G' w w0.heap.size [(b2, 58, b.cells), (b1, 58, a.cells)] ∧ GLe G0 G') G0 (vAt_mono ⟨fun _ _ _ _ h => h, fun _ _ _ _ h => h, fun _ _ _ _ h => h, fun _ _ _ _ h => h, fun _ _ _ _ h => h, fun _ _ _ _ h => h, fun _ _ _ _ h => h, fun _ _ _ _ h => h, fun _ _ _ _ h => h, fun _ _ _ _ h => h, fun _ _ _ hg => fun ⟨b, h1, h2⟩ => ⟨b, h1, h2.mono hg⟩, fun _ _ _ _ h => h, fun _ _ _ _ h => h, trivial⟩) (fun _ _ => ⟨hC.drew, hB.drew, fun _ _ h => h⟩) ?_ ?_
 ·
  refine dsNone (j := 1) rfl ?_ ?_
  ·
   intro done G w ac_ hd hp hn ⟨hC, hB, hg⟩ hM
   have f2 : ac_.tmps[2]? = some (.pointer (some ⟨b1, 0, none⟩)) := hM.old0 rfl rfl
   have hF := (hM.fr.add f2)
   exact OpVal.draw hF (opFieldAddr rfl fo58_2) ⟨G, fun _ _ h => h, ⟨hC, hB, hg⟩, rfl⟩
  refine dsNone (j := 2) rfl ?_ ?_
  ·
   intro done G w ac_ hd hp hn ⟨hC, hB, hg⟩ hM
   have f5 := hM.eqv (s := 5) 0 rfl (hp 0 rfl) rfl rfl
   have hF := (hM.fr.add f5)
   exact OpVal.draw hF (opLoadOne (v := (.int .i64 a.view)) rfl (hB.cell (i := 1) rfl (by simp [Mark.cells, Stand.cells])) one3) ⟨G, fun _ _ h => h, ⟨hC, hB, hg⟩, rfl⟩
  refine dsNone (j := 3) rfl ?_ ?_
  ·
   intro done G w ac_ hd hp hn ⟨hC, hB, hg⟩ hM
   have f3 : ac_.tmps[3]? = some (.pointer (some ⟨b2, 0, none⟩)) := hM.old0 rfl rfl
   have hF := (hM.fr.add f3)
   exact OpVal.draw hF (opFieldAddr rfl fo58_2) ⟨G, fun _ _ h => h, ⟨hC, hB, hg⟩, rfl⟩
  refine dsNone (j := 4) rfl ?_ ?_
  ·
   intro done G w ac_ hd hp hn ⟨hC, hB, hg⟩ hM
   have f7 := hM.eqv (s := 7) 2 rfl (hp 2 rfl) rfl rfl
   have hF := (hM.fr.add f7)
   exact OpVal.draw hF (opLoadOne (v := (.int .i64 b.view)) rfl (hB.cell (i := 0) rfl (by simp [Mark.cells, Stand.cells])) one3) ⟨G, fun _ _ h => h, ⟨hC, hB, hg⟩, rfl⟩
  refine dsNone (j := 5) rfl ?_ ?_
  ·
   intro done G w ac_ hd hp hn ⟨hC, hB, hg⟩ hM
   have f6 := hM.eqv (s := 6) 1 rfl (hp 1 rfl) rfl rfl
   have f8 := hM.eqv (s := 8) 3 rfl (hp 3 rfl) rfl rfl
   have hF := ((hM.fr.add f6).add f8)
   exact drawCallS hF rfl co45 rfl (compare_ret _ _ hC.holds a.view b.view) (fun w' hk => ⟨G, fun _ _ h => h, ⟨hC.trans hk, hB.ext hk, hg⟩, rfl⟩)
  refine dsNone (j := 6) rfl ?_ ?_
  ·
   intro done G w ac_ hd hp hn ⟨hC, hB, hg⟩ hM
   have f2 : ac_.tmps[2]? = some (.pointer (some ⟨b1, 0, none⟩)) := hM.old0 rfl rfl
   have hF := (hM.fr.add f2)
   exact OpVal.draw hF (opFieldAddr rfl fo58_1) ⟨G, fun _ _ h => h, ⟨hC, hB, hg⟩, rfl⟩
  refine dsNone (j := 7) rfl ?_ ?_
  ·
   intro done G w ac_ hd hp hn ⟨hC, hB, hg⟩ hM
   have f10 := hM.eqv (s := 10) 5 rfl (hp 5 rfl) rfl rfl
   have hF := (hM.fr.add f10)
   exact OpVal.draw hF (opLoadRow (cs := a.dig.cells) rfl (hB.range (i := 1) (m := 32) rfl (by simp [Mark.cells, Stand.cells])) row28 (by simp [Mark.cells, Stand.cells])) ⟨G, fun _ _ h => h, ⟨hC, hB, hg⟩, rfl⟩
  refine dsNone (j := 8) rfl ?_ ?_
  ·
   intro done G w ac_ hd hp hn ⟨hC, hB, hg⟩ hM
   have f3 : ac_.tmps[3]? = some (.pointer (some ⟨b2, 0, none⟩)) := hM.old0 rfl rfl
   have hF := (hM.fr.add f3)
   exact OpVal.draw hF (opFieldAddr rfl fo58_1) ⟨G, fun _ _ h => h, ⟨hC, hB, hg⟩, rfl⟩
  refine dsNone (j := 9) rfl ?_ ?_
  ·
   intro done G w ac_ hd hp hn ⟨hC, hB, hg⟩ hM
   have f12 := hM.eqv (s := 12) 7 rfl (hp 7 rfl) rfl rfl
   have hF := (hM.fr.add f12)
   exact OpVal.draw hF (opLoadRow (cs := b.dig.cells) rfl (hB.range (i := 0) (m := 32) rfl (by simp [Mark.cells, Stand.cells])) row28 (by simp [Mark.cells, Stand.cells])) ⟨G, fun _ _ h => h, ⟨hC, hB, hg⟩, rfl⟩
  refine dsNone (j := 10) rfl ?_ ?_
  ·
   intro done G w ac_ hd hp hn ⟨hC, hB, hg⟩ hM
   have f11 := hM.eqv (s := 11) 6 rfl (hp 6 rfl) rfl rfl
   have f13 := hM.eqv (s := 13) 8 rfl (hp 8 rfl) rfl rfl
   have hF := ((hM.fr.add f11).add f13)
   exact drawCallS hF rfl co46 rfl (lesser_ret _ _ hC.holds a.dig b.dig) (fun w' hk => ⟨G, fun _ _ h => h, ⟨hC.trans hk, hB.ext hk, hg⟩, rfl⟩)
  refine dsNone (j := 11) rfl ?_ ?_
  ·
   intro done G w ac_ hd hp hn ⟨hC, hB, hg⟩ hM
   have f9 := hM.eqv (s := 9) 4 rfl (hp 4 rfl) rfl rfl
   have f14 := hM.eqv (s := 14) 9 rfl (hp 9 rfl) rfl rfl
   have hF := ((hM.fr.add f9).add f14)
   exact drawBsl hF (α := Int) (ps := [(0, .tmp 9), (1, .tmp 14)]) (xs := [(cmpI a.view b.view), (cmpB b.dig.l a.dig.l)]) (rows := [[(.int .i64 ((cmpI a.view b.view)))], [(.int .i64 ((cmpB b.dig.l a.dig.l)))]]) elo22 rfl rfl hC.holds rfl rfl rfl ⟨rfl, rfl, trivial⟩ (fun b G' w' hk hr => ⟨G', hk.gle, ⟨hC.trans hk, hB.ext hk, fun b o h => hk.gle b o (hg b o h)⟩, ⟨b, rfl, hr⟩⟩)
  refine dsNone (j := 12) rfl ?_ ?_
  ·
   intro done G w ac_ hd hp hn ⟨hC, hB, hg⟩ hM
   obtain ⟨v_, f15, ⟨b3, rfl, hs4⟩⟩ := hM.new 10 _ _ rfl (hp 10 rfl) rfl
   have hF := (hM.fr.add f15)
   exact drawCallS hF rfl co44 rfl (or_ret _ _ hC.holds _ ([(cmpI a.view b.view), (cmpB b.dig.l a.dig.l)]) hs4) (fun w' hk => ⟨G, fun _ _ h => h, ⟨hC.trans hk, hB.ext hk, hg⟩, rfl⟩)
  refine dsNone (j := 13) rfl ?_ ?_
  ·
   intro done G w ac_ hd hp hn ⟨hC, hB, hg⟩ hM
   have f16 := hM.eqv (s := 16) 11 rfl (hp 11 rfl) rfl rfl
   have hF := (hM.fr.add f16)
   exact OpVal.draw hF (opAssign rfl) ⟨G, fun _ _ h => h, ⟨hC, hB, hg⟩, rfl⟩
  exact dsNil
 ·
  intro done G w ac_ hall ⟨hC, hB, hg⟩ hM
  have f4 := hM.eqv (s := 4) 12 rfl (hall 12 (by decide)) rfl rfl
  refine ⟨(Env.nil.put 4 (.int .i64 ((orI ([(cmpI a.view b.view), (cmpB b.dig.l a.dig.l)]))))), (hM.fr.add f4), ?_⟩
  clear hM hall
  refine wcOf ?_
  refine wcRet ?_
  exact fun ac_ ha => hQ _ _ _ (results1 ha rfl rfl) ha.df (endS hC hw rfl)

end Go.Proofs.Ytbhkoipmojdkhaa
