/- What functions of the pick seat return, part 3. No condition. -/
import Derived.Test.YtbhkoipmojdkhaaPkG2
set_option linter.all false
namespace Go.Proofs.Ytbhkoipmojdkhaa
open Go Go.Gx Go.RowKit
theorem fo49_2 : fieldOk Try.prog 49 2 2 = true := by kernel_rfl
theorem fo49_3 : fieldOk Try.prog 49 3 3 = true := by kernel_rfl
theorem one31 : oneOk Try.prog 31 = true := by kernel_rfl
theorem co41 : callOk Try.prog 41 = true := by kernel_rfl
theorem row70 : rowOk Try.prog 70 3 = true := by kernel_rfl
theorem co39 : callOk Try.prog 39 = true := by kernel_rfl
theorem co38 : callOk Try.prog 38 = true := by kernel_rfl
theorem fo70_0 : fieldOk Try.prog 70 0 0 = true := by kernel_rfl
theorem co40 : callOk Try.prog 40 = true := by kernel_rfl
theorem fo70_1 : fieldOk Try.prog 70 1 1 = true := by kernel_rfl
theorem fo58_0 : fieldOk Try.prog 58 0 0 = true := by kernel_rfl
theorem fo49_4 : fieldOk Try.prog 49 4 4 = true := by kernel_rfl
theorem one47 : oneOk Try.prog 47 = true := by kernel_rfl
theorem co53 : callOk Try.prog 53 = true := by kernel_rfl
theorem co52 : callOk Try.prog 52 = true := by kernel_rfl
theorem eg58 : Try.prog.eqGuardType Try.prog.depth 58 = false := by kernel_rfl
theorem fa58 : fieldsAre Try.prog 58 [(3, 0), (28, 1), (3, 33)] = true := by kernel_rfl
theorem co66 : callOk Try.prog 66 = true := by kernel_rfl
theorem fo49_5 : fieldOk Try.prog 49 5 5 = true := by kernel_rfl
theorem co68 : callOk Try.prog 68 = true := by kernel_rfl
theorem eq58 (d : Nat) (x y : Stand) (w : World) : (Op.equalIn (d + 4) 58 (.agg x.cells.toArray) (.agg y.cells.toArray)).run Try.prog w = .ok (decide (x = y)) w := by
  have h : decide (x = y) = ((x.seq == y.seq) && (decide (x.dig = y.dig) && ((x.view == y.view) && true))) := by rw [Bool.eq_iff_iff]; cases x; cases y; simp
  rw [h]; exact run_equalIn_fields fa58 ⟨_, _, _, _, run_part_one one3 (v := .int .i64 x.seq) (by simp [Stand.cells]), run_part_one one3 (v := .int .i64 y.seq) (by simp [Stand.cells]), fun w => run_equalIn_int w _ 3 _ .i64 _ _ ui3, ⟨_, _, _, _, run_part_row' row28 (r := x.dig.cells) (by simp [Stand.cells]), run_part_row' row28 (r := y.dig.cells) (by simp [Stand.cells]), fun w => eq28 _ x.dig y.dig w, ⟨_, _, _, _, run_part_one one3 (v := .int .i64 x.view) (by simp [Stand.cells]), run_part_one one3 (v := .int .i64 y.view) (by simp [Stand.cells]), fun w => run_equalIn_int w _ 3 _ .i64 _ _ ui3, rfl, rfl⟩, rfl⟩, rfl⟩ w
theorem low11_ret (G0 : Gh) (w0 : World) (hw : Holds G0 w0) (csx : List Value) (x : Change) (hx : Rp.Is G0 csx x) (bm : Nat) (m : Mark) (hm : RowG G0 bm 0 m.cells) :
  RetS Try.prog 39 #[.agg csx.toArray, .pointer (some ⟨bm, 0, none⟩)] G0 w0 (.bool (low11B m x)) := by
 have hC := Cx.refl hw
 have hB : Bxs G0 w0 w0.heap.size [] := Bxs.nil _ _ _
 obtain ⟨v1, v3, v5, rfl, hs2, hs4, hs6⟩ := Change.opIs hx
 obtain ⟨A7, cap8, rfl⟩ := hs2.form
 obtain ⟨A9, cap10, rfl⟩ := hs4.form
 obtain ⟨A11, cap12, rfl⟩ := hs6.form
 refine callsOf Try.func39 rfl _ Try.ntmps39 rfl _ (argsCons (argsCons argsNil (t := 0) rfl) (t := 1) rfl) ?_; intro Q0 hQ
 refine wcSeq (wcRegion ?_)
 refine wlBox (cs := [(.int .i64 x.node), (.int .i64 x.view), (.int .i64 x.low), (.slice A7 x.marks.length cap8), (.slice A9 x.p.length cap10), (.slice A11 x.q.length cap12)]) hC hB rfl rfl rfl ?_; intro b13 w hk hC hB
 refine wlVal (opAssign rfl) rfl ?_
 refine wlThen (wcSeq (wcRegion ?_))
 refine wlVal (opFieldAddr rfl fo49_2) rfl ?_
 refine wlVal (opLoadOne (v := (.int .i64 x.low)) rfl (hB.cell (i := 0) rfl rfl) one3) rfl ?_
 refine wlVal (opFieldAddr rfl fo30_0) rfl ?_
 refine wlVal (opLoadOne (v := (.int .i64 m.seq)) rfl (RowG.cell hC.holds hm (j := 0) (by simp [Mark.cells, Stand.cells])) one3) rfl ?_
 refine wlVal (opLeq rfl rfl) rfl ?_
 refine wlVal (opAssign rfl) rfl ?_
 refine wlThen ?_
 refine wcRet ?_
 exact fun ac_ ha => hQ _ _ _ (results1 ha rfl rfl) ha.df (endS hC hw rfl)

theorem low12_ret (G0 : Gh) (w0 : World) (hw : Holds G0 w0) (csx : List Value) (x : Change) (hx : Rp.Is G0 csx x) (bm : Nat) (m : Mark) (hm : RowG G0 bm 0 m.cells) :
  RetS Try.prog 40 #[.agg csx.toArray, .pointer (some ⟨bm, 0, none⟩)] G0 w0 (.bool (low12B m x)) := by
 have hC := Cx.refl hw
 have hB : Bxs G0 w0 w0.heap.size [] := Bxs.nil _ _ _
 obtain ⟨v1, v3, v5, rfl, hs2, hs4, hs6⟩ := Change.opIs hx
 obtain ⟨A7, cap8, rfl⟩ := hs2.form
 obtain ⟨A9, cap10, rfl⟩ := hs4.form
 obtain ⟨A11, cap12, rfl⟩ := hs6.form
 refine callsOf Try.func40 rfl _ Try.ntmps40 rfl _ (argsCons (argsCons argsNil (t := 0) rfl) (t := 1) rfl) ?_; intro Q0 hQ
 refine wcSeq (wcRegion ?_)
 refine wlBox (cs := [(.int .i64 x.node), (.int .i64 x.view), (.int .i64 x.low), (.slice A7 x.marks.length cap8), (.slice A9 x.p.length cap10), (.slice A11 x.q.length cap12)]) hC hB rfl rfl rfl ?_; intro b13 w hk hC hB
 refine wlVal (opAssign rfl) rfl ?_
 refine wlThen (wcSeq (wcRegion ?_))
 refine wlVal (opFieldAddr rfl fo49_3) rfl ?_
 refine wlVal (opLoadOne (v := (.slice A7 x.marks.length cap8)) rfl (hB.cell (i := 0) rfl rfl) one31) rfl ?_
 refine wlVal (opLoadRow (cs := m.cells) rfl (RowG.range hC.holds (hm.part (i := 0) (m := 33) (by simp [Mark.cells, Stand.cells]))) row30 (by simp [Mark.cells, Stand.cells])) rfl ?_
 refine wlCallS hC hB rfl co41 rfl rfl (conM_ret _ _ hC.holds _ x.marks hs2 m) ?_; intro w hk hC hB
 refine wlVal (opAssign rfl) rfl ?_
 refine wlThen ?_
 refine wcRet ?_
 exact fun ac_ ha => hQ _ _ _ (results1 ha rfl rfl) ha.df (endS hC hw rfl)

theorem low1_ret (G0 : Gh) (w0 : World) (hw : Holds G0 w0) (m : Mark) (bc : Nat) (csc : List Value) (c : Council) (hc : RowG G0 bc 0 csc) (ic : Rp.Is G0 csc c) :
  RetS Try.prog 37 #[.agg m.cells.toArray, .pointer (some ⟨bc, 0, none⟩)] G0 w0 (.bool (lowMayB c m)) := by
 have hC := Cx.refl hw
 have hB : Bxs G0 w0 w0.heap.size [] := Bxs.nil _ _ _
 obtain ⟨v1, rfl, hs2⟩ := Council.opIs ic
 obtain ⟨A3, cap4, rfl⟩ := hs2.form
 refine callsOf Try.func37 rfl _ Try.ntmps37 rfl _ (argsCons (argsCons argsNil (t := 0) rfl) (t := 1) rfl) ?_; intro Q0 hQ
 refine wcSeq (wcRegion ?_)
 refine wlBox (cs := m.cells) hC hB rfl rfl rfl ?_; intro b5 w hk hC hB
 refine wlVal (opAssign rfl) rfl ?_
 refine wlThen (wcSeq ?_)
 obtain ⟨G, hg7, hC, hB, hF6⟩ := freezeBox (cs := m.cells) hC (Nat.le_refl _) hB (i := 0) rfl
 replace hs2 := hs2.mono hg7
 replace hc := hc.mono hg7
 cases h8 : decide (0 ≤ m.seq)
 ·
  skip
  refine wcDraw fmix (by kernel_rfl) (by kernel_rfl) (vAt [(fun _ v_ => v_ = (.pointer (some ⟨b5, 0, none⟩))), (fun _ v_ => v_ = (.int .i64 m.seq)), (fun _ v_ => v_ = (.bool false)), (fun _ v_ => v_ = (.bool false)), (fun _ v_ => v_ = undef), (fun _ v_ => v_ = undef), (fun _ v_ => v_ = undef), (fun _ v_ => v_ = (.bool false)), (fun _ v_ => v_ = (.bool false)), (fun _ v_ => v_ = undef), (fun _ v_ => v_ = undef), (fun _ v_ => v_ = undef), (fun _ v_ => v_ = undef), (fun _ v_ => v_ = undef), (fun _ v_ => v_ = undef), (fun _ v_ => v_ = (.bool false)), (fun _ v_ => v_ = (.bool false)), (fun _ v_ => v_ = undef), (fun _ v_ => v_ = undef), (fun _ v_ => v_ = undef), (fun _ v_ => v_ = undef), (fun _ v_ => v_ = undef), (fun _ v_ => v_ = undef), (fun _ v_ => v_ = (.bool false)), (fun _ v_ => v_ = (.bool false))]) (fun _ _ G' w => Cx w0 G0 G' w ∧ Bxs G' w w0.heap.size [] ∧ GLe G G') G (vAt_mono ⟨fun _ _ _ _ h => h, fun _ _ _ _ h => h, fun _ _ _ _ h => h, fun _ _ _ _ h => h, fun _ _ _ _ h => h, fun _ _ _ _ h => h, fun _ _ _ _ h => h, fun _ _ _ _ h => h, fun _ _ _ _ h => h, fun _ _ _ _ h => h, fun _ _ _ _ h => h, fun _ _ _ _ h => h, fun _ _ _ _ h => h, fun _ _ _ _ h => h, fun _ _ _ _ h => h, fun _ _ _ _ h => h, fun _ _ _ _ h => h, fun _ _ _ _ h => h, fun _ _ _ _ h => h, fun _ _ _ _ h => h, fun _ _ _ _ h => h, fun _ _ _ _ h => h, fun _ _ _ _ h => h, fun _ _ _ _ h => h, fun _ _ _ _ h => h, trivial⟩) (fun _ _ => ⟨hC.drew, hB.drew, fun _ _ h => h⟩) ?_ ?_
  ·
   refine dsNone (j := 1) rfl ?_ ?_
   ·
    intro done G w ac_ hd hp hn ⟨hC, hB, hg⟩ hM
    have f2 : ac_.tmps[2]? = some (.pointer (some ⟨b5, 0, none⟩)) := hM.old0 rfl rfl
    have hF := (hM.fr.add f2)
    exact OpVal.draw hF (opFieldAddr rfl fo30_0) ⟨G, fun _ _ h => h, ⟨hC, hB, hg⟩, rfl⟩
   refine dsNone (j := 2) rfl ?_ ?_
   ·
    intro done G w ac_ hd hp hn ⟨hC, hB, hg⟩ hM
    replace hF6 := hF6.mono hg
    have f4 := hM.eqv (s := 4) 0 rfl (hp 0 rfl) rfl rfl
    have hF := (hM.fr.add f4)
    exact OpVal.draw hF (opLoadOne (v := (.int .i64 m.seq)) rfl (RowG.cell hC.holds hF6 (j := 0) (by simp [Mark.cells, Stand.cells])) one3) ⟨G, fun _ _ h => h, ⟨hC, hB, hg⟩, rfl⟩
   refine dsNone (j := 3) rfl ?_ ?_
   ·
    intro done G w ac_ hd hp hn ⟨hC, hB, hg⟩ hM
    have f5 := hM.eqv (s := 5) 1 rfl (hp 1 rfl) rfl rfl
    have hF := (hM.fr.add f5)
    exact OpVal.draw hF (OpVal.cast (opGeq rfl rfl) (congrArg Value.bool h8)) ⟨G, fun _ _ h => h, ⟨hC, hB, hg⟩, rfl⟩
   refine dsNone (j := 4) rfl ?_ ?_
   ·
    intro done G w ac_ hd hp hn ⟨hC, hB, hg⟩ hM
    have f6 := hM.eqv (s := 6) 2 rfl (hp 2 rfl) rfl rfl
    have hF := (hM.fr.add f6)
    exact OpVal.draw hF (opMove rfl) ⟨G, fun _ _ h => h, ⟨hC, hB, hg⟩, rfl⟩
   refine dsOff (j := 5) (b' := false) rfl rfl rfl ?_ ?_
   ·
    intro done G w ac_ hd hp hn ⟨hC, hB, hg⟩ hM
    have f7 := hM.eqv (s := 7) 3 rfl (hp 3 rfl) rfl rfl
    exact ⟨f7, ⟨hC, hB, hg⟩, rfl⟩
   refine dsOff (j := 6) (b' := false) rfl rfl rfl ?_ ?_
   ·
    intro done G w ac_ hd hp hn ⟨hC, hB, hg⟩ hM
    have f7 := hM.eqv (s := 7) 3 rfl (hp 3 rfl) rfl rfl
    exact ⟨f7, ⟨hC, hB, hg⟩, rfl⟩
   refine dsOff (j := 7) (b' := false) rfl rfl rfl ?_ ?_
   ·
    intro done G w ac_ hd hp hn ⟨hC, hB, hg⟩ hM
    have f7 := hM.eqv (s := 7) 3 rfl (hp 3 rfl) rfl rfl
    exact ⟨f7, ⟨hC, hB, hg⟩, rfl⟩
   refine dsNone (j := 8) rfl ?_ ?_
   ·
    intro done G w ac_ hd hp hn ⟨hC, hB, hg⟩ hM
    have f7 := hM.eqv (s := 7) 3 rfl (hp 3 rfl) rfl rfl
    have f10 := hM.eqv (s := 10) 6 rfl (hp 6 rfl) rfl rfl
    have hF := ((hM.fr.add f7).add f10)
    exact OpVal.draw hF (opPickF rfl rfl) ⟨G, fun _ _ h => h, ⟨hC, hB, hg⟩, rfl⟩
   refine dsNone (j := 9) rfl ?_ ?_
   ·
    intro done G w ac_ hd hp hn ⟨hC, hB, hg⟩ hM
    have f11 := hM.eqv (s := 11) 7 rfl (hp 7 rfl) rfl rfl
    have hF := (hM.fr.add f11)
    exact OpVal.draw hF (opMove rfl) ⟨G, fun _ _ h => h, ⟨hC, hB, hg⟩, rfl⟩
   refine dsOff (j := 10) (b' := false) rfl rfl rfl ?_ ?_
   ·
    intro done G w ac_ hd hp hn ⟨hC, hB, hg⟩ hM
    have f12 := hM.eqv (s := 12) 8 rfl (hp 8 rfl) rfl rfl
    exact ⟨f12, ⟨hC, hB, hg⟩, rfl⟩
   refine dsOff (j := 11) (b' := false) rfl rfl rfl ?_ ?_
   ·
    intro done G w ac_ hd hp hn ⟨hC, hB, hg⟩ hM
    have f12 := hM.eqv (s := 12) 8 rfl (hp 8 rfl) rfl rfl
    exact ⟨f12, ⟨hC, hB, hg⟩, rfl⟩
   refine dsOff (j := 12) (b' := false) rfl rfl rfl ?_ ?_
   ·
    intro done G w ac_ hd hp hn ⟨hC, hB, hg⟩ hM
    have f12 := hM.eqv (s := 12) 8 rfl (hp 8 rfl) rfl rfl
    exact ⟨f12, ⟨hC, hB, hg⟩, rfl⟩
   refine dsOff (j := 13) (b' := false) rfl rfl rfl ?_ ?_
   ·
    intro done G w ac_ hd hp hn ⟨hC, hB, hg⟩ hM
    have f12 := hM.eqv (s := 12) 8 rfl (hp 8 rfl) rfl rfl
    exact ⟨f12, ⟨hC, hB, hg⟩, rfl⟩
   refine dsOff (j := 14) (b' := false) rfl rfl rfl ?_ ?_
   ·
    intro done G w ac_ hd hp hn ⟨hC, hB, hg⟩ hM
    have f12 := hM.eqv (s := 12) 8 rfl (hp 8 rfl) rfl rfl
    exact ⟨f12, ⟨hC, hB, hg⟩, rfl⟩
   refine dsOff (j := 15) (b' := false) rfl rfl rfl ?_ ?_
   ·
    intro done G w ac_ hd hp hn ⟨hC, hB, hg⟩ hM
    have f12 := hM.eqv (s := 12) 8 rfl (hp 8 rfl) rfl rfl
    exact ⟨f12, ⟨hC, hB, hg⟩, rfl⟩
   refine dsNone (j := 16) rfl ?_ ?_
   ·
    intro done G w ac_ hd hp hn ⟨hC, hB, hg⟩ hM
    have f12 := hM.eqv (s := 12) 8 rfl (hp 8 rfl) rfl rfl
    have f18 := hM.eqv (s := 18) 14 rfl (hp 14 rfl) rfl rfl
    have hF := ((hM.fr.add f12).add f18)
    exact OpVal.draw hF (opPickF rfl rfl) ⟨G, fun _ _ h => h, ⟨hC, hB, hg⟩, rfl⟩
   refine dsNone (j := 17) rfl ?_ ?_
   ·
    intro done G w ac_ hd hp hn ⟨hC, hB, hg⟩ hM
    have f19 := hM.eqv (s := 19) 15 rfl (hp 15 rfl) rfl rfl
    have hF := (hM.fr.add f19)
    exact OpVal.draw hF (opMove rfl) ⟨G, fun _ _ h => h, ⟨hC, hB, hg⟩, rfl⟩
   refine dsOff (j := 18) (b' := false) rfl rfl rfl ?_ ?_
   ·
    intro done G w ac_ hd hp hn ⟨hC, hB, hg⟩ hM
    have f20 := hM.eqv (s := 20) 16 rfl (hp 16 rfl) rfl rfl
    exact ⟨f20, ⟨hC, hB, hg⟩, rfl⟩
   refine dsOff (j := 19) (b' := false) rfl rfl rfl ?_ ?_
   ·
    intro done G w ac_ hd hp hn ⟨hC, hB, hg⟩ hM
    have f20 := hM.eqv (s := 20) 16 rfl (hp 16 rfl) rfl rfl
    exact ⟨f20, ⟨hC, hB, hg⟩, rfl⟩
   refine dsOff (j := 20) (b' := false) rfl rfl rfl ?_ ?_
   ·
    intro done G w ac_ hd hp hn ⟨hC, hB, hg⟩ hM
    have f20 := hM.eqv (s := 20) 16 rfl (hp 16 rfl) rfl rfl
    exact ⟨f20, ⟨hC, hB, hg⟩, rfl⟩
   refine dsOff (j := 21) (b' := false) rfl rfl rfl ?_ ?_
   ·
    intro done G w ac_ hd hp hn ⟨hC, hB, hg⟩ hM
    have f20 := hM.eqv (s := 20) 16 rfl (hp 16 rfl) rfl rfl
    exact ⟨f20, ⟨hC, hB, hg⟩, rfl⟩
   refine dsOff (j := 22) (b' := false) rfl rfl rfl ?_ ?_
   ·
    intro done G w ac_ hd hp hn ⟨hC, hB, hg⟩ hM
    have f20 := hM.eqv (s := 20) 16 rfl (hp 16 rfl) rfl rfl
    exact ⟨f20, ⟨hC, hB, hg⟩, rfl⟩
   refine dsOff (j := 23) (b' := false) rfl rfl rfl ?_ ?_
   ·
    intro done G w ac_ hd hp hn ⟨hC, hB, hg⟩ hM
    have f20 := hM.eqv (s := 20) 16 rfl (hp 16 rfl) rfl rfl
    exact ⟨f20, ⟨hC, hB, hg⟩, rfl⟩
   refine dsNone (j := 24) rfl ?_ ?_
   ·
    intro done G w ac_ hd hp hn ⟨hC, hB, hg⟩ hM
    have f20 := hM.eqv (s := 20) 16 rfl (hp 16 rfl) rfl rfl
    have f26 := hM.eqv (s := 26) 22 rfl (hp 22 rfl) rfl rfl
    have hF := ((hM.fr.add f20).add f26)
    exact OpVal.draw hF (opPickF rfl rfl) ⟨G, fun _ _ h => h, ⟨hC, hB, hg⟩, rfl⟩
   refine dsNone (j := 25) rfl ?_ ?_
   ·
    intro done G w ac_ hd hp hn ⟨hC, hB, hg⟩ hM
    have f27 := hM.eqv (s := 27) 23 rfl (hp 23 rfl) rfl rfl
    have hF := (hM.fr.add f27)
    exact OpVal.draw hF (opAssign rfl) ⟨G, fun _ _ h => h, ⟨hC, hB, hg⟩, rfl⟩
   exact dsNil
  ·
   intro done G w ac_ hall ⟨hC, hB, hg⟩ hM
   replace hs2 := hs2.mono hg
   replace hc := hc.mono hg
   replace hF6 := hF6.mono hg
   have f3 := hM.eqv (s := 3) 24 rfl (hall 24 (by decide)) rfl rfl
   refine ⟨(Env.nil.put 3 (.bool false)), (hM.fr.add f3), ?_⟩
   clear hM hall
   refine wcOf ?_
   refine wcRet ?_
   exact fun ac_ ha => hQ _ _ _ (results1 ha rfl rfl) ha.df (endS hC hw (by simp [lowMayB, h8]))
 ·
  skip
  cases h9 : decide (m.seq ≤ 9007199254740983)
  ·
   skip
   refine wcDraw fmix (by kernel_rfl) (by kernel_rfl) (vAt [(fun _ v_ => v_ = (.pointer (some ⟨b5, 0, none⟩))), (fun _ v_ => v_ = (.int .i64 m.seq)), (fun _ v_ => v_ = (.bool true)), (fun _ v_ => v_ = (.bool true)), (fun _ v_ => v_ = (.pointer (some ⟨b5, 0, none⟩))), (fun _ v_ => v_ = (.int .i64 m.seq)), (fun _ v_ => v_ = (.bool false)), (fun _ v_ => v_ = (.bool false)), (fun _ v_ => v_ = (.bool false)), (fun _ v_ => v_ = undef), (fun _ v_ => v_ = undef), (fun _ v_ => v_ = undef), (fun _ v_ => v_ = undef), (fun _ v_ => v_ = undef), (fun _ v_ => v_ = undef), (fun _ v_ => v_ = (.bool false)), (fun _ v_ => v_ = (.bool false)), (fun _ v_ => v_ = undef), (fun _ v_ => v_ = undef), (fun _ v_ => v_ = undef), (fun _ v_ => v_ = undef), (fun _ v_ => v_ = undef), (fun _ v_ => v_ = undef), (fun _ v_ => v_ = (.bool false)), (fun _ v_ => v_ = (.bool false))]) (fun _ _ G' w => Cx w0 G0 G' w ∧ Bxs G' w w0.heap.size [] ∧ GLe G G') G (vAt_mono ⟨fun _ _ _ _ h => h, fun _ _ _ _ h => h, fun _ _ _ _ h => h, fun _ _ _ _ h => h, fun _ _ _ _ h => h, fun _ _ _ _ h => h, fun _ _ _ _ h => h, fun _ _ _ _ h => h, fun _ _ _ _ h => h, fun _ _ _ _ h => h, fun _ _ _ _ h => h, fun _ _ _ _ h => h, fun _ _ _ _ h => h, fun _ _ _ _ h => h, fun _ _ _ _ h => h, fun _ _ _ _ h => h, fun _ _ _ _ h => h, fun _ _ _ _ h => h, fun _ _ _ _ h => h, fun _ _ _ _ h => h, fun _ _ _ _ h => h, fun _ _ _ _ h => h, fun _ _ _ _ h => h, fun _ _ _ _ h => h, fun _ _ _ _ h => h, trivial⟩) (fun _ _ => ⟨hC.drew, hB.drew, fun _ _ h => h⟩) ?_ ?_
   ·
    refine dsNone (j := 1) rfl ?_ ?_
    ·
     intro done G w ac_ hd hp hn ⟨hC, hB, hg⟩ hM
     have f2 : ac_.tmps[2]? = some (.pointer (some ⟨b5, 0, none⟩)) := hM.old0 rfl rfl
     have hF := (hM.fr.add f2)
     exact OpVal.draw hF (opFieldAddr rfl fo30_0) ⟨G, fun _ _ h => h, ⟨hC, hB, hg⟩, rfl⟩
    refine dsNone (j := 2) rfl ?_ ?_
    ·
     intro done G w ac_ hd hp hn ⟨hC, hB, hg⟩ hM
     replace hF6 := hF6.mono hg
     have f4 := hM.eqv (s := 4) 0 rfl (hp 0 rfl) rfl rfl
     have hF := (hM.fr.add f4)
     exact OpVal.draw hF (opLoadOne (v := (.int .i64 m.seq)) rfl (RowG.cell hC.holds hF6 (j := 0) (by simp [Mark.cells, Stand.cells])) one3) ⟨G, fun _ _ h => h, ⟨hC, hB, hg⟩, rfl⟩
    refine dsNone (j := 3) rfl ?_ ?_
    ·
     intro done G w ac_ hd hp hn ⟨hC, hB, hg⟩ hM
     have f5 := hM.eqv (s := 5) 1 rfl (hp 1 rfl) rfl rfl
     have hF := (hM.fr.add f5)
     exact OpVal.draw hF (OpVal.cast (opGeq rfl rfl) (congrArg Value.bool h8)) ⟨G, fun _ _ h => h, ⟨hC, hB, hg⟩, rfl⟩
    refine dsNone (j := 4) rfl ?_ ?_
    ·
     intro done G w ac_ hd hp hn ⟨hC, hB, hg⟩ hM
     have f6 := hM.eqv (s := 6) 2 rfl (hp 2 rfl) rfl rfl
     have hF := (hM.fr.add f6)
     exact OpVal.draw hF (opMove rfl) ⟨G, fun _ _ h => h, ⟨hC, hB, hg⟩, rfl⟩
    refine dsOn (j := 5) rfl rfl ?_ ?_
    ·
     intro done G w ac_ hd hp hn ⟨hC, hB, hg⟩ hM
     have f2 : ac_.tmps[2]? = some (.pointer (some ⟨b5, 0, none⟩)) := hM.old0 rfl rfl
     have f7 := hM.eqv (s := 7) 3 rfl (hp 3 rfl) rfl rfl
     refine ⟨f7, ?_⟩
     have hF := (hM.fr.add f2)
     exact OpVal.draw hF (opFieldAddr rfl fo30_0) ⟨G, fun _ _ h => h, ⟨hC, hB, hg⟩, rfl⟩
    refine dsOn (j := 6) rfl rfl ?_ ?_
    ·
     intro done G w ac_ hd hp hn ⟨hC, hB, hg⟩ hM
     replace hF6 := hF6.mono hg
     have f8 := hM.eqv (s := 8) 4 rfl (hp 4 rfl) rfl rfl
     have f7 := hM.eqv (s := 7) 3 rfl (hp 3 rfl) rfl rfl
     refine ⟨f7, ?_⟩
     have hF := (hM.fr.add f8)
     exact OpVal.draw hF (opLoadOne (v := (.int .i64 m.seq)) rfl (RowG.cell hC.holds hF6 (j := 0) (by simp [Mark.cells, Stand.cells])) one3) ⟨G, fun _ _ h => h, ⟨hC, hB, hg⟩, rfl⟩
    refine dsOn (j := 7) rfl rfl ?_ ?_
    ·
     intro done G w ac_ hd hp hn ⟨hC, hB, hg⟩ hM
     have f9 := hM.eqv (s := 9) 5 rfl (hp 5 rfl) rfl rfl
     have f7 := hM.eqv (s := 7) 3 rfl (hp 3 rfl) rfl rfl
     refine ⟨f7, ?_⟩
     have hF := (hM.fr.add f9)
     exact OpVal.draw hF (OpVal.cast (opLeq rfl rfl) (congrArg Value.bool h9)) ⟨G, fun _ _ h => h, ⟨hC, hB, hg⟩, rfl⟩
    refine dsNone (j := 8) rfl ?_ ?_
    ·
     intro done G w ac_ hd hp hn ⟨hC, hB, hg⟩ hM
     have f7 := hM.eqv (s := 7) 3 rfl (hp 3 rfl) rfl rfl
     have f10 := hM.eqv (s := 10) 6 rfl (hp 6 rfl) rfl rfl
     have hF := ((hM.fr.add f7).add f10)
     exact OpVal.draw hF (opPickT rfl rfl) ⟨G, fun _ _ h => h, ⟨hC, hB, hg⟩, rfl⟩
    refine dsNone (j := 9) rfl ?_ ?_
    ·
     intro done G w ac_ hd hp hn ⟨hC, hB, hg⟩ hM
     have f11 := hM.eqv (s := 11) 7 rfl (hp 7 rfl) rfl rfl
     have hF := (hM.fr.add f11)
     exact OpVal.draw hF (opMove rfl) ⟨G, fun _ _ h => h, ⟨hC, hB, hg⟩, rfl⟩
    refine dsOff (j := 10) (b' := false) rfl rfl rfl ?_ ?_
    ·
     intro done G w ac_ hd hp hn ⟨hC, hB, hg⟩ hM
     have f12 := hM.eqv (s := 12) 8 rfl (hp 8 rfl) rfl rfl
     exact ⟨f12, ⟨hC, hB, hg⟩, rfl⟩
    refine dsOff (j := 11) (b' := false) rfl rfl rfl ?_ ?_
    ·
     intro done G w ac_ hd hp hn ⟨hC, hB, hg⟩ hM
     have f12 := hM.eqv (s := 12) 8 rfl (hp 8 rfl) rfl rfl
     exact ⟨f12, ⟨hC, hB, hg⟩, rfl⟩
    refine dsOff (j := 12) (b' := false) rfl rfl rfl ?_ ?_
    ·
     intro done G w ac_ hd hp hn ⟨hC, hB, hg⟩ hM
     have f12 := hM.eqv (s := 12) 8 rfl (hp 8 rfl) rfl rfl
     exact ⟨f12, ⟨hC, hB, hg⟩, rfl⟩
    refine dsOff (j := 13) (b' := false) rfl rfl rfl ?_ ?_
    ·
     intro done G w ac_ hd hp hn ⟨hC, hB, hg⟩ hM
     have f12 := hM.eqv (s := 12) 8 rfl (hp 8 rfl) rfl rfl
     exact ⟨f12, ⟨hC, hB, hg⟩, rfl⟩
    refine dsOff (j := 14) (b' := false) rfl rfl rfl ?_ ?_
    ·
     intro done G w ac_ hd hp hn ⟨hC, hB, hg⟩ hM
     have f12 := hM.eqv (s := 12) 8 rfl (hp 8 rfl) rfl rfl
     exact ⟨f12, ⟨hC, hB, hg⟩, rfl⟩
    refine dsOff (j := 15) (b' := false) rfl rfl rfl ?_ ?_
    ·
     intro done G w ac_ hd hp hn ⟨hC, hB, hg⟩ hM
     have f12 := hM.eqv (s := 12) 8 rfl (hp 8 rfl) rfl rfl
     exact ⟨f12, ⟨hC, hB, hg⟩, rfl⟩
    refine dsNone (j := 16) rfl ?_ ?_
    ·
     intro done G w ac_ hd hp hn ⟨hC, hB, hg⟩ hM
     have f12 := hM.eqv (s := 12) 8 rfl (hp 8 rfl) rfl rfl
     have f18 := hM.eqv (s := 18) 14 rfl (hp 14 rfl) rfl rfl
     have hF := ((hM.fr.add f12).add f18)
     exact OpVal.draw hF (opPickF rfl rfl) ⟨G, fun _ _ h => h, ⟨hC, hB, hg⟩, rfl⟩
    refine dsNone (j := 17) rfl ?_ ?_
    ·
     intro done G w ac_ hd hp hn ⟨hC, hB, hg⟩ hM
     have f19 := hM.eqv (s := 19) 15 rfl (hp 15 rfl) rfl rfl
     have hF := (hM.fr.add f19)
     exact OpVal.draw hF (opMove rfl) ⟨G, fun _ _ h => h, ⟨hC, hB, hg⟩, rfl⟩
    refine dsOff (j := 18) (b' := false) rfl rfl rfl ?_ ?_
    ·
     intro done G w ac_ hd hp hn ⟨hC, hB, hg⟩ hM
     have f20 := hM.eqv (s := 20) 16 rfl (hp 16 rfl) rfl rfl
     exact ⟨f20, ⟨hC, hB, hg⟩, rfl⟩
    refine dsOff (j := 19) (b' := false) rfl rfl rfl ?_ ?_
    ·
     intro done G w ac_ hd hp hn ⟨hC, hB, hg⟩ hM
     have f20 := hM.eqv (s := 20) 16 rfl (hp 16 rfl) rfl rfl
     exact ⟨f20, ⟨hC, hB, hg⟩, rfl⟩
    refine dsOff (j := 20) (b' := false) rfl rfl rfl ?_ ?_
    ·
     intro done G w ac_ hd hp hn ⟨hC, hB, hg⟩ hM
     have f20 := hM.eqv (s := 20) 16 rfl (hp 16 rfl) rfl rfl
     exact ⟨f20, ⟨hC, hB, hg⟩, rfl⟩
    refine dsOff (j := 21) (b' := false) rfl rfl rfl ?_ ?_
    ·
     intro done G w ac_ hd hp hn ⟨hC, hB, hg⟩ hM
     have f20 := hM.eqv (s := 20) 16 rfl (hp 16 rfl) rfl rfl
     exact ⟨f20, ⟨hC, hB, hg⟩, rfl⟩
    refine dsOff (j := 22) (b' := false) rfl rfl rfl ?_ ?_
    ·
     intro done G w ac_ hd hp hn ⟨hC, hB, hg⟩ hM
     have f20 := hM.eqv (s := 20) 16 rfl (hp 16 rfl) rfl rfl
     exact ⟨f20, ⟨hC, hB, hg⟩, rfl⟩
    refine dsOff (j := 23) (b' := false) rfl rfl rfl ?_ ?_
    ·
     intro done G w ac_ hd hp hn ⟨hC, hB, hg⟩ hM
     have f20 := hM.eqv (s := 20) 16 rfl (hp 16 rfl) rfl rfl
     exact ⟨f20, ⟨hC, hB, hg⟩, rfl⟩
    refine dsNone (j := 24) rfl ?_ ?_
    ·
     intro done G w ac_ hd hp hn ⟨hC, hB, hg⟩ hM
     have f20 := hM.eqv (s := 20) 16 rfl (hp 16 rfl) rfl rfl
     have f26 := hM.eqv (s := 26) 22 rfl (hp 22 rfl) rfl rfl
     have hF := ((hM.fr.add f20).add f26)
     exact OpVal.draw hF (opPickF rfl rfl) ⟨G, fun _ _ h => h, ⟨hC, hB, hg⟩, rfl⟩
    refine dsNone (j := 25) rfl ?_ ?_
    ·
     intro done G w ac_ hd hp hn ⟨hC, hB, hg⟩ hM
     have f27 := hM.eqv (s := 27) 23 rfl (hp 23 rfl) rfl rfl
     have hF := (hM.fr.add f27)
     exact OpVal.draw hF (opAssign rfl) ⟨G, fun _ _ h => h, ⟨hC, hB, hg⟩, rfl⟩
    exact dsNil
   ·
    intro done G w ac_ hall ⟨hC, hB, hg⟩ hM
    replace hs2 := hs2.mono hg
    replace hc := hc.mono hg
    replace hF6 := hF6.mono hg
    have f3 := hM.eqv (s := 3) 24 rfl (hall 24 (by decide)) rfl rfl
    refine ⟨(Env.nil.put 3 (.bool false)), (hM.fr.add f3), ?_⟩
    clear hM hall
    refine wcOf ?_
    refine wcRet ?_
    exact fun ac_ ha => hQ _ _ _ (results1 ha rfl rfl) ha.df (endS hC hw (by simp [lowMayB, h8, h9]))
  ·
   skip
   cases h10 : decide (c.most ≤ (cnt c (fun is_x0 => low11B m is_x0)))
   ·
    skip
    refine wcDraw fmix (by kernel_rfl) (by kernel_rfl) (vAt [(fun _ v_ => v_ = (.pointer (some ⟨b5, 0, none⟩))), (fun _ v_ => v_ = (.int .i64 m.seq)), (fun _ v_ => v_ = (.bool true)), (fun _ v_ => v_ = (.bool true)), (fun _ v_ => v_ = (.pointer (some ⟨b5, 0, none⟩))), (fun _ v_ => v_ = (.int .i64 m.seq)), (fun _ v_ => v_ = (.bool true)), (fun _ v_ => v_ = (.bool true)), (fun _ v_ => v_ = (.bool true)), (fun _ v_ => v_ = (.agg [(.int .i64 c.most), (.int .i64 c.some_), (.slice A3 c.list.length cap4)].toArray)), (fun _ v_ => v_ = (.func (.func 39) #[] #[(.pointer (some ⟨b5, 0, none⟩))])), (fun _ v_ => v_ = (.int .i64 ((cnt c (fun is_x0 => low11B m is_x0))))), (fun _ v_ => v_ = (.pointer (some ⟨bc, 0, none⟩))), (fun _ v_ => v_ = (.int .i64 c.most)), (fun _ v_ => v_ = (.bool false)), (fun _ v_ => v_ = (.bool false)), (fun _ v_ => v_ = (.bool false)), (fun _ v_ => v_ = undef), (fun _ v_ => v_ = undef), (fun _ v_ => v_ = undef), (fun _ v_ => v_ = undef), (fun _ v_ => v_ = undef), (fun _ v_ => v_ = undef), (fun _ v_ => v_ = (.bool false)), (fun _ v_ => v_ = (.bool false))]) (fun _ _ G' w => Cx w0 G0 G' w ∧ Bxs G' w w0.heap.size [] ∧ GLe G G') G (vAt_mono ⟨fun _ _ _ _ h => h, fun _ _ _ _ h => h, fun _ _ _ _ h => h, fun _ _ _ _ h => h, fun _ _ _ _ h => h, fun _ _ _ _ h => h, fun _ _ _ _ h => h, fun _ _ _ _ h => h, fun _ _ _ _ h => h, fun _ _ _ _ h => h, fun _ _ _ _ h => h, fun _ _ _ _ h => h, fun _ _ _ _ h => h, fun _ _ _ _ h => h, fun _ _ _ _ h => h, fun _ _ _ _ h => h, fun _ _ _ _ h => h, fun _ _ _ _ h => h, fun _ _ _ _ h => h, fun _ _ _ _ h => h, fun _ _ _ _ h => h, fun _ _ _ _ h => h, fun _ _ _ _ h => h, fun _ _ _ _ h => h, fun _ _ _ _ h => h, trivial⟩) (fun _ _ => ⟨hC.drew, hB.drew, fun _ _ h => h⟩) ?_ ?_
    ·
     refine dsNone (j := 1) rfl ?_ ?_
     ·
      intro done G w ac_ hd hp hn ⟨hC, hB, hg⟩ hM
      have f2 : ac_.tmps[2]? = some (.pointer (some ⟨b5, 0, none⟩)) := hM.old0 rfl rfl
      have hF := (hM.fr.add f2)
      exact OpVal.draw hF (opFieldAddr rfl fo30_0) ⟨G, fun _ _ h => h, ⟨hC, hB, hg⟩, rfl⟩
     refine dsNone (j := 2) rfl ?_ ?_
     ·
      intro done G w ac_ hd hp hn ⟨hC, hB, hg⟩ hM
      replace hF6 := hF6.mono hg
      have f4 := hM.eqv (s := 4) 0 rfl (hp 0 rfl) rfl rfl
      have hF := (hM.fr.add f4)
      exact OpVal.draw hF (opLoadOne (v := (.int .i64 m.seq)) rfl (RowG.cell hC.holds hF6 (j := 0) (by simp [Mark.cells, Stand.cells])) one3) ⟨G, fun _ _ h => h, ⟨hC, hB, hg⟩, rfl⟩
     refine dsNone (j := 3) rfl ?_ ?_
     ·
      intro done G w ac_ hd hp hn ⟨hC, hB, hg⟩ hM
      have f5 := hM.eqv (s := 5) 1 rfl (hp 1 rfl) rfl rfl
      have hF := (hM.fr.add f5)
      exact OpVal.draw hF (OpVal.cast (opGeq rfl rfl) (congrArg Value.bool h8)) ⟨G, fun _ _ h => h, ⟨hC, hB, hg⟩, rfl⟩
     refine dsNone (j := 4) rfl ?_ ?_
     ·
      intro done G w ac_ hd hp hn ⟨hC, hB, hg⟩ hM
      have f6 := hM.eqv (s := 6) 2 rfl (hp 2 rfl) rfl rfl
      have hF := (hM.fr.add f6)
      exact OpVal.draw hF (opMove rfl) ⟨G, fun _ _ h => h, ⟨hC, hB, hg⟩, rfl⟩
     refine dsOn (j := 5) rfl rfl ?_ ?_
     ·
      intro done G w ac_ hd hp hn ⟨hC, hB, hg⟩ hM
      have f2 : ac_.tmps[2]? = some (.pointer (some ⟨b5, 0, none⟩)) := hM.old0 rfl rfl
      have f7 := hM.eqv (s := 7) 3 rfl (hp 3 rfl) rfl rfl
      refine ⟨f7, ?_⟩
      have hF := (hM.fr.add f2)
      exact OpVal.draw hF (opFieldAddr rfl fo30_0) ⟨G, fun _ _ h => h, ⟨hC, hB, hg⟩, rfl⟩
     refine dsOn (j := 6) rfl rfl ?_ ?_
     ·
      intro done G w ac_ hd hp hn ⟨hC, hB, hg⟩ hM
      replace hF6 := hF6.mono hg
      have f8 := hM.eqv (s := 8) 4 rfl (hp 4 rfl) rfl rfl
      have f7 := hM.eqv (s := 7) 3 rfl (hp 3 rfl) rfl rfl
      refine ⟨f7, ?_⟩
      have hF := (hM.fr.add f8)
      exact OpVal.draw hF (opLoadOne (v := (.int .i64 m.seq)) rfl (RowG.cell hC.holds hF6 (j := 0) (by simp [Mark.cells, Stand.cells])) one3) ⟨G, fun _ _ h => h, ⟨hC, hB, hg⟩, rfl⟩
     refine dsOn (j := 7) rfl rfl ?_ ?_
     ·
      intro done G w ac_ hd hp hn ⟨hC, hB, hg⟩ hM
      have f9 := hM.eqv (s := 9) 5 rfl (hp 5 rfl) rfl rfl
      have f7 := hM.eqv (s := 7) 3 rfl (hp 3 rfl) rfl rfl
      refine ⟨f7, ?_⟩
      have hF := (hM.fr.add f9)
      exact OpVal.draw hF (OpVal.cast (opLeq rfl rfl) (congrArg Value.bool h9)) ⟨G, fun _ _ h => h, ⟨hC, hB, hg⟩, rfl⟩
     refine dsNone (j := 8) rfl ?_ ?_
     ·
      intro done G w ac_ hd hp hn ⟨hC, hB, hg⟩ hM
      have f7 := hM.eqv (s := 7) 3 rfl (hp 3 rfl) rfl rfl
      have f10 := hM.eqv (s := 10) 6 rfl (hp 6 rfl) rfl rfl
      have hF := ((hM.fr.add f7).add f10)
      exact OpVal.draw hF (opPickT rfl rfl) ⟨G, fun _ _ h => h, ⟨hC, hB, hg⟩, rfl⟩
     refine dsNone (j := 9) rfl ?_ ?_
     ·
      intro done G w ac_ hd hp hn ⟨hC, hB, hg⟩ hM
      have f11 := hM.eqv (s := 11) 7 rfl (hp 7 rfl) rfl rfl
      have hF := (hM.fr.add f11)
      exact OpVal.draw hF (opMove rfl) ⟨G, fun _ _ h => h, ⟨hC, hB, hg⟩, rfl⟩
     refine dsOn (j := 10) rfl rfl ?_ ?_
     ·
      intro done G w ac_ hd hp hn ⟨hC, hB, hg⟩ hM
      replace hc := hc.mono hg
      have f1 : ac_.tmps[1]? = some (.pointer (some ⟨bc, 0, none⟩)) := hM.old0 rfl rfl
      have f12 := hM.eqv (s := 12) 8 rfl (hp 8 rfl) rfl rfl
      refine ⟨f12, ?_⟩
      have hF := (hM.fr.add f1)
      exact OpVal.draw hF (opLoadRow (cs := [(.int .i64 c.most), (.int .i64 c.some_), (.slice A3 c.list.length cap4)]) rfl (RowG.range hC.holds (hc.part (i := 0) (m := 3) rfl)) row70 rfl) ⟨G, fun _ _ h => h, ⟨hC, hB, hg⟩, rfl⟩
     refine dsOn (j := 11) rfl rfl ?_ ?_
     ·
      intro done G w ac_ hd hp hn ⟨hC, hB, hg⟩ hM
      have f2 : ac_.tmps[2]? = some (.pointer (some ⟨b5, 0, none⟩)) := hM.old0 rfl rfl
      have f12 := hM.eqv (s := 12) 8 rfl (hp 8 rfl) rfl rfl
      refine ⟨f12, ?_⟩
      have hF := (hM.fr.add f2)
      exact OpVal.draw hF (opMakeFunc (fun a ha => ha.evals (xs := []) rfl) (fun a ha => ha.evals (xs := [.tmp 2]) rfl)) ⟨G, fun _ _ h => h, ⟨hC, hB, hg⟩, rfl⟩
     refine dsOn (j := 12) rfl rfl ?_ ?_
     ·
      intro done G w ac_ hd hp hn ⟨hC, hB, hg⟩ hM
      replace hs2 := hs2.mono hg
      replace hF6 := hF6.mono hg
      have f13 := hM.eqv (s := 13) 9 rfl (hp 9 rfl) rfl rfl
      have f14 := hM.eqv (s := 14) 10 rfl (hp 10 rfl) rfl rfl
      have f12 := hM.eqv (s := 12) 8 rfl (hp 8 rfl) rfl rfl
      refine ⟨f12, ?_⟩
      have hF := ((hM.fr.add f13).add f14)
      exact drawCallS hF rfl co38 rfl (count_ret _ _ hC.holds _ c (Council.mkIs (x := c) hs2) 39 [(.pointer (some ⟨b5, 0, none⟩))] (fun is_x0 => low11B m is_x0) co39 (fun G w cis_x0 is_x0 hg hw hx0 => low11_ret G w hw _ is_x0 hx0 _ m (hF6.mono hg) )) (fun w' hk => ⟨G, fun _ _ h => h, ⟨hC.trans hk, hB.ext hk, hg⟩, rfl⟩)
     refine dsOn (j := 13) rfl rfl ?_ ?_
     ·
      intro done G w ac_ hd hp hn ⟨hC, hB, hg⟩ hM
      have f1 : ac_.tmps[1]? = some (.pointer (some ⟨bc, 0, none⟩)) := hM.old0 rfl rfl
      have f12 := hM.eqv (s := 12) 8 rfl (hp 8 rfl) rfl rfl
      refine ⟨f12, ?_⟩
      have hF := (hM.fr.add f1)
      exact OpVal.draw hF (opFieldAddr rfl fo70_0) ⟨G, fun _ _ h => h, ⟨hC, hB, hg⟩, rfl⟩
     refine dsOn (j := 14) rfl rfl ?_ ?_
     ·
      intro done G w ac_ hd hp hn ⟨hC, hB, hg⟩ hM
      replace hc := hc.mono hg
      have f16 := hM.eqv (s := 16) 12 rfl (hp 12 rfl) rfl rfl
      have f12 := hM.eqv (s := 12) 8 rfl (hp 8 rfl) rfl rfl
      refine ⟨f12, ?_⟩
      have hF := (hM.fr.add f16)
      exact OpVal.draw hF (opLoadOne (v := (.int .i64 c.most)) rfl (RowG.cell hC.holds hc (j := 0) rfl) one3) ⟨G, fun _ _ h => h, ⟨hC, hB, hg⟩, rfl⟩
     refine dsOn (j := 15) rfl rfl ?_ ?_
     ·
      intro done G w ac_ hd hp hn ⟨hC, hB, hg⟩ hM
      have f15 := hM.eqv (s := 15) 11 rfl (hp 11 rfl) rfl rfl
      have f17 := hM.eqv (s := 17) 13 rfl (hp 13 rfl) rfl rfl
      have f12 := hM.eqv (s := 12) 8 rfl (hp 8 rfl) rfl rfl
      refine ⟨f12, ?_⟩
      have hF := ((hM.fr.add f15).add f17)
      exact OpVal.draw hF (OpVal.cast (opGeq rfl rfl) (congrArg Value.bool h10)) ⟨G, fun _ _ h => h, ⟨hC, hB, hg⟩, rfl⟩
     refine dsNone (j := 16) rfl ?_ ?_
     ·
      intro done G w ac_ hd hp hn ⟨hC, hB, hg⟩ hM
      have f12 := hM.eqv (s := 12) 8 rfl (hp 8 rfl) rfl rfl
      have f18 := hM.eqv (s := 18) 14 rfl (hp 14 rfl) rfl rfl
      have hF := ((hM.fr.add f12).add f18)
      exact OpVal.draw hF (opPickT rfl rfl) ⟨G, fun _ _ h => h, ⟨hC, hB, hg⟩, rfl⟩
     refine dsNone (j := 17) rfl ?_ ?_
     ·
      intro done G w ac_ hd hp hn ⟨hC, hB, hg⟩ hM
      have f19 := hM.eqv (s := 19) 15 rfl (hp 15 rfl) rfl rfl
      have hF := (hM.fr.add f19)
      exact OpVal.draw hF (opMove rfl) ⟨G, fun _ _ h => h, ⟨hC, hB, hg⟩, rfl⟩
     refine dsOff (j := 18) (b' := false) rfl rfl rfl ?_ ?_
     ·
      intro done G w ac_ hd hp hn ⟨hC, hB, hg⟩ hM
      have f20 := hM.eqv (s := 20) 16 rfl (hp 16 rfl) rfl rfl
      exact ⟨f20, ⟨hC, hB, hg⟩, rfl⟩
     refine dsOff (j := 19) (b' := false) rfl rfl rfl ?_ ?_
     ·
      intro done G w ac_ hd hp hn ⟨hC, hB, hg⟩ hM
      have f20 := hM.eqv (s := 20) 16 rfl (hp 16 rfl) rfl rfl
      exact ⟨f20, ⟨hC, hB, hg⟩, rfl⟩
     refine dsOff (j := 20) (b' := false) rfl rfl rfl ?_ ?_
     ·
      intro done G w ac_ hd hp hn ⟨hC, hB, hg⟩ hM
      have f20 := hM.eqv (s := 20) 16 rfl (hp 16 rfl) rfl rfl
      exact ⟨f20, ⟨hC, hB, hg⟩, rfl⟩
     refine dsOff (j := 21) (b' := false) rfl rfl rfl ?_ ?_
     ·
      intro done G w ac_ hd hp hn ⟨hC, hB, hg⟩ hM
      have f20 := hM.eqv (s := 20) 16 rfl (hp 16 rfl) rfl rfl
      exact ⟨f20, ⟨hC, hB, hg⟩, rfl⟩
     refine dsOff (j := 22) (b' := false) rfl rfl rfl ?_ ?_
     ·
      intro done G w ac_ hd hp hn ⟨hC, hB, hg⟩ hM
      have f20 := hM.eqv (s := 20) 16 rfl (hp 16 rfl) rfl rfl
      exact ⟨f20, ⟨hC, hB, hg⟩, rfl⟩
     refine dsOff (j := 23) (b' := false) rfl rfl rfl ?_ ?_
     ·
      intro done G w ac_ hd hp hn ⟨hC, hB, hg⟩ hM
      have f20 := hM.eqv (s := 20) 16 rfl (hp 16 rfl) rfl rfl
      exact ⟨f20, ⟨hC, hB, hg⟩, rfl⟩
     refine dsNone (j := 24) rfl ?_ ?_
     ·
      intro done G w ac_ hd hp hn ⟨hC, hB, hg⟩ hM
      have f20 := hM.eqv (s := 20) 16 rfl (hp 16 rfl) rfl rfl
      have f26 := hM.eqv (s := 26) 22 rfl (hp 22 rfl) rfl rfl
      have hF := ((hM.fr.add f20).add f26)
      exact OpVal.draw hF (opPickF rfl rfl) ⟨G, fun _ _ h => h, ⟨hC, hB, hg⟩, rfl⟩
     refine dsNone (j := 25) rfl ?_ ?_
     ·
      intro done G w ac_ hd hp hn ⟨hC, hB, hg⟩ hM
      have f27 := hM.eqv (s := 27) 23 rfl (hp 23 rfl) rfl rfl
      have hF := (hM.fr.add f27)
      exact OpVal.draw hF (opAssign rfl) ⟨G, fun _ _ h => h, ⟨hC, hB, hg⟩, rfl⟩
     exact dsNil
    ·
     intro done G w ac_ hall ⟨hC, hB, hg⟩ hM
     replace hs2 := hs2.mono hg
     replace hc := hc.mono hg
     replace hF6 := hF6.mono hg
     have f3 := hM.eqv (s := 3) 24 rfl (hall 24 (by decide)) rfl rfl
     refine ⟨(Env.nil.put 3 (.bool false)), (hM.fr.add f3), ?_⟩
     clear hM hall
     refine wcOf ?_
     refine wcRet ?_
     exact fun ac_ ha => hQ _ _ _ (results1 ha rfl rfl) ha.df (endS hC hw (by simp [lowMayB, h8, h9, h10]))
   ·
    skip
    refine wcDraw fmix (by kernel_rfl) (by kernel_rfl) (vAt [(fun _ v_ => v_ = (.pointer (some ⟨b5, 0, none⟩))), (fun _ v_ => v_ = (.int .i64 m.seq)), (fun _ v_ => v_ = (.bool true)), (fun _ v_ => v_ = (.bool true)), (fun _ v_ => v_ = (.pointer (some ⟨b5, 0, none⟩))), (fun _ v_ => v_ = (.int .i64 m.seq)), (fun _ v_ => v_ = (.bool true)), (fun _ v_ => v_ = (.bool true)), (fun _ v_ => v_ = (.bool true)), (fun _ v_ => v_ = (.agg [(.int .i64 c.most), (.int .i64 c.some_), (.slice A3 c.list.length cap4)].toArray)), (fun _ v_ => v_ = (.func (.func 39) #[] #[(.pointer (some ⟨b5, 0, none⟩))])), (fun _ v_ => v_ = (.int .i64 ((cnt c (fun is_x0 => low11B m is_x0))))), (fun _ v_ => v_ = (.pointer (some ⟨bc, 0, none⟩))), (fun _ v_ => v_ = (.int .i64 c.most)), (fun _ v_ => v_ = (.bool true)), (fun _ v_ => v_ = (.bool true)), (fun _ v_ => v_ = (.bool true)), (fun _ v_ => v_ = (.agg [(.int .i64 c.most), (.int .i64 c.some_), (.slice A3 c.list.length cap4)].toArray)), (fun _ v_ => v_ = (.func (.func 40) #[] #[(.pointer (some ⟨b5, 0, none⟩))])), (fun _ v_ => v_ = (.int .i64 ((cnt c (fun is_x0 => low12B m is_x0))))), (fun _ v_ => v_ = (.pointer (some ⟨bc, 1, none⟩))), (fun _ v_ => v_ = (.int .i64 c.some_)), (fun _ v_ => v_ = (.bool (decide (c.some_ ≤ (cnt c (fun is_x0 => low12B m is_x0)))))), (fun _ v_ => v_ = (.bool (decide (c.some_ ≤ (cnt c (fun is_x0 => low12B m is_x0)))))), (fun _ v_ => v_ = (.bool (decide (c.some_ ≤ (cnt c (fun is_x0 => low12B m is_x0))))))]) (fun _ _ G' w => Cx w0 G0 G' w ∧ Bxs G' w w0.heap.size [] ∧ GLe G G') G (vAt_mono ⟨fun _ _ _ _ h => h, fun _ _ _ _ h => h, fun _ _ _ _ h => h, fun _ _ _ _ h => h, fun _ _ _ _ h => h, fun _ _ _ _ h => h, fun _ _ _ _ h => h, fun _ _ _ _ h => h, fun _ _ _ _ h => h, fun _ _ _ _ h => h, fun _ _ _ _ h => h, fun _ _ _ _ h => h, fun _ _ _ _ h => h, fun _ _ _ _ h => h, fun _ _ _ _ h => h, fun _ _ _ _ h => h, fun _ _ _ _ h => h, fun _ _ _ _ h => h, fun _ _ _ _ h => h, fun _ _ _ _ h => h, fun _ _ _ _ h => h, fun _ _ _ _ h => h, fun _ _ _ _ h => h, fun _ _ _ _ h => h, fun _ _ _ _ h => h, trivial⟩) (fun _ _ => ⟨hC.drew, hB.drew, fun _ _ h => h⟩) ?_ ?_
    ·
     refine dsNone (j := 1) rfl ?_ ?_
     ·
      intro done G w ac_ hd hp hn ⟨hC, hB, hg⟩ hM
      have f2 : ac_.tmps[2]? = some (.pointer (some ⟨b5, 0, none⟩)) := hM.old0 rfl rfl
      have hF := (hM.fr.add f2)
      exact OpVal.draw hF (opFieldAddr rfl fo30_0) ⟨G, fun _ _ h => h, ⟨hC, hB, hg⟩, rfl⟩
     refine dsNone (j := 2) rfl ?_ ?_
     ·
      intro done G w ac_ hd hp hn ⟨hC, hB, hg⟩ hM
      replace hF6 := hF6.mono hg
      have f4 := hM.eqv (s := 4) 0 rfl (hp 0 rfl) rfl rfl
      have hF := (hM.fr.add f4)
      exact OpVal.draw hF (opLoadOne (v := (.int .i64 m.seq)) rfl (RowG.cell hC.holds hF6 (j := 0) (by simp [Mark.cells, Stand.cells])) one3) ⟨G, fun _ _ h => h, ⟨hC, hB, hg⟩, rfl⟩
     refine dsNone (j := 3) rfl ?_ ?_
     ·
      intro done G w ac_ hd hp hn ⟨hC, hB, hg⟩ hM
      have f5 := hM.eqv (s := 5) 1 rfl (hp 1 rfl) rfl rfl
      have hF := (hM.fr.add f5)
      exact OpVal.draw hF (OpVal.cast (opGeq rfl rfl) (congrArg Value.bool h8)) ⟨G, fun _ _ h => h, ⟨hC, hB, hg⟩, rfl⟩
     refine dsNone (j := 4) rfl ?_ ?_
     ·
      intro done G w ac_ hd hp hn ⟨hC, hB, hg⟩ hM
      have f6 := hM.eqv (s := 6) 2 rfl (hp 2 rfl) rfl rfl
      have hF := (hM.fr.add f6)
      exact OpVal.draw hF (opMove rfl) ⟨G, fun _ _ h => h, ⟨hC, hB, hg⟩, rfl⟩
     refine dsOn (j := 5) rfl rfl ?_ ?_
     ·
      intro done G w ac_ hd hp hn ⟨hC, hB, hg⟩ hM
      have f2 : ac_.tmps[2]? = some (.pointer (some ⟨b5, 0, none⟩)) := hM.old0 rfl rfl
      have f7 := hM.eqv (s := 7) 3 rfl (hp 3 rfl) rfl rfl
      refine ⟨f7, ?_⟩
      have hF := (hM.fr.add f2)
      exact OpVal.draw hF (opFieldAddr rfl fo30_0) ⟨G, fun _ _ h => h, ⟨hC, hB, hg⟩, rfl⟩
     refine dsOn (j := 6) rfl rfl ?_ ?_
     ·
      intro done G w ac_ hd hp hn ⟨hC, hB, hg⟩ hM
      replace hF6 := hF6.mono hg
      have f8 := hM.eqv (s := 8) 4 rfl (hp 4 rfl) rfl rfl
      have f7 := hM.eqv (s := 7) 3 rfl (hp 3 rfl) rfl rfl
      refine ⟨f7, ?_⟩
      have hF := (hM.fr.add f8)
      exact OpVal.draw hF (opLoadOne (v := (.int .i64 m.seq)) rfl (RowG.cell hC.holds hF6 (j := 0) (by simp [Mark.cells, Stand.cells])) one3) ⟨G, fun _ _ h => h, ⟨hC, hB, hg⟩, rfl⟩
     refine dsOn (j := 7) rfl rfl ?_ ?_
     ·
      intro done G w ac_ hd hp hn ⟨hC, hB, hg⟩ hM
      have f9 := hM.eqv (s := 9) 5 rfl (hp 5 rfl) rfl rfl
      have f7 := hM.eqv (s := 7) 3 rfl (hp 3 rfl) rfl rfl
      refine ⟨f7, ?_⟩
      have hF := (hM.fr.add f9)
      exact OpVal.draw hF (OpVal.cast (opLeq rfl rfl) (congrArg Value.bool h9)) ⟨G, fun _ _ h => h, ⟨hC, hB, hg⟩, rfl⟩
     refine dsNone (j := 8) rfl ?_ ?_
     ·
      intro done G w ac_ hd hp hn ⟨hC, hB, hg⟩ hM
      have f7 := hM.eqv (s := 7) 3 rfl (hp 3 rfl) rfl rfl
      have f10 := hM.eqv (s := 10) 6 rfl (hp 6 rfl) rfl rfl
      have hF := ((hM.fr.add f7).add f10)
      exact OpVal.draw hF (opPickT rfl rfl) ⟨G, fun _ _ h => h, ⟨hC, hB, hg⟩, rfl⟩
     refine dsNone (j := 9) rfl ?_ ?_
     ·
      intro done G w ac_ hd hp hn ⟨hC, hB, hg⟩ hM
      have f11 := hM.eqv (s := 11) 7 rfl (hp 7 rfl) rfl rfl
      have hF := (hM.fr.add f11)
      exact OpVal.draw hF (opMove rfl) ⟨G, fun _ _ h => h, ⟨hC, hB, hg⟩, rfl⟩
     refine dsOn (j := 10) rfl rfl ?_ ?_
     ·
      intro done G w ac_ hd hp hn ⟨hC, hB, hg⟩ hM
      replace hc := hc.mono hg
      have f1 : ac_.tmps[1]? = some (.pointer (some ⟨bc, 0, none⟩)) := hM.old0 rfl rfl
      have f12 := hM.eqv (s := 12) 8 rfl (hp 8 rfl) rfl rfl
      refine ⟨f12, ?_⟩
      have hF := (hM.fr.add f1)
      exact OpVal.draw hF (opLoadRow (cs := [(.int .i64 c.most), (.int .i64 c.some_), (.slice A3 c.list.length cap4)]) rfl (RowG.range hC.holds (hc.part (i := 0) (m := 3) rfl)) row70 rfl) ⟨G, fun _ _ h => h, ⟨hC, hB, hg⟩, rfl⟩
     refine dsOn (j := 11) rfl rfl ?_ ?_
     ·
      intro done G w ac_ hd hp hn ⟨hC, hB, hg⟩ hM
      have f2 : ac_.tmps[2]? = some (.pointer (some ⟨b5, 0, none⟩)) := hM.old0 rfl rfl
      have f12 := hM.eqv (s := 12) 8 rfl (hp 8 rfl) rfl rfl
      refine ⟨f12, ?_⟩
      have hF := (hM.fr.add f2)
      exact OpVal.draw hF (opMakeFunc (fun a ha => ha.evals (xs := []) rfl) (fun a ha => ha.evals (xs := [.tmp 2]) rfl)) ⟨G, fun _ _ h => h, ⟨hC, hB, hg⟩, rfl⟩
     refine dsOn (j := 12) rfl rfl ?_ ?_
     ·
      intro done G w ac_ hd hp hn ⟨hC, hB, hg⟩ hM
      replace hs2 := hs2.mono hg
      replace hF6 := hF6.mono hg
      have f13 := hM.eqv (s := 13) 9 rfl (hp 9 rfl) rfl rfl
      have f14 := hM.eqv (s := 14) 10 rfl (hp 10 rfl) rfl rfl
      have f12 := hM.eqv (s := 12) 8 rfl (hp 8 rfl) rfl rfl
      refine ⟨f12, ?_⟩
      have hF := ((hM.fr.add f13).add f14)
      exact drawCallS hF rfl co38 rfl (count_ret _ _ hC.holds _ c (Council.mkIs (x := c) hs2) 39 [(.pointer (some ⟨b5, 0, none⟩))] (fun is_x0 => low11B m is_x0) co39 (fun G w cis_x0 is_x0 hg hw hx0 => low11_ret G w hw _ is_x0 hx0 _ m (hF6.mono hg) )) (fun w' hk => ⟨G, fun _ _ h => h, ⟨hC.trans hk, hB.ext hk, hg⟩, rfl⟩)
     refine dsOn (j := 13) rfl rfl ?_ ?_
     ·
      intro done G w ac_ hd hp hn ⟨hC, hB, hg⟩ hM
      have f1 : ac_.tmps[1]? = some (.pointer (some ⟨bc, 0, none⟩)) := hM.old0 rfl rfl
      have f12 := hM.eqv (s := 12) 8 rfl (hp 8 rfl) rfl rfl
      refine ⟨f12, ?_⟩
      have hF := (hM.fr.add f1)
      exact OpVal.draw hF (opFieldAddr rfl fo70_0) ⟨G, fun _ _ h => h, ⟨hC, hB, hg⟩, rfl⟩
     refine dsOn (j := 14) rfl rfl ?_ ?_
     ·
      intro done G w ac_ hd hp hn ⟨hC, hB, hg⟩ hM
      replace hc := hc.mono hg
      have f16 := hM.eqv (s := 16) 12 rfl (hp 12 rfl) rfl rfl
      have f12 := hM.eqv (s := 12) 8 rfl (hp 8 rfl) rfl rfl
      refine ⟨f12, ?_⟩
      have hF := (hM.fr.add f16)
      exact OpVal.draw hF (opLoadOne (v := (.int .i64 c.most)) rfl (RowG.cell hC.holds hc (j := 0) rfl) one3) ⟨G, fun _ _ h => h, ⟨hC, hB, hg⟩, rfl⟩
     refine dsOn (j := 15) rfl rfl ?_ ?_
     ·
      intro done G w ac_ hd hp hn ⟨hC, hB, hg⟩ hM
      have f15 := hM.eqv (s := 15) 11 rfl (hp 11 rfl) rfl rfl
      have f17 := hM.eqv (s := 17) 13 rfl (hp 13 rfl) rfl rfl
      have f12 := hM.eqv (s := 12) 8 rfl (hp 8 rfl) rfl rfl
      refine ⟨f12, ?_⟩
      have hF := ((hM.fr.add f15).add f17)
      exact OpVal.draw hF (OpVal.cast (opGeq rfl rfl) (congrArg Value.bool h10)) ⟨G, fun _ _ h => h, ⟨hC, hB, hg⟩, rfl⟩
     refine dsNone (j := 16) rfl ?_ ?_
     ·
      intro done G w ac_ hd hp hn ⟨hC, hB, hg⟩ hM
      have f12 := hM.eqv (s := 12) 8 rfl (hp 8 rfl) rfl rfl
      have f18 := hM.eqv (s := 18) 14 rfl (hp 14 rfl) rfl rfl
      have hF := ((hM.fr.add f12).add f18)
      exact OpVal.draw hF (opPickT rfl rfl) ⟨G, fun _ _ h => h, ⟨hC, hB, hg⟩, rfl⟩
     refine dsNone (j := 17) rfl ?_ ?_
     ·
      intro done G w ac_ hd hp hn ⟨hC, hB, hg⟩ hM
      have f19 := hM.eqv (s := 19) 15 rfl (hp 15 rfl) rfl rfl
      have hF := (hM.fr.add f19)
      exact OpVal.draw hF (opMove rfl) ⟨G, fun _ _ h => h, ⟨hC, hB, hg⟩, rfl⟩
     refine dsOn (j := 18) rfl rfl ?_ ?_
     ·
      intro done G w ac_ hd hp hn ⟨hC, hB, hg⟩ hM
      replace hc := hc.mono hg
      have f1 : ac_.tmps[1]? = some (.pointer (some ⟨bc, 0, none⟩)) := hM.old0 rfl rfl
      have f20 := hM.eqv (s := 20) 16 rfl (hp 16 rfl) rfl rfl
      refine ⟨f20, ?_⟩
      have hF := (hM.fr.add f1)
      exact OpVal.draw hF (opLoadRow (cs := [(.int .i64 c.most), (.int .i64 c.some_), (.slice A3 c.list.length cap4)]) rfl (RowG.range hC.holds (hc.part (i := 0) (m := 3) rfl)) row70 rfl) ⟨G, fun _ _ h => h, ⟨hC, hB, hg⟩, rfl⟩
     refine dsOn (j := 19) rfl rfl ?_ ?_
     ·
      intro done G w ac_ hd hp hn ⟨hC, hB, hg⟩ hM
      have f2 : ac_.tmps[2]? = some (.pointer (some ⟨b5, 0, none⟩)) := hM.old0 rfl rfl
      have f20 := hM.eqv (s := 20) 16 rfl (hp 16 rfl) rfl rfl
      refine ⟨f20, ?_⟩
      have hF := (hM.fr.add f2)
      exact OpVal.draw hF (opMakeFunc (fun a ha => ha.evals (xs := []) rfl) (fun a ha => ha.evals (xs := [.tmp 2]) rfl)) ⟨G, fun _ _ h => h, ⟨hC, hB, hg⟩, rfl⟩
     refine dsOn (j := 20) rfl rfl ?_ ?_
     ·
      intro done G w ac_ hd hp hn ⟨hC, hB, hg⟩ hM
      replace hs2 := hs2.mono hg
      replace hF6 := hF6.mono hg
      have f21 := hM.eqv (s := 21) 17 rfl (hp 17 rfl) rfl rfl
      have f22 := hM.eqv (s := 22) 18 rfl (hp 18 rfl) rfl rfl
      have f20 := hM.eqv (s := 20) 16 rfl (hp 16 rfl) rfl rfl
      refine ⟨f20, ?_⟩
      have hF := ((hM.fr.add f21).add f22)
      exact drawCallS hF rfl co38 rfl (count_ret _ _ hC.holds _ c (Council.mkIs (x := c) hs2) 40 [(.pointer (some ⟨b5, 0, none⟩))] (fun is_x0 => low12B m is_x0) co40 (fun G w cis_x0 is_x0 hg hw hx0 => low12_ret G w hw _ is_x0 hx0 _ m (hF6.mono hg) )) (fun w' hk => ⟨G, fun _ _ h => h, ⟨hC.trans hk, hB.ext hk, hg⟩, rfl⟩)
     refine dsOn (j := 21) rfl rfl ?_ ?_
     ·
      intro done G w ac_ hd hp hn ⟨hC, hB, hg⟩ hM
      have f1 : ac_.tmps[1]? = some (.pointer (some ⟨bc, 0, none⟩)) := hM.old0 rfl rfl
      have f20 := hM.eqv (s := 20) 16 rfl (hp 16 rfl) rfl rfl
      refine ⟨f20, ?_⟩
      have hF := (hM.fr.add f1)
      exact OpVal.draw hF (opFieldAddr rfl fo70_1) ⟨G, fun _ _ h => h, ⟨hC, hB, hg⟩, rfl⟩
     refine dsOn (j := 22) rfl rfl ?_ ?_
     ·
      intro done G w ac_ hd hp hn ⟨hC, hB, hg⟩ hM
      replace hc := hc.mono hg
      have f24 := hM.eqv (s := 24) 20 rfl (hp 20 rfl) rfl rfl
      have f20 := hM.eqv (s := 20) 16 rfl (hp 16 rfl) rfl rfl
      refine ⟨f20, ?_⟩
      have hF := (hM.fr.add f24)
      exact OpVal.draw hF (opLoadOne (v := (.int .i64 c.some_)) rfl (RowG.cell hC.holds hc (j := 1) rfl) one3) ⟨G, fun _ _ h => h, ⟨hC, hB, hg⟩, rfl⟩
     refine dsOn (j := 23) rfl rfl ?_ ?_
     ·
      intro done G w ac_ hd hp hn ⟨hC, hB, hg⟩ hM
      have f23 := hM.eqv (s := 23) 19 rfl (hp 19 rfl) rfl rfl
      have f25 := hM.eqv (s := 25) 21 rfl (hp 21 rfl) rfl rfl
      have f20 := hM.eqv (s := 20) 16 rfl (hp 16 rfl) rfl rfl
      refine ⟨f20, ?_⟩
      have hF := ((hM.fr.add f23).add f25)
      exact OpVal.draw hF (opGeq rfl rfl) ⟨G, fun _ _ h => h, ⟨hC, hB, hg⟩, rfl⟩
     refine dsNone (j := 24) rfl ?_ ?_
     ·
      intro done G w ac_ hd hp hn ⟨hC, hB, hg⟩ hM
      have f20 := hM.eqv (s := 20) 16 rfl (hp 16 rfl) rfl rfl
      have f26 := hM.eqv (s := 26) 22 rfl (hp 22 rfl) rfl rfl
      have hF := ((hM.fr.add f20).add f26)
      exact OpVal.draw hF (opPickT rfl rfl) ⟨G, fun _ _ h => h, ⟨hC, hB, hg⟩, rfl⟩
     refine dsNone (j := 25) rfl ?_ ?_
     ·
      intro done G w ac_ hd hp hn ⟨hC, hB, hg⟩ hM
      have f27 := hM.eqv (s := 27) 23 rfl (hp 23 rfl) rfl rfl
      have hF := (hM.fr.add f27)
      exact OpVal.draw hF (opAssign rfl) ⟨G, fun _ _ h => h, ⟨hC, hB, hg⟩, rfl⟩
     exact dsNil
    ·
     intro done G w ac_ hall ⟨hC, hB, hg⟩ hM
     have f3 := hM.eqv (s := 3) 24 rfl (hall 24 (by decide)) rfl rfl
     refine ⟨(Env.nil.put 3 (.bool (decide (c.some_ ≤ (cnt c (fun is_x0 => low12B m is_x0)))))), (hM.fr.add f3), ?_⟩
     clear hM hall
     refine wcOf ?_
     refine wcRet ?_
     exact fun ac_ ha => hQ _ _ _ (results1 ha rfl rfl) ha.df (endS hC hw (by simp [lowMayB, h8, h9, h10]))

theorem at31_ret (G0 : Gh) (w0 : World) (hw : Holds G0 w0) (y : Stand) (bsq : Nat) (sq : Int) (hsq : RowG G0 bsq 0 [.int .i64 sq]) :
  RetS Try.prog 53 #[.agg y.cells.toArray, .pointer (some ⟨bsq, 0, none⟩)] G0 w0 (.bool ((y.seq == sq))) := by
 have hC := Cx.refl hw
 have hB : Bxs G0 w0 w0.heap.size [] := Bxs.nil _ _ _
 refine callsOf Try.func53 rfl _ Try.ntmps53 rfl _ (argsCons (argsCons argsNil (t := 0) rfl) (t := 1) rfl) ?_; intro Q0 hQ
 refine wcSeq (wcRegion ?_)
 refine wlBox (cs := y.cells) hC hB rfl rfl rfl ?_; intro b1 w hk hC hB
 refine wlVal (opAssign rfl) rfl ?_
 refine wlThen (wcSeq (wcRegion ?_))
 refine wlVal (opFieldAddr rfl fo58_0) rfl ?_
 refine wlVal (opLoadOne (v := (.int .i64 y.seq)) rfl (hB.cell (i := 0) rfl (by simp [Mark.cells, Stand.cells])) one3) rfl ?_
 refine wlVal (opLoadOne (v := (.int .i64 sq)) rfl (RowG.cell hC.holds hsq (j := 0) rfl) one3) rfl ?_
 refine wlVal (opEql rfl rfl) rfl ?_
 refine wlVal (opAssign rfl) rfl ?_
 refine wlThen ?_
 refine wcRet ?_
 exact fun ac_ ha => hQ _ _ _ (results1 ha rfl rfl) ha.df (endS hC hw rfl)

theorem at3_ret (G0 : Gh) (w0 : World) (hw : Holds G0 w0) (csx : List Value) (x : Change) (hx : Rp.Is G0 csx x) (bsq : Nat) (sq : Int) (hsq : RowG G0 bsq 0 [.int .i64 sq]) :
  RetS Try.prog 51 #[.agg csx.toArray, .pointer (some ⟨bsq, 0, none⟩)] G0 w0 (.bool (at3B sq x)) := by
 have hC := Cx.refl hw
 have hB : Bxs G0 w0 w0.heap.size [] := Bxs.nil _ _ _
 obtain ⟨v1, v3, v5, rfl, hs2, hs4, hs6⟩ := Change.opIs hx
 obtain ⟨A7, cap8, rfl⟩ := hs2.form
 obtain ⟨A9, cap10, rfl⟩ := hs4.form
 obtain ⟨A11, cap12, rfl⟩ := hs6.form
 refine callsOf Try.func51 rfl _ Try.ntmps51 rfl _ (argsCons (argsCons argsNil (t := 0) rfl) (t := 1) rfl) ?_; intro Q0 hQ
 refine wcSeq (wcRegion ?_)
 refine wlBox (cs := [(.int .i64 x.node), (.int .i64 x.view), (.int .i64 x.low), (.slice A7 x.marks.length cap8), (.slice A9 x.p.length cap10), (.slice A11 x.q.length cap12)]) hC hB rfl rfl rfl ?_; intro b13 w hk hC hB
 refine wlVal (opAssign rfl) rfl ?_
 refine wlThen (wcSeq (wcRegion ?_))
 refine wlVal (opFieldAddr rfl fo49_2) rfl ?_
 refine wlVal (opLoadOne (v := (.int .i64 x.low)) rfl (hB.cell (i := 0) rfl rfl) one3) rfl ?_
 refine wlVal (opLoadOne (v := (.int .i64 sq)) rfl (RowG.cell hC.holds hsq (j := 0) rfl) one3) rfl ?_
 refine wlVal (opLss rfl rfl) rfl ?_
 refine wlVal (opMove rfl) rfl ?_
 cases h14 : decide (x.low < sq)
 ·
  skip
  refine wlOff rfl rfl rfl rfl ?_
  refine wlOff rfl rfl rfl rfl ?_
  refine wlOff rfl rfl rfl rfl ?_
  refine wlOff rfl rfl rfl rfl ?_
  refine wlOff rfl rfl rfl rfl ?_
  refine wlVal (opPickF rfl rfl) rfl ?_
  refine wlVal (opAssign rfl) rfl ?_
  refine wlThen ?_
  refine wcRet ?_
  exact fun ac_ ha => hQ _ _ _ (results1 ha rfl rfl) ha.df (endS hC hw (by simp [at3B, h14]))
 ·
  skip
  refine wlOn rfl rfl ?_
  refine wlVal (opFieldAddr rfl fo49_4) rfl ?_
  refine wlOn rfl rfl ?_
  refine wlVal (opLoadOne (v := (.slice A9 x.p.length cap10)) rfl (hB.cell (i := 0) rfl rfl) one47) rfl ?_
  refine wlOn rfl rfl ?_
  refine wlVal (opMakeFunc (fun a ha => ha.evals (xs := []) rfl) (fun a ha => ha.evals (xs := [.tmp 1]) rfl)) rfl ?_
  refine wlOn rfl rfl ?_
  refine wlCallS hC hB rfl co52 rfl rfl (conS_ret _ _ hC.holds _ x.p hs4 53 [(.pointer (some ⟨bsq, 0, none⟩))] (fun f_x0 => (f_x0.seq == sq)) co53 (fun G w f_x0 hg hw  => at31_ret G w hw f_x0 _ sq (hsq.mono hg) )) ?_; intro w hk hC hB
  refine wlOn rfl rfl ?_
  refine wlVal (opNot rfl) rfl ?_
  refine wlVal (opPickT rfl rfl) rfl ?_
  refine wlVal (opAssign rfl) rfl ?_
  refine wlThen ?_
  refine wcRet ?_
  exact fun ac_ ha => hQ _ _ _ (results1 ha rfl rfl) ha.df (endS hC hw (by simp [at3B, h14]))

theorem st11_ret (G0 : Gh) (w0 : World) (hw : Holds G0 w0) (y : Stand) (bm : Nat) (m : Stand) (hm : RowG G0 bm 0 m.cells) :
  RetS Try.prog 66 #[.agg y.cells.toArray, .pointer (some ⟨bm, 0, none⟩)] G0 w0 (.bool (st11B m y)) := by
 have hC := Cx.refl hw
 have hB : Bxs G0 w0 w0.heap.size [] := Bxs.nil _ _ _
 refine callsOf Try.func66 rfl _ Try.ntmps66 rfl _ (argsCons (argsCons argsNil (t := 0) rfl) (t := 1) rfl) ?_; intro Q0 hQ
 refine wcSeq (wcRegion ?_)
 refine wlBox (cs := y.cells) hC hB rfl rfl rfl ?_; intro b1 w hk hC hB
 refine wlVal (opAssign rfl) rfl ?_
 refine wlThen (wcSeq (wcRegion ?_))
 refine wlVal (opFieldAddr rfl fo58_0) rfl ?_
 refine wlVal (opLoadOne (v := (.int .i64 y.seq)) rfl (hB.cell (i := 0) rfl (by simp [Mark.cells, Stand.cells])) one3) rfl ?_
 refine wlVal (opFieldAddr rfl fo58_0) rfl ?_
 refine wlVal (opLoadOne (v := (.int .i64 m.seq)) rfl (RowG.cell hC.holds hm (j := 0) (by simp [Mark.cells, Stand.cells])) one3) rfl ?_
 refine wlVal (opEql rfl rfl) rfl ?_
 refine wlVal (opMove rfl) rfl ?_
 cases h2 : y.seq == m.seq
 ·
  skip
  refine wlOff rfl rfl rfl rfl ?_
  refine wlOff rfl rfl rfl rfl ?_
  refine wlOff rfl rfl rfl rfl ?_
  refine wlOff rfl rfl rfl rfl ?_
  refine wlOff rfl rfl rfl rfl ?_
  refine wlVal (opPickF rfl rfl) rfl ?_
  refine wlVal (opMove rfl) rfl ?_
  refine wlOff rfl rfl rfl rfl ?_
  refine wlOff rfl rfl rfl rfl ?_
  refine wlOff rfl rfl rfl rfl ?_
  refine wlVal (opPickF rfl rfl) rfl ?_
  refine wlVal (opAssign rfl) rfl ?_
  refine wlThen ?_
  refine wcRet ?_
  exact fun ac_ ha => hQ _ _ _ (results1 ha rfl rfl) ha.df (endS hC hw (by simp [st11B, h2]))
 ·
  skip
  refine wlOn rfl rfl ?_
  refine wlVal (opFieldAddr rfl fo58_2) rfl ?_
  refine wlOn rfl rfl ?_
  refine wlVal (opLoadOne (v := (.int .i64 y.view)) rfl (hB.cell (i := 0) rfl (by simp [Mark.cells, Stand.cells])) one3) rfl ?_
  refine wlOn rfl rfl ?_
  refine wlVal (opFieldAddr rfl fo58_2) rfl ?_
  refine wlOn rfl rfl ?_
  refine wlVal (opLoadOne (v := (.int .i64 m.view)) rfl (RowG.cell hC.holds hm (j := 33) (by simp [Mark.cells, Stand.cells])) one3) rfl ?_
  refine wlOn rfl rfl ?_
  refine wlVal (opGeq rfl rfl) rfl ?_
  refine wlVal (opPickT rfl rfl) rfl ?_
  refine wlVal (opMove rfl) rfl ?_
  cases h3 : decide (m.view ≤ y.view)
  ·
   skip
   refine wlOff rfl rfl rfl rfl ?_
   refine wlOff rfl rfl rfl rfl ?_
   refine wlOff rfl rfl rfl rfl ?_
   refine wlVal (opPickF rfl rfl) rfl ?_
   refine wlVal (opAssign rfl) rfl ?_
   refine wlThen ?_
   refine wcRet ?_
   exact fun ac_ ha => hQ _ _ _ (results1 ha rfl rfl) ha.df (endS hC hw (by simp [st11B, h2, h3]))
  ·
   skip
   refine wlOn rfl rfl ?_
   refine wlVal (opLoadRow (cs := y.cells) rfl (hB.range (i := 0) (m := 34) rfl (by simp [Mark.cells, Stand.cells])) row58 (by simp [Mark.cells, Stand.cells])) rfl ?_
   refine wlOn rfl rfl ?_
   refine wlVal (opLoadRow (cs := m.cells) rfl (RowG.range hC.holds (hm.part (i := 0) (m := 34) (by simp [Mark.cells, Stand.cells]))) row58 (by simp [Mark.cells, Stand.cells])) rfl ?_
   refine wlOn rfl rfl ?_
   refine wlVal (opNeRow (eq58 _ y m) eg58 rfl rfl) rfl ?_
   refine wlVal (opPickT rfl rfl) rfl ?_
   refine wlVal (opAssign rfl) rfl ?_
   refine wlThen ?_
   refine wcRet ?_
   exact fun ac_ ha => hQ _ _ _ (results1 ha rfl rfl) ha.df (endS hC hw (by simp [st11B, h2, h3]))

theorem st1_ret (G0 : Gh) (w0 : World) (hw : Holds G0 w0) (csx : List Value) (x : Change) (hx : Rp.Is G0 csx x) (bm : Nat) (m : Stand) (hm : RowG G0 bm 0 m.cells) :
  RetS Try.prog 65 #[.agg csx.toArray, .pointer (some ⟨bm, 0, none⟩)] G0 w0 (.bool (st1B m x)) := by
 have hC := Cx.refl hw
 have hB : Bxs G0 w0 w0.heap.size [] := Bxs.nil _ _ _
 obtain ⟨v1, v3, v5, rfl, hs2, hs4, hs6⟩ := Change.opIs hx
 obtain ⟨A7, cap8, rfl⟩ := hs2.form
 obtain ⟨A9, cap10, rfl⟩ := hs4.form
 obtain ⟨A11, cap12, rfl⟩ := hs6.form
 refine callsOf Try.func65 rfl _ Try.ntmps65 rfl _ (argsCons (argsCons argsNil (t := 0) rfl) (t := 1) rfl) ?_; intro Q0 hQ
 refine wcSeq (wcRegion ?_)
 refine wlBox (cs := [(.int .i64 x.node), (.int .i64 x.view), (.int .i64 x.low), (.slice A7 x.marks.length cap8), (.slice A9 x.p.length cap10), (.slice A11 x.q.length cap12)]) hC hB rfl rfl rfl ?_; intro b13 w hk hC hB
 refine wlVal (opAssign rfl) rfl ?_
 refine wlThen (wcSeq (wcRegion ?_))
 refine wlVal (opFieldAddr rfl fo49_2) rfl ?_
 refine wlVal (opLoadOne (v := (.int .i64 x.low)) rfl (hB.cell (i := 0) rfl rfl) one3) rfl ?_
 refine wlVal (opFieldAddr rfl fo58_0) rfl ?_
 refine wlVal (opLoadOne (v := (.int .i64 m.seq)) rfl (RowG.cell hC.holds hm (j := 0) (by simp [Mark.cells, Stand.cells])) one3) rfl ?_
 refine wlVal (opLss rfl rfl) rfl ?_
 refine wlVal (opMove rfl) rfl ?_
 cases h14 : decide (x.low < m.seq)
 ·
  skip
  refine wlOff rfl rfl rfl rfl ?_
  refine wlOff rfl rfl rfl rfl ?_
  refine wlOff rfl rfl rfl rfl ?_
  refine wlOff rfl rfl rfl rfl ?_
  refine wlOff rfl rfl rfl rfl ?_
  refine wlVal (opPickF rfl rfl) rfl ?_
  refine wlVal (opAssign rfl) rfl ?_
  refine wlThen ?_
  refine wcRet ?_
  exact fun ac_ ha => hQ _ _ _ (results1 ha rfl rfl) ha.df (endS hC hw (by simp [st1B, h14]))
 ·
  skip
  refine wlOn rfl rfl ?_
  refine wlVal (opFieldAddr rfl fo49_4) rfl ?_
  refine wlOn rfl rfl ?_
  refine wlVal (opLoadOne (v := (.slice A9 x.p.length cap10)) rfl (hB.cell (i := 0) rfl rfl) one47) rfl ?_
  refine wlOn rfl rfl ?_
  refine wlVal (opMakeFunc (fun a ha => ha.evals (xs := []) rfl) (fun a ha => ha.evals (xs := [.tmp 1]) rfl)) rfl ?_
  refine wlOn rfl rfl ?_
  refine wlCallS hC hB rfl co52 rfl rfl (conS_ret _ _ hC.holds _ x.p hs4 66 [(.pointer (some ⟨bm, 0, none⟩))] (fun f_x0 => st11B m f_x0) co66 (fun G w f_x0 hg hw  => st11_ret G w hw f_x0 _ m (hm.mono hg) )) ?_; intro w hk hC hB
  refine wlOn rfl rfl ?_
  refine wlVal (opNot rfl) rfl ?_
  refine wlVal (opPickT rfl rfl) rfl ?_
  refine wlVal (opAssign rfl) rfl ?_
  refine wlThen ?_
  refine wcRet ?_
  exact fun ac_ ha => hQ _ _ _ (results1 ha rfl rfl) ha.df (endS hC hw (by simp [st1B, h14]))

theorem st21_ret (G0 : Gh) (w0 : World) (hw : Holds G0 w0) (y : Stand) (bm : Nat) (m : Stand) (hm : RowG G0 bm 0 m.cells) :
  RetS Try.prog 68 #[.agg y.cells.toArray, .pointer (some ⟨bm, 0, none⟩)] G0 w0 (.bool (st21B m y)) := by
 have hC := Cx.refl hw
 have hB : Bxs G0 w0 w0.heap.size [] := Bxs.nil _ _ _
 refine callsOf Try.func68 rfl _ Try.ntmps68 rfl _ (argsCons (argsCons argsNil (t := 0) rfl) (t := 1) rfl) ?_; intro Q0 hQ
 refine wcSeq (wcRegion ?_)
 refine wlBox (cs := y.cells) hC hB rfl rfl rfl ?_; intro b1 w hk hC hB
 refine wlVal (opAssign rfl) rfl ?_
 refine wlThen (wcSeq (wcRegion ?_))
 refine wlVal (opFieldAddr rfl fo58_0) rfl ?_
 refine wlVal (opLoadOne (v := (.int .i64 y.seq)) rfl (hB.cell (i := 0) rfl (by simp [Mark.cells, Stand.cells])) one3) rfl ?_
 refine wlVal (opFieldAddr rfl fo58_0) rfl ?_
 refine wlVal (opLoadOne (v := (.int .i64 m.seq)) rfl (RowG.cell hC.holds hm (j := 0) (by simp [Mark.cells, Stand.cells])) one3) rfl ?_
 refine wlVal (opEql rfl rfl) rfl ?_
 refine wlVal (opMove rfl) rfl ?_
 cases h2 : y.seq == m.seq
 ·
  skip
  refine wlOff rfl rfl rfl rfl ?_
  refine wlOff rfl rfl rfl rfl ?_
  refine wlOff rfl rfl rfl rfl ?_
  refine wlOff rfl rfl rfl rfl ?_
  refine wlOff rfl rfl rfl rfl ?_
  refine wlVal (opPickF rfl rfl) rfl ?_
  refine wlVal (opMove rfl) rfl ?_
  refine wlOff rfl rfl rfl rfl ?_
  refine wlOff rfl rfl rfl rfl ?_
  refine wlOff rfl rfl rfl rfl ?_
  refine wlOff rfl rfl rfl rfl ?_
  refine wlOff rfl rfl rfl rfl ?_
  refine wlVal (opPickF rfl rfl) rfl ?_
  refine wlVal (opAssign rfl) rfl ?_
  refine wlThen ?_
  refine wcRet ?_
  exact fun ac_ ha => hQ _ _ _ (results1 ha rfl rfl) ha.df (endS hC hw (by simp [st21B, h2]))
 ·
  skip
  refine wlOn rfl rfl ?_
  refine wlVal (opFieldAddr rfl fo58_1) rfl ?_
  refine wlOn rfl rfl ?_
  refine wlVal (opLoadRow (cs := y.dig.cells) rfl (hB.range (i := 0) (m := 32) rfl (by simp [Mark.cells, Stand.cells])) row28 (by simp [Mark.cells, Stand.cells])) rfl ?_
  refine wlOn rfl rfl ?_
  refine wlVal (opFieldAddr rfl fo58_1) rfl ?_
  refine wlOn rfl rfl ?_
  refine wlVal (opLoadRow (cs := m.dig.cells) rfl (RowG.range hC.holds (hm.part (i := 1) (m := 32) (by simp [Mark.cells, Stand.cells]))) row28 (by simp [Mark.cells, Stand.cells])) rfl ?_
  refine wlOn rfl rfl ?_
  refine wlVal (opEqRow (eq28 _ y.dig m.dig) eg28 rfl rfl) rfl ?_
  refine wlVal (opPickT rfl rfl) rfl ?_
  refine wlVal (opMove rfl) rfl ?_
  cases h3 : decide (y.dig = m.dig)
  ·
   skip
   refine wlOff rfl rfl rfl rfl ?_
   refine wlOff rfl rfl rfl rfl ?_
   refine wlOff rfl rfl rfl rfl ?_
   refine wlOff rfl rfl rfl rfl ?_
   refine wlOff rfl rfl rfl rfl ?_
   refine wlVal (opPickF rfl rfl) rfl ?_
   refine wlVal (opAssign rfl) rfl ?_
   refine wlThen ?_
   refine wcRet ?_
   exact fun ac_ ha => hQ _ _ _ (results1 ha rfl rfl) ha.df (endS hC hw (by simp [st21B, h2, h3]))
  ·
   skip
   refine wlOn rfl rfl ?_
   refine wlVal (opFieldAddr rfl fo58_2) rfl ?_
   refine wlOn rfl rfl ?_
   refine wlVal (opLoadOne (v := (.int .i64 y.view)) rfl (hB.cell (i := 0) rfl (by simp [Mark.cells, Stand.cells])) one3) rfl ?_
   refine wlOn rfl rfl ?_
   refine wlVal (opFieldAddr rfl fo58_2) rfl ?_
   refine wlOn rfl rfl ?_
   refine wlVal (opLoadOne (v := (.int .i64 m.view)) rfl (RowG.cell hC.holds hm (j := 33) (by simp [Mark.cells, Stand.cells])) one3) rfl ?_
   refine wlOn rfl rfl ?_
   refine wlVal (opGeq rfl rfl) rfl ?_
   refine wlVal (opPickT rfl rfl) rfl ?_
   refine wlVal (opAssign rfl) rfl ?_
   refine wlThen ?_
   refine wcRet ?_
   exact fun ac_ ha => hQ _ _ _ (results1 ha rfl rfl) ha.df (endS hC hw (by simp [st21B, h2, h3]))

theorem st2_ret (G0 : Gh) (w0 : World) (hw : Holds G0 w0) (csx : List Value) (x : Change) (hx : Rp.Is G0 csx x) (bm : Nat) (m : Stand) (hm : RowG G0 bm 0 m.cells) :
  RetS Try.prog 67 #[.agg csx.toArray, .pointer (some ⟨bm, 0, none⟩)] G0 w0 (.bool (st2B m x)) := by
 have hC := Cx.refl hw
 have hB : Bxs G0 w0 w0.heap.size [] := Bxs.nil _ _ _
 obtain ⟨v1, v3, v5, rfl, hs2, hs4, hs6⟩ := Change.opIs hx
 obtain ⟨A7, cap8, rfl⟩ := hs2.form
 obtain ⟨A9, cap10, rfl⟩ := hs4.form
 obtain ⟨A11, cap12, rfl⟩ := hs6.form
 refine callsOf Try.func67 rfl _ Try.ntmps67 rfl _ (argsCons (argsCons argsNil (t := 0) rfl) (t := 1) rfl) ?_; intro Q0 hQ
 refine wcSeq (wcRegion ?_)
 refine wlBox (cs := [(.int .i64 x.node), (.int .i64 x.view), (.int .i64 x.low), (.slice A7 x.marks.length cap8), (.slice A9 x.p.length cap10), (.slice A11 x.q.length cap12)]) hC hB rfl rfl rfl ?_; intro b13 w hk hC hB
 refine wlVal (opAssign rfl) rfl ?_
 refine wlThen (wcSeq (wcRegion ?_))
 refine wlVal (opFieldAddr rfl fo49_5) rfl ?_
 refine wlVal (opLoadOne (v := (.slice A11 x.q.length cap12)) rfl (hB.cell (i := 0) rfl rfl) one47) rfl ?_
 refine wlVal (opMakeFunc (fun a ha => ha.evals (xs := []) rfl) (fun a ha => ha.evals (xs := [.tmp 1]) rfl)) rfl ?_
 refine wlCallS hC hB rfl co52 rfl rfl (conS_ret _ _ hC.holds _ x.q hs6 68 [(.pointer (some ⟨bm, 0, none⟩))] (fun f_x0 => st21B m f_x0) co68 (fun G w f_x0 hg hw  => st21_ret G w hw f_x0 _ m (hm.mono hg) )) ?_; intro w hk hC hB
 refine wlVal (opAssign rfl) rfl ?_
 refine wlThen ?_
 refine wcRet ?_
 exact fun ac_ ha => hQ _ _ _ (results1 ha rfl rfl) ha.df (endS hC hw rfl)

end Go.Proofs.Ytbhkoipmojdkhaa
