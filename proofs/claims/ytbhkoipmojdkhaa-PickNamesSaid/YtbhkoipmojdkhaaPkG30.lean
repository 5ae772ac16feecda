/- What functions of the pick seat return, part 30. No condition. -/
import Derived.Test.YtbhkoipmojdkhaaPkG29
import Derived.Test.YtbhkoipmojdkhaaGxFour
set_option linter.all false
namespace Go.Proofs.Ytbhkoipmojdkhaa
open Go Go.Gx Go.RowKit
theorem names_got : (selI (has (crewI 1)) (crewI 1) [(hasI 1 8 (digI 1) 3 true), (hasI 2 8 (digI 2) 4 true), (hasI 3 8 (digI 2) 4 false), (hasI 4 8 (digI 1) 3 false)]).2.1[7]? = some (Mark.mk 8 (digI 2)) := by kernel_rfl
theorem names_lt : 7 < (selI (has (crewI 1)) (crewI 1) [(hasI 1 8 (digI 1) 3 true), (hasI 2 8 (digI 2) 4 true), (hasI 3 8 (digI 2) 4 false), (hasI 4 8 (digI 1) 3 false)]).2.1.length := (List.getElem?_eq_some_iff.1 names_got).1
theorem elo62 : elemOk Try.prog 62 25 1 24 = true := by kernel_rfl
theorem elo63 : elemOk Try.prog 63 24 2 32 = true := by kernel_rfl
theorem isl62 : isSlice Try.prog 62 = true := by kernel_rfl
theorem cl8_169 : ((((selI (has (((crewI 1)))) (((crewI 1))) ([((hasI 1 8 ((digI ((1 : UInt8)))) 3 true)), ((hasI 2 8 ((digI ((2 : UInt8)))) 4 true)), ((hasI 3 8 ((digI ((2 : UInt8)))) 4 false)), ((hasI 4 8 ((digI ((1 : UInt8)))) 3 false))])).2.2)) == 0) = true := by kernel_rfl
theorem cl8_170 : (((((((selI (has (((crewI 1)))) (((crewI 1))) ([((hasI 1 8 ((digI ((1 : UInt8)))) 3 true)), ((hasI 2 8 ((digI ((2 : UInt8)))) 4 true)), ((hasI 3 8 ((digI ((2 : UInt8)))) 4 false)), ((hasI 4 8 ((digI ((1 : UInt8)))) 3 false))])).2.1)).length : Nat) : Int)) == 8) = true := by kernel_rfl
theorem cl8_171 : decide ((Mark.mk 8 (digI 2)) = (Mark.mk 8 ((digI ((2 : UInt8)))))) = true := by kernel_rfl
theorem cl8_172 : (picksI ([((hasI 1 2 ((digI ((2 : UInt8)))) 3 true)), ((hasI 2 2 ((digI ((1 : UInt8)))) 3 true)), ((hasI 3 2 ((digI ((1 : UInt8)))) 3 false)), ((hasI 4 2 ((digI ((2 : UInt8)))) 3 false))]) baseI ([(Mark.mk 1 Dig.zero), (Mark.mk 2 ((digI ((1 : UInt8)))))])) = true := by kernel_rfl
theorem zero41 : (Try.prog.info? 41).bind (fun i => i.zero.map Value.cells) = some ([(.int .i64 0), (.int .i64 0), (.int .i64 0)] : List Value).toArray := by kernel_rfl
theorem co4 : callOk Try.prog 4 = true := by kernel_rfl
theorem isl63 : isSlice Try.prog 63 = true := by kernel_rfl
theorem slo63 : sliceOk Try.prog 63 24 2 = true := by kernel_rfl
theorem slo62 : sliceOk Try.prog 62 25 1 = true := by kernel_rfl
theorem co3 : callOk Try.prog 3 = true := by kernel_rfl
set_option maxHeartbeats 4000000 in
theorem names_ret (G0 : Gh) (w0 : World) (hw : Holds G0 w0)  :
  RetS Try.prog 8 #[] G0 w0 (.bool true) := by
 have hC := Cx.refl hw
 have hB : Bxs G0 w0 w0.heap.size [] := Bxs.nil _ _ _
 refine callsOf Try.func8 rfl _ Try.ntmps8 rfl _ argsNil ?_; intro Q0 hQ
 refine wcSeq (wcRegion ?_)
 refine wlVal (opAssign rfl) rfl ?_
 refine wlThen (wcSeq (wcRegion ?_))
 refine wlCallS hC hB rfl co16 rfl rfl (digest_ret _ _ hC.holds ((1 : UInt8))) ?_; intro w hk hC hB
 refine wlCallS hC hB rfl co16 rfl rfl (digest_ret _ _ hC.holds ((2 : UInt8))) ?_; intro w hk hC hB
 refine wlAlloc hC hB zero28 rfl ?_; intro b1 w hk hC hB
 refine wlAlloc hC hB zero28 rfl ?_; intro b2 w hk hC hB
 refine wlStore 1 (vs := ((digI ((1 : UInt8)))).cells) (cs := Dig.zero.cells) (cs' := ((digI ((1 : UInt8)))).cells) hC hB rfl rfl rfl sz28 rfl (by simp [Mark.cells, Stand.cells]) (by simp [Mark.cells, Stand.cells, Value.oneCell']) (by simp [Mark.cells, Stand.cells]) (by simp [Mark.cells, Stand.cells]) rfl ?_; intro w hC hB
 refine wlStore 0 (vs := ((digI ((2 : UInt8)))).cells) (cs := Dig.zero.cells) (cs' := ((digI ((2 : UInt8)))).cells) hC hB rfl rfl rfl sz28 rfl (by simp [Mark.cells, Stand.cells]) (by simp [Mark.cells, Stand.cells, Value.oneCell']) (by simp [Mark.cells, Stand.cells]) (by simp [Mark.cells, Stand.cells]) rfl ?_; intro w hC hB
 refine wlThen (wcSeq (wcRegion ?_))
 refine wlCallG hC hB rfl co18 rfl rfl (plain_ret _ _ hC.holds 1) ?_; rintro v5 G w hk hC hB ⟨r3, rfl, hr4⟩
 obtain ⟨v6, v8, v10, rfl, hs7, hs9, hs11⟩ := Change.opIs hr4
 obtain ⟨A12, cap13, rfl⟩ := hs7.form
 obtain ⟨A14, cap15, rfl⟩ := hs9.form
 obtain ⟨A16, cap17, rfl⟩ := hs11.form
 refine wlCallG hC hB rfl co18 rfl rfl (plain_ret _ _ hC.holds 2) ?_; rintro v20 G w hk hC hB ⟨r18, rfl, hr19⟩
 replace hs7 := hs7.mono hk.gle; replace hs9 := hs9.mono hk.gle; replace hs11 := hs11.mono hk.gle
 obtain ⟨v21, v23, v25, rfl, hs22, hs24, hs26⟩ := Change.opIs hr19
 obtain ⟨A27, cap28, rfl⟩ := hs22.form
 obtain ⟨A29, cap30, rfl⟩ := hs24.form
 obtain ⟨A31, cap32, rfl⟩ := hs26.form
 refine wlCallG hC hB rfl co18 rfl rfl (plain_ret _ _ hC.holds 3) ?_; rintro v35 G w hk hC hB ⟨r33, rfl, hr34⟩
 replace hs7 := hs7.mono hk.gle; replace hs9 := hs9.mono hk.gle; replace hs11 := hs11.mono hk.gle; replace hs22 := hs22.mono hk.gle; replace hs24 := hs24.mono hk.gle; replace hs26 := hs26.mono hk.gle
 obtain ⟨v36, v38, v40, rfl, hs37, hs39, hs41⟩ := Change.opIs hr34
 obtain ⟨A42, cap43, rfl⟩ := hs37.form
 obtain ⟨A44, cap45, rfl⟩ := hs39.form
 obtain ⟨A46, cap47, rfl⟩ := hs41.form
 refine wlBuildSlice (α := Change) (ps := [(0, .tmp 22), (1, .tmp 23), (2, .tmp 24)]) (xs := [((plainI 1)), ((plainI 2)), ((plainI 3))]) (rows := [[(.int .i64 (((plainI 1)).node)), (.int .i64 (((plainI 1)).view)), (.int .i64 (((plainI 1)).low)), (.slice A12 ((((plainI 1)).marks).length) cap13), (.slice A14 ((((plainI 1)).p).length) cap15), (.slice A16 ((((plainI 1)).q).length) cap17)], [(.int .i64 (((plainI 2)).node)), (.int .i64 (((plainI 2)).view)), (.int .i64 (((plainI 2)).low)), (.slice A27 ((((plainI 2)).marks).length) cap28), (.slice A29 ((((plainI 2)).p).length) cap30), (.slice A31 ((((plainI 2)).q).length) cap32)], [(.int .i64 (((plainI 3)).node)), (.int .i64 (((plainI 3)).view)), (.int .i64 (((plainI 3)).low)), (.slice A42 ((((plainI 3)).marks).length) cap43), (.slice A44 ((((plainI 3)).p).length) cap45), (.slice A46 ((((plainI 3)).q).length) cap47)]]) elo25 rfl rfl hC hB rfl rfl rfl ⟨(Change.mkIs (x := ((plainI 1))) hs7 hs9 hs11), (Change.mkIs (x := ((plainI 2))) hs22 hs24 hs26), (Change.mkIs (x := ((plainI 3))) hs37 hs39 hs41), trivial⟩ rfl ?_; intro b48 G w hk hC hB hs49
 replace hs7 := hs7.mono hk.gle; replace hs9 := hs9.mono hk.gle; replace hs11 := hs11.mono hk.gle; replace hs22 := hs22.mono hk.gle; replace hs24 := hs24.mono hk.gle; replace hs26 := hs26.mono hk.gle; replace hs37 := hs37.mono hk.gle; replace hs39 := hs39.mono hk.gle; replace hs41 := hs41.mono hk.gle
 refine wlVal (opAssign rfl) rfl ?_
 refine wlThen (wcSeq (wcRegion ?_))
 refine wlCallG hC hB rfl co18 rfl rfl (plain_ret _ _ hC.holds 1) ?_; rintro v52 G w hk hC hB ⟨r50, rfl, hr51⟩
 replace hs7 := hs7.mono hk.gle; replace hs9 := hs9.mono hk.gle; replace hs11 := hs11.mono hk.gle; replace hs22 := hs22.mono hk.gle; replace hs24 := hs24.mono hk.gle; replace hs26 := hs26.mono hk.gle; replace hs37 := hs37.mono hk.gle; replace hs39 := hs39.mono hk.gle; replace hs41 := hs41.mono hk.gle; replace hs49 := hs49.mono hk.gle
 obtain ⟨v53, v55, v57, rfl, hs54, hs56, hs58⟩ := Change.opIs hr51
 obtain ⟨A59, cap60, rfl⟩ := hs54.form
 obtain ⟨A61, cap62, rfl⟩ := hs56.form
 obtain ⟨A63, cap64, rfl⟩ := hs58.form
 refine wlCallG hC hB rfl co18 rfl rfl (plain_ret _ _ hC.holds 2) ?_; rintro v67 G w hk hC hB ⟨r65, rfl, hr66⟩
 replace hs7 := hs7.mono hk.gle; replace hs9 := hs9.mono hk.gle; replace hs11 := hs11.mono hk.gle; replace hs22 := hs22.mono hk.gle; replace hs24 := hs24.mono hk.gle; replace hs26 := hs26.mono hk.gle; replace hs37 := hs37.mono hk.gle; replace hs39 := hs39.mono hk.gle; replace hs41 := hs41.mono hk.gle; replace hs49 := hs49.mono hk.gle; replace hs54 := hs54.mono hk.gle; replace hs56 := hs56.mono hk.gle; replace hs58 := hs58.mono hk.gle
 obtain ⟨v68, v70, v72, rfl, hs69, hs71, hs73⟩ := Change.opIs hr66
 obtain ⟨A74, cap75, rfl⟩ := hs69.form
 obtain ⟨A76, cap77, rfl⟩ := hs71.form
 obtain ⟨A78, cap79, rfl⟩ := hs73.form
 refine wlCallG hC hB rfl co18 rfl rfl (plain_ret _ _ hC.holds 2) ?_; rintro v82 G w hk hC hB ⟨r80, rfl, hr81⟩
 replace hs7 := hs7.mono hk.gle; replace hs9 := hs9.mono hk.gle; replace hs11 := hs11.mono hk.gle; replace hs22 := hs22.mono hk.gle; replace hs24 := hs24.mono hk.gle; replace hs26 := hs26.mono hk.gle; replace hs37 := hs37.mono hk.gle; replace hs39 := hs39.mono hk.gle; replace hs41 := hs41.mono hk.gle; replace hs49 := hs49.mono hk.gle; replace hs54 := hs54.mono hk.gle; replace hs56 := hs56.mono hk.gle; replace hs58 := hs58.mono hk.gle; replace hs69 := hs69.mono hk.gle; replace hs71 := hs71.mono hk.gle; replace hs73 := hs73.mono hk.gle
 obtain ⟨v83, v85, v87, rfl, hs84, hs86, hs88⟩ := Change.opIs hr81
 obtain ⟨A89, cap90, rfl⟩ := hs84.form
 obtain ⟨A91, cap92, rfl⟩ := hs86.form
 obtain ⟨A93, cap94, rfl⟩ := hs88.form
 refine wlBuildSlice (α := Change) (ps := [(0, .tmp 26), (1, .tmp 27), (2, .tmp 28)]) (xs := [((plainI 1)), ((plainI 2)), ((plainI 2))]) (rows := [[(.int .i64 (((plainI 1)).node)), (.int .i64 (((plainI 1)).view)), (.int .i64 (((plainI 1)).low)), (.slice A59 ((((plainI 1)).marks).length) cap60), (.slice A61 ((((plainI 1)).p).length) cap62), (.slice A63 ((((plainI 1)).q).length) cap64)], [(.int .i64 (((plainI 2)).node)), (.int .i64 (((plainI 2)).view)), (.int .i64 (((plainI 2)).low)), (.slice A74 ((((plainI 2)).marks).length) cap75), (.slice A76 ((((plainI 2)).p).length) cap77), (.slice A78 ((((plainI 2)).q).length) cap79)], [(.int .i64 (((plainI 2)).node)), (.int .i64 (((plainI 2)).view)), (.int .i64 (((plainI 2)).low)), (.slice A89 ((((plainI 2)).marks).length) cap90), (.slice A91 ((((plainI 2)).p).length) cap92), (.slice A93 ((((plainI 2)).q).length) cap94)]]) elo25 rfl rfl hC hB rfl rfl rfl ⟨(Change.mkIs (x := ((plainI 1))) hs54 hs56 hs58), (Change.mkIs (x := ((plainI 2))) hs69 hs71 hs73), (Change.mkIs (x := ((plainI 2))) hs84 hs86 hs88), trivial⟩ rfl ?_; intro b95 G w hk hC hB hs96
 replace hs7 := hs7.mono hk.gle; replace hs9 := hs9.mono hk.gle; replace hs11 := hs11.mono hk.gle; replace hs22 := hs22.mono hk.gle; replace hs24 := hs24.mono hk.gle; replace hs26 := hs26.mono hk.gle; replace hs37 := hs37.mono hk.gle; replace hs39 := hs39.mono hk.gle; replace hs41 := hs41.mono hk.gle; replace hs49 := hs49.mono hk.gle; replace hs54 := hs54.mono hk.gle; replace hs56 := hs56.mono hk.gle; replace hs58 := hs58.mono hk.gle; replace hs69 := hs69.mono hk.gle; replace hs71 := hs71.mono hk.gle; replace hs73 := hs73.mono hk.gle; replace hs84 := hs84.mono hk.gle; replace hs86 := hs86.mono hk.gle; replace hs88 := hs88.mono hk.gle
 refine wlVal (opAssign rfl) rfl ?_
 refine wlThen (wcSeq (wcRegion ?_))
 refine wlCallG hC hB rfl co18 rfl rfl (plain_ret _ _ hC.holds 1) ?_; rintro v99 G w hk hC hB ⟨r97, rfl, hr98⟩
 replace hs7 := hs7.mono hk.gle; replace hs9 := hs9.mono hk.gle; replace hs11 := hs11.mono hk.gle; replace hs22 := hs22.mono hk.gle; replace hs24 := hs24.mono hk.gle; replace hs26 := hs26.mono hk.gle; replace hs37 := hs37.mono hk.gle; replace hs39 := hs39.mono hk.gle; replace hs41 := hs41.mono hk.gle; replace hs49 := hs49.mono hk.gle; replace hs54 := hs54.mono hk.gle; replace hs56 := hs56.mono hk.gle; replace hs58 := hs58.mono hk.gle; replace hs69 := hs69.mono hk.gle; replace hs71 := hs71.mono hk.gle; replace hs73 := hs73.mono hk.gle; replace hs84 := hs84.mono hk.gle; replace hs86 := hs86.mono hk.gle; replace hs88 := hs88.mono hk.gle; replace hs96 := hs96.mono hk.gle
 obtain ⟨v100, v102, v104, rfl, hs101, hs103, hs105⟩ := Change.opIs hr98
 obtain ⟨A106, cap107, rfl⟩ := hs101.form
 obtain ⟨A108, cap109, rfl⟩ := hs103.form
 obtain ⟨A110, cap111, rfl⟩ := hs105.form
 refine wlCallG hC hB rfl co18 rfl rfl (plain_ret _ _ hC.holds 2) ?_; rintro v114 G w hk hC hB ⟨r112, rfl, hr113⟩
 replace hs7 := hs7.mono hk.gle; replace hs9 := hs9.mono hk.gle; replace hs11 := hs11.mono hk.gle; replace hs22 := hs22.mono hk.gle; replace hs24 := hs24.mono hk.gle; replace hs26 := hs26.mono hk.gle; replace hs37 := hs37.mono hk.gle; replace hs39 := hs39.mono hk.gle; replace hs41 := hs41.mono hk.gle; replace hs49 := hs49.mono hk.gle; replace hs54 := hs54.mono hk.gle; replace hs56 := hs56.mono hk.gle; replace hs58 := hs58.mono hk.gle; replace hs69 := hs69.mono hk.gle; replace hs71 := hs71.mono hk.gle; replace hs73 := hs73.mono hk.gle; replace hs84 := hs84.mono hk.gle; replace hs86 := hs86.mono hk.gle; replace hs88 := hs88.mono hk.gle; replace hs96 := hs96.mono hk.gle; replace hs101 := hs101.mono hk.gle; replace hs103 := hs103.mono hk.gle; replace hs105 := hs105.mono hk.gle
 obtain ⟨v115, v117, v119, rfl, hs116, hs118, hs120⟩ := Change.opIs hr113
 obtain ⟨A121, cap122, rfl⟩ := hs116.form
 obtain ⟨A123, cap124, rfl⟩ := hs118.form
 obtain ⟨A125, cap126, rfl⟩ := hs120.form
 refine wlCallG hC hB rfl co18 rfl rfl (plain_ret _ _ hC.holds 9) ?_; rintro v129 G w hk hC hB ⟨r127, rfl, hr128⟩
 replace hs7 := hs7.mono hk.gle; replace hs9 := hs9.mono hk.gle; replace hs11 := hs11.mono hk.gle; replace hs22 := hs22.mono hk.gle; replace hs24 := hs24.mono hk.gle; replace hs26 := hs26.mono hk.gle; replace hs37 := hs37.mono hk.gle; replace hs39 := hs39.mono hk.gle; replace hs41 := hs41.mono hk.gle; replace hs49 := hs49.mono hk.gle; replace hs54 := hs54.mono hk.gle; replace hs56 := hs56.mono hk.gle; replace hs58 := hs58.mono hk.gle; replace hs69 := hs69.mono hk.gle; replace hs71 := hs71.mono hk.gle; replace hs73 := hs73.mono hk.gle; replace hs84 := hs84.mono hk.gle; replace hs86 := hs86.mono hk.gle; replace hs88 := hs88.mono hk.gle; replace hs96 := hs96.mono hk.gle; replace hs101 := hs101.mono hk.gle; replace hs103 := hs103.mono hk.gle; replace hs105 := hs105.mono hk.gle; replace hs116 := hs116.mono hk.gle; replace hs118 := hs118.mono hk.gle; replace hs120 := hs120.mono hk.gle
 obtain ⟨v130, v132, v134, rfl, hs131, hs133, hs135⟩ := Change.opIs hr128
 obtain ⟨A136, cap137, rfl⟩ := hs131.form
 obtain ⟨A138, cap139, rfl⟩ := hs133.form
 obtain ⟨A140, cap141, rfl⟩ := hs135.form
 refine wlBuildSlice (α := Change) (ps := [(0, .tmp 30), (1, .tmp 31), (2, .tmp 32)]) (xs := [((plainI 1)), ((plainI 2)), ((plainI 9))]) (rows := [[(.int .i64 (((plainI 1)).node)), (.int .i64 (((plainI 1)).view)), (.int .i64 (((plainI 1)).low)), (.slice A106 ((((plainI 1)).marks).length) cap107), (.slice A108 ((((plainI 1)).p).length) cap109), (.slice A110 ((((plainI 1)).q).length) cap111)], [(.int .i64 (((plainI 2)).node)), (.int .i64 (((plainI 2)).view)), (.int .i64 (((plainI 2)).low)), (.slice A121 ((((plainI 2)).marks).length) cap122), (.slice A123 ((((plainI 2)).p).length) cap124), (.slice A125 ((((plainI 2)).q).length) cap126)], [(.int .i64 (((plainI 9)).node)), (.int .i64 (((plainI 9)).view)), (.int .i64 (((plainI 9)).low)), (.slice A136 ((((plainI 9)).marks).length) cap137), (.slice A138 ((((plainI 9)).p).length) cap139), (.slice A140 ((((plainI 9)).q).length) cap141)]]) elo25 rfl rfl hC hB rfl rfl rfl ⟨(Change.mkIs (x := ((plainI 1))) hs101 hs103 hs105), (Change.mkIs (x := ((plainI 2))) hs116 hs118 hs120), (Change.mkIs (x := ((plainI 9))) hs131 hs133 hs135), trivial⟩ rfl ?_; intro b142 G w hk hC hB hs143
 replace hs7 := hs7.mono hk.gle; replace hs9 := hs9.mono hk.gle; replace hs11 := hs11.mono hk.gle; replace hs22 := hs22.mono hk.gle; replace hs24 := hs24.mono hk.gle; replace hs26 := hs26.mono hk.gle; replace hs37 := hs37.mono hk.gle; replace hs39 := hs39.mono hk.gle; replace hs41 := hs41.mono hk.gle; replace hs49 := hs49.mono hk.gle; replace hs54 := hs54.mono hk.gle; replace hs56 := hs56.mono hk.gle; replace hs58 := hs58.mono hk.gle; replace hs69 := hs69.mono hk.gle; replace hs71 := hs71.mono hk.gle; replace hs73 := hs73.mono hk.gle; replace hs84 := hs84.mono hk.gle; replace hs86 := hs86.mono hk.gle; replace hs88 := hs88.mono hk.gle; replace hs96 := hs96.mono hk.gle; replace hs101 := hs101.mono hk.gle; replace hs103 := hs103.mono hk.gle; replace hs105 := hs105.mono hk.gle; replace hs116 := hs116.mono hk.gle; replace hs118 := hs118.mono hk.gle; replace hs120 := hs120.mono hk.gle; replace hs131 := hs131.mono hk.gle; replace hs133 := hs133.mono hk.gle; replace hs135 := hs135.mono hk.gle
 refine wlVal (opAssign rfl) rfl ?_
 refine wlThen (wcSeq ?_)
 refine wcDraw fmix (by kernel_rfl) (by kernel_rfl) (vAt [(fun _ v_ => v_ = ((.agg ((digI ((1 : UInt8)))).cells.toArray) : Value)), ((fun G v => ∃ (c0 : List Value), v = (.agg c0.toArray) ∧ Rp.Is G c0 ((hasI 1 8 ((digI ((1 : UInt8)))) 3 true)))), (fun _ v_ => v_ = ((.agg ((digI ((2 : UInt8)))).cells.toArray) : Value)), ((fun G v => ∃ (c0 : List Value), v = (.agg c0.toArray) ∧ Rp.Is G c0 ((hasI 2 8 ((digI ((2 : UInt8)))) 4 true)))), (fun _ v_ => v_ = ((.agg ((digI ((2 : UInt8)))).cells.toArray) : Value)), ((fun G v => ∃ (c0 : List Value), v = (.agg c0.toArray) ∧ Rp.Is G c0 ((hasI 3 8 ((digI ((2 : UInt8)))) 4 false)))), (fun _ v_ => v_ = ((.agg ((digI ((1 : UInt8)))).cells.toArray) : Value)), ((fun G v => ∃ (c0 : List Value), v = (.agg c0.toArray) ∧ Rp.Is G c0 ((hasI 4 8 ((digI ((1 : UInt8)))) 3 false)))), (fun G v => ∃ bb_, v = .slice (some ⟨bb_, 0, none⟩) 4 4 ∧ Sl G v ([((hasI 1 8 ((digI ((1 : UInt8)))) 3 true)), ((hasI 2 8 ((digI ((2 : UInt8)))) 4 true)), ((hasI 3 8 ((digI ((2 : UInt8)))) 4 false)), ((hasI 4 8 ((digI ((1 : UInt8)))) 3 false))] : List Change)), (fun G v => ∃ bb_, v = .slice (some ⟨bb_, 0, none⟩) 4 4 ∧ Sl G v ([((hasI 1 8 ((digI ((1 : UInt8)))) 3 true)), ((hasI 2 8 ((digI ((2 : UInt8)))) 4 true)), ((hasI 3 8 ((digI ((2 : UInt8)))) 4 false)), ((hasI 4 8 ((digI ((1 : UInt8)))) 3 false))] : List Change))]) (fun _ _ G' w => Cx w0 G0 G' w ∧ Bxs G' w w0.heap.size [(b2, 28, ((digI ((2 : UInt8)))).cells), (b1, 28, ((digI ((1 : UInt8)))).cells)] ∧ GLe G G') G (vAt_mono ⟨fun _ _ _ _ h => h, fun _ _ _ hg => fun ⟨r144, e, hr145⟩ => ⟨r144, e, Rp.mono hg hr145⟩, fun _ _ _ _ h => h, fun _ _ _ hg => fun ⟨r159, e, hr160⟩ => ⟨r159, e, Rp.mono hg hr160⟩, fun _ _ _ _ h => h, fun _ _ _ hg => fun ⟨r174, e, hr175⟩ => ⟨r174, e, Rp.mono hg hr175⟩, fun _ _ _ _ h => h, fun _ _ _ hg => fun ⟨r189, e, hr190⟩ => ⟨r189, e, Rp.mono hg hr190⟩, fun _ _ _ hg => fun ⟨b, h1, h2⟩ => ⟨b, h1, h2.mono hg⟩, fun _ _ _ hg => fun ⟨b, h1, h2⟩ => ⟨b, h1, h2.mono hg⟩, trivial⟩) (fun _ _ => ⟨hC.drew, hB.drew, fun _ _ h => h⟩) ?_ ?_
 ·
  refine dsNone (j := 1) rfl ?_ ?_
  ·
   intro done G w ac_ hd hp hn ⟨hC, hB, hg⟩ hM
   have f1 : ac_.tmps[1]? = some (.pointer (some ⟨b1, 0, none⟩)) := hM.old0 rfl rfl
   have hF := (hM.fr.add f1)
   exact OpVal.draw hF (opLoadRow (cs := ((digI ((1 : UInt8)))).cells) rfl (hB.range (i := 1) (m := 32) rfl (by simp [Mark.cells, Stand.cells])) row28 (by simp [Mark.cells, Stand.cells])) ⟨G, fun _ _ h => h, ⟨hC, hB, hg⟩, rfl⟩
  refine dsNone (j := 2) rfl ?_ ?_
  ·
   intro done G w ac_ hd hp hn ⟨hC, hB, hg⟩ hM
   have f34 := hM.eqv (s := 34) 0 rfl (hp 0 rfl) rfl rfl
   have hF := (hM.fr.add f34)
   exact drawCallG hF rfl co21 rfl (hasL_ret _ _ hC.holds 1 8 ((digI ((1 : UInt8)))) 3 true) (fun v G' w' hk hr => ⟨G', hk.gle, ⟨hC.trans hk, hB.ext hk, fun b o h => hk.gle b o (hg b o h)⟩, hr⟩)
  refine dsNone (j := 3) rfl ?_ ?_
  ·
   intro done G w ac_ hd hp hn ⟨hC, hB, hg⟩ hM
   have f2 : ac_.tmps[2]? = some (.pointer (some ⟨b2, 0, none⟩)) := hM.old0 rfl rfl
   have hF := (hM.fr.add f2)
   exact OpVal.draw hF (opLoadRow (cs := ((digI ((2 : UInt8)))).cells) rfl (hB.range (i := 0) (m := 32) rfl (by simp [Mark.cells, Stand.cells])) row28 (by simp [Mark.cells, Stand.cells])) ⟨G, fun _ _ h => h, ⟨hC, hB, hg⟩, rfl⟩
  refine dsNone (j := 4) rfl ?_ ?_
  ·
   intro done G w ac_ hd hp hn ⟨hC, hB, hg⟩ hM
   have f36 := hM.eqv (s := 36) 2 rfl (hp 2 rfl) rfl rfl
   have hF := (hM.fr.add f36)
   exact drawCallG hF rfl co21 rfl (hasL_ret _ _ hC.holds 2 8 ((digI ((2 : UInt8)))) 4 true) (fun v G' w' hk hr => ⟨G', hk.gle, ⟨hC.trans hk, hB.ext hk, fun b o h => hk.gle b o (hg b o h)⟩, hr⟩)
  refine dsNone (j := 5) rfl ?_ ?_
  ·
   intro done G w ac_ hd hp hn ⟨hC, hB, hg⟩ hM
   have f2 : ac_.tmps[2]? = some (.pointer (some ⟨b2, 0, none⟩)) := hM.old0 rfl rfl
   have hF := (hM.fr.add f2)
   exact OpVal.draw hF (opLoadRow (cs := ((digI ((2 : UInt8)))).cells) rfl (hB.range (i := 0) (m := 32) rfl (by simp [Mark.cells, Stand.cells])) row28 (by simp [Mark.cells, Stand.cells])) ⟨G, fun _ _ h => h, ⟨hC, hB, hg⟩, rfl⟩
  refine dsNone (j := 6) rfl ?_ ?_
  ·
   intro done G w ac_ hd hp hn ⟨hC, hB, hg⟩ hM
   have f38 := hM.eqv (s := 38) 4 rfl (hp 4 rfl) rfl rfl
   have hF := (hM.fr.add f38)
   exact drawCallG hF rfl co21 rfl (hasL_ret _ _ hC.holds 3 8 ((digI ((2 : UInt8)))) 4 false) (fun v G' w' hk hr => ⟨G', hk.gle, ⟨hC.trans hk, hB.ext hk, fun b o h => hk.gle b o (hg b o h)⟩, hr⟩)
  refine dsNone (j := 7) rfl ?_ ?_
  ·
   intro done G w ac_ hd hp hn ⟨hC, hB, hg⟩ hM
   have f1 : ac_.tmps[1]? = some (.pointer (some ⟨b1, 0, none⟩)) := hM.old0 rfl rfl
   have hF := (hM.fr.add f1)
   exact OpVal.draw hF (opLoadRow (cs := ((digI ((1 : UInt8)))).cells) rfl (hB.range (i := 1) (m := 32) rfl (by simp [Mark.cells, Stand.cells])) row28 (by simp [Mark.cells, Stand.cells])) ⟨G, fun _ _ h => h, ⟨hC, hB, hg⟩, rfl⟩
  refine dsNone (j := 8) rfl ?_ ?_
  ·
   intro done G w ac_ hd hp hn ⟨hC, hB, hg⟩ hM
   have f40 := hM.eqv (s := 40) 6 rfl (hp 6 rfl) rfl rfl
   have hF := (hM.fr.add f40)
   exact drawCallG hF rfl co21 rfl (hasL_ret _ _ hC.holds 4 8 ((digI ((1 : UInt8)))) 3 false) (fun v G' w' hk hr => ⟨G', hk.gle, ⟨hC.trans hk, hB.ext hk, fun b o h => hk.gle b o (hg b o h)⟩, hr⟩)
  refine dsNone (j := 9) rfl ?_ ?_
  ·
   intro done G w ac_ hd hp hn ⟨hC, hB, hg⟩ hM
   obtain ⟨v_, f35, ⟨r144, rfl, hr145⟩⟩ := hM.new 1 _ _ rfl (hp 1 rfl) rfl
   obtain ⟨v147, v149, v151, rfl, hs148, hs150, hs152⟩ := Change.opIs hr145
   obtain ⟨A153, cap154, rfl⟩ := hs148.form
   obtain ⟨A155, cap156, rfl⟩ := hs150.form
   obtain ⟨A157, cap158, rfl⟩ := hs152.form
   obtain ⟨v_, f37, ⟨r159, rfl, hr160⟩⟩ := hM.new 3 _ _ rfl (hp 3 rfl) rfl
   obtain ⟨v162, v164, v166, rfl, hs163, hs165, hs167⟩ := Change.opIs hr160
   obtain ⟨A168, cap169, rfl⟩ := hs163.form
   obtain ⟨A170, cap171, rfl⟩ := hs165.form
   obtain ⟨A172, cap173, rfl⟩ := hs167.form
   obtain ⟨v_, f39, ⟨r174, rfl, hr175⟩⟩ := hM.new 5 _ _ rfl (hp 5 rfl) rfl
   obtain ⟨v177, v179, v181, rfl, hs178, hs180, hs182⟩ := Change.opIs hr175
   obtain ⟨A183, cap184, rfl⟩ := hs178.form
   obtain ⟨A185, cap186, rfl⟩ := hs180.form
   obtain ⟨A187, cap188, rfl⟩ := hs182.form
   obtain ⟨v_, f41, ⟨r189, rfl, hr190⟩⟩ := hM.new 7 _ _ rfl (hp 7 rfl) rfl
   obtain ⟨v192, v194, v196, rfl, hs193, hs195, hs197⟩ := Change.opIs hr190
   obtain ⟨A198, cap199, rfl⟩ := hs193.form
   obtain ⟨A200, cap201, rfl⟩ := hs195.form
   obtain ⟨A202, cap203, rfl⟩ := hs197.form
   have hF := ((((hM.fr.add f35).add f37).add f39).add f41)
   exact drawBsl hF (α := Change) (ps := [(0, .tmp 35), (1, .tmp 37), (2, .tmp 39), (3, .tmp 41)]) (xs := [((hasI 1 8 ((digI ((1 : UInt8)))) 3 true)), ((hasI 2 8 ((digI ((2 : UInt8)))) 4 true)), ((hasI 3 8 ((digI ((2 : UInt8)))) 4 false)), ((hasI 4 8 ((digI ((1 : UInt8)))) 3 false))]) (rows := [[(.int .i64 (((hasI 1 8 ((digI ((1 : UInt8)))) 3 true)).node)), (.int .i64 (((hasI 1 8 ((digI ((1 : UInt8)))) 3 true)).view)), (.int .i64 (((hasI 1 8 ((digI ((1 : UInt8)))) 3 true)).low)), (.slice A153 ((((hasI 1 8 ((digI ((1 : UInt8)))) 3 true)).marks).length) cap154), (.slice A155 ((((hasI 1 8 ((digI ((1 : UInt8)))) 3 true)).p).length) cap156), (.slice A157 ((((hasI 1 8 ((digI ((1 : UInt8)))) 3 true)).q).length) cap158)], [(.int .i64 (((hasI 2 8 ((digI ((2 : UInt8)))) 4 true)).node)), (.int .i64 (((hasI 2 8 ((digI ((2 : UInt8)))) 4 true)).view)), (.int .i64 (((hasI 2 8 ((digI ((2 : UInt8)))) 4 true)).low)), (.slice A168 ((((hasI 2 8 ((digI ((2 : UInt8)))) 4 true)).marks).length) cap169), (.slice A170 ((((hasI 2 8 ((digI ((2 : UInt8)))) 4 true)).p).length) cap171), (.slice A172 ((((hasI 2 8 ((digI ((2 : UInt8)))) 4 true)).q).length) cap173)], [(.int .i64 (((hasI 3 8 ((digI ((2 : UInt8)))) 4 false)).node)), (.int .i64 (((hasI 3 8 ((digI ((2 : UInt8)))) 4 false)).view)), (.int .i64 (((hasI 3 8 ((digI ((2 : UInt8)))) 4 false)).low)), (.slice A183 ((((hasI 3 8 ((digI ((2 : UInt8)))) 4 false)).marks).length) cap184), (.slice A185 ((((hasI 3 8 ((digI ((2 : UInt8)))) 4 false)).p).length) cap186), (.slice A187 ((((hasI 3 8 ((digI ((2 : UInt8)))) 4 false)).q).length) cap188)], [(.int .i64 (((hasI 4 8 ((digI ((1 : UInt8)))) 3 false)).node)), (.int .i64 (((hasI 4 8 ((digI ((1 : UInt8)))) 3 false)).view)), (.int .i64 (((hasI 4 8 ((digI ((1 : UInt8)))) 3 false)).low)), (.slice A198 ((((hasI 4 8 ((digI ((1 : UInt8)))) 3 false)).marks).length) cap199), (.slice A200 ((((hasI 4 8 ((digI ((1 : UInt8)))) 3 false)).p).length) cap201), (.slice A202 ((((hasI 4 8 ((digI ((1 : UInt8)))) 3 false)).q).length) cap203)]]) elo25 rfl rfl hC.holds rfl rfl rfl ⟨(Change.mkIs (x := ((hasI 1 8 ((digI ((1 : UInt8)))) 3 true))) hs148 hs150 hs152), (Change.mkIs (x := ((hasI 2 8 ((digI ((2 : UInt8)))) 4 true))) hs163 hs165 hs167), (Change.mkIs (x := ((hasI 3 8 ((digI ((2 : UInt8)))) 4 false))) hs178 hs180 hs182), (Change.mkIs (x := ((hasI 4 8 ((digI ((1 : UInt8)))) 3 false))) hs193 hs195 hs197), trivial⟩ (fun b G' w' hk hr => ⟨G', hk.gle, ⟨hC.trans hk, hB.ext hk, fun b o h => hk.gle b o (hg b o h)⟩, ⟨b, rfl, hr⟩⟩)
  refine dsNone (j := 10) rfl ?_ ?_
  ·
   intro done G w ac_ hd hp hn ⟨hC, hB, hg⟩ hM
   obtain ⟨v_, f42, hV_⟩ := hM.new 8 _ _ rfl (hp 8 rfl) rfl
   have hF := (hM.fr.add f42)
   exact OpVal.draw hF (opAssign rfl) ⟨G, fun _ _ h => h, ⟨hC, hB, hg⟩, hV_⟩
  exact dsNil
 ·
  intro done G w ac_ hall ⟨hC, hB, hg⟩ hM
  replace hs7 := hs7.mono hg
  replace hs9 := hs9.mono hg
  replace hs11 := hs11.mono hg
  replace hs22 := hs22.mono hg
  replace hs24 := hs24.mono hg
  replace hs26 := hs26.mono hg
  replace hs37 := hs37.mono hg
  replace hs39 := hs39.mono hg
  replace hs41 := hs41.mono hg
  replace hs49 := hs49.mono hg
  replace hs54 := hs54.mono hg
  replace hs56 := hs56.mono hg
  replace hs58 := hs58.mono hg
  replace hs69 := hs69.mono hg
  replace hs71 := hs71.mono hg
  replace hs73 := hs73.mono hg
  replace hs84 := hs84.mono hg
  replace hs86 := hs86.mono hg
  replace hs88 := hs88.mono hg
  replace hs96 := hs96.mono hg
  replace hs101 := hs101.mono hg
  replace hs103 := hs103.mono hg
  replace hs105 := hs105.mono hg
  replace hs116 := hs116.mono hg
  replace hs118 := hs118.mono hg
  replace hs120 := hs120.mono hg
  replace hs131 := hs131.mono hg
  replace hs133 := hs133.mono hg
  replace hs135 := hs135.mono hg
  replace hs143 := hs143.mono hg
  have f1 : ac_.tmps[1]? = some (.pointer (some ⟨b1, 0, none⟩)) := hM.old0 rfl rfl
  have f2 : ac_.tmps[2]? = some (.pointer (some ⟨b2, 0, none⟩)) := hM.old0 rfl rfl
  have f3 : ac_.tmps[3]? = some (.slice (some ⟨b48, 0, none⟩) 3 3) := hM.old0 rfl rfl
  have f4 : ac_.tmps[4]? = some (.slice (some ⟨b95, 0, none⟩) 3 3) := hM.old0 rfl rfl
  have f5 : ac_.tmps[5]? = some (.slice (some ⟨b142, 0, none⟩) 3 3) := hM.old0 rfl rfl
  obtain ⟨v_, f6, ⟨b204, rfl, hs205⟩⟩ := hM.new 9 _ _ rfl (hall 9 (by decide)) rfl
  refine ⟨((((((Env.nil.put 1 (.pointer (some ⟨b1, 0, none⟩))).put 2 (.pointer (some ⟨b2, 0, none⟩))).put 3 (.slice (some ⟨b48, 0, none⟩) 3 3)).put 4 (.slice (some ⟨b95, 0, none⟩) 3 3)).put 5 (.slice (some ⟨b142, 0, none⟩) 3 3)).put 6 (.slice (some ⟨b204, 0, none⟩) 4 4)), ((((((hM.fr.add f1).add f2).add f3).add f4).add f5).add f6), ?_⟩
  clear hM hall
  refine wcOf ?_
  refine wcSeq ?_
  refine wcDraw fmix (by kernel_rfl) (by kernel_rfl) (vAt [(fun _ v_ => v_ = ((.agg ((digI ((2 : UInt8)))).cells.toArray) : Value)), ((fun G v => ∃ (c0 : List Value), v = (.agg c0.toArray) ∧ Rp.Is G c0 ((hasI 1 2 ((digI ((2 : UInt8)))) 3 true)))), (fun _ v_ => v_ = ((.agg ((digI ((1 : UInt8)))).cells.toArray) : Value)), ((fun G v => ∃ (c0 : List Value), v = (.agg c0.toArray) ∧ Rp.Is G c0 ((hasI 2 2 ((digI ((1 : UInt8)))) 3 true)))), (fun _ v_ => v_ = ((.agg ((digI ((1 : UInt8)))).cells.toArray) : Value)), ((fun G v => ∃ (c0 : List Value), v = (.agg c0.toArray) ∧ Rp.Is G c0 ((hasI 3 2 ((digI ((1 : UInt8)))) 3 false)))), (fun _ v_ => v_ = ((.agg ((digI ((2 : UInt8)))).cells.toArray) : Value)), ((fun G v => ∃ (c0 : List Value), v = (.agg c0.toArray) ∧ Rp.Is G c0 ((hasI 4 2 ((digI ((2 : UInt8)))) 3 false)))), (fun G v => ∃ bb_, v = .slice (some ⟨bb_, 0, none⟩) 4 4 ∧ Sl G v ([((hasI 1 2 ((digI ((2 : UInt8)))) 3 true)), ((hasI 2 2 ((digI ((1 : UInt8)))) 3 true)), ((hasI 3 2 ((digI ((1 : UInt8)))) 3 false)), ((hasI 4 2 ((digI ((2 : UInt8)))) 3 false))] : List Change)), (fun G v => ∃ bb_, v = .slice (some ⟨bb_, 0, none⟩) 4 4 ∧ Sl G v ([((hasI 1 2 ((digI ((2 : UInt8)))) 3 true)), ((hasI 2 2 ((digI ((1 : UInt8)))) 3 true)), ((hasI 3 2 ((digI ((1 : UInt8)))) 3 false)), ((hasI 4 2 ((digI ((2 : UInt8)))) 3 false))] : List Change))]) (fun _ _ G' w => Cx w0 G0 G' w ∧ Bxs G' w w0.heap.size [(b2, 28, ((digI ((2 : UInt8)))).cells), (b1, 28, ((digI ((1 : UInt8)))).cells)] ∧ GLe G G') G (vAt_mono ⟨fun _ _ _ _ h => h, fun _ _ _ hg => fun ⟨r206, e, hr207⟩ => ⟨r206, e, Rp.mono hg hr207⟩, fun _ _ _ _ h => h, fun _ _ _ hg => fun ⟨r221, e, hr222⟩ => ⟨r221, e, Rp.mono hg hr222⟩, fun _ _ _ _ h => h, fun _ _ _ hg => fun ⟨r236, e, hr237⟩ => ⟨r236, e, Rp.mono hg hr237⟩, fun _ _ _ _ h => h, fun _ _ _ hg => fun ⟨r251, e, hr252⟩ => ⟨r251, e, Rp.mono hg hr252⟩, fun _ _ _ hg => fun ⟨b, h1, h2⟩ => ⟨b, h1, h2.mono hg⟩, fun _ _ _ hg => fun ⟨b, h1, h2⟩ => ⟨b, h1, h2.mono hg⟩, trivial⟩) (fun _ _ => ⟨hC.drew, hB.drew, fun _ _ h => h⟩) ?_ ?_
  ·
   refine dsNone (j := 1) rfl ?_ ?_
   ·
    intro done G w ac_ hd hp hn ⟨hC, hB, hg⟩ hM
    have f2 : ac_.tmps[2]? = some (.pointer (some ⟨b2, 0, none⟩)) := hM.old0 rfl rfl
    have hF := (hM.fr.add f2)
    exact OpVal.draw hF (opLoadRow (cs := ((digI ((2 : UInt8)))).cells) rfl (hB.range (i := 0) (m := 32) rfl (by simp [Mark.cells, Stand.cells])) row28 (by simp [Mark.cells, Stand.cells])) ⟨G, fun _ _ h => h, ⟨hC, hB, hg⟩, rfl⟩
   refine dsNone (j := 2) rfl ?_ ?_
   ·
    intro done G w ac_ hd hp hn ⟨hC, hB, hg⟩ hM
    have f43 := hM.eqv (s := 43) 0 rfl (hp 0 rfl) rfl rfl
    have hF := (hM.fr.add f43)
    exact drawCallG hF rfl co21 rfl (hasL_ret _ _ hC.holds 1 2 ((digI ((2 : UInt8)))) 3 true) (fun v G' w' hk hr => ⟨G', hk.gle, ⟨hC.trans hk, hB.ext hk, fun b o h => hk.gle b o (hg b o h)⟩, hr⟩)
   refine dsNone (j := 3) rfl ?_ ?_
   ·
    intro done G w ac_ hd hp hn ⟨hC, hB, hg⟩ hM
    have f1 : ac_.tmps[1]? = some (.pointer (some ⟨b1, 0, none⟩)) := hM.old0 rfl rfl
    have hF := (hM.fr.add f1)
    exact OpVal.draw hF (opLoadRow (cs := ((digI ((1 : UInt8)))).cells) rfl (hB.range (i := 1) (m := 32) rfl (by simp [Mark.cells, Stand.cells])) row28 (by simp [Mark.cells, Stand.cells])) ⟨G, fun _ _ h => h, ⟨hC, hB, hg⟩, rfl⟩
   refine dsNone (j := 4) rfl ?_ ?_
   ·
    intro done G w ac_ hd hp hn ⟨hC, hB, hg⟩ hM
    have f45 := hM.eqv (s := 45) 2 rfl (hp 2 rfl) rfl rfl
    have hF := (hM.fr.add f45)
    exact drawCallG hF rfl co21 rfl (hasL_ret _ _ hC.holds 2 2 ((digI ((1 : UInt8)))) 3 true) (fun v G' w' hk hr => ⟨G', hk.gle, ⟨hC.trans hk, hB.ext hk, fun b o h => hk.gle b o (hg b o h)⟩, hr⟩)
   refine dsNone (j := 5) rfl ?_ ?_
   ·
    intro done G w ac_ hd hp hn ⟨hC, hB, hg⟩ hM
    have f1 : ac_.tmps[1]? = some (.pointer (some ⟨b1, 0, none⟩)) := hM.old0 rfl rfl
    have hF := (hM.fr.add f1)
    exact OpVal.draw hF (opLoadRow (cs := ((digI ((1 : UInt8)))).cells) rfl (hB.range (i := 1) (m := 32) rfl (by simp [Mark.cells, Stand.cells])) row28 (by simp [Mark.cells, Stand.cells])) ⟨G, fun _ _ h => h, ⟨hC, hB, hg⟩, rfl⟩
   refine dsNone (j := 6) rfl ?_ ?_
   ·
    intro done G w ac_ hd hp hn ⟨hC, hB, hg⟩ hM
    have f47 := hM.eqv (s := 47) 4 rfl (hp 4 rfl) rfl rfl
    have hF := (hM.fr.add f47)
    exact drawCallG hF rfl co21 rfl (hasL_ret _ _ hC.holds 3 2 ((digI ((1 : UInt8)))) 3 false) (fun v G' w' hk hr => ⟨G', hk.gle, ⟨hC.trans hk, hB.ext hk, fun b o h => hk.gle b o (hg b o h)⟩, hr⟩)
   refine dsNone (j := 7) rfl ?_ ?_
   ·
    intro done G w ac_ hd hp hn ⟨hC, hB, hg⟩ hM
    have f2 : ac_.tmps[2]? = some (.pointer (some ⟨b2, 0, none⟩)) := hM.old0 rfl rfl
    have hF := (hM.fr.add f2)
    exact OpVal.draw hF (opLoadRow (cs := ((digI ((2 : UInt8)))).cells) rfl (hB.range (i := 0) (m := 32) rfl (by simp [Mark.cells, Stand.cells])) row28 (by simp [Mark.cells, Stand.cells])) ⟨G, fun _ _ h => h, ⟨hC, hB, hg⟩, rfl⟩
   refine dsNone (j := 8) rfl ?_ ?_
   ·
    intro done G w ac_ hd hp hn ⟨hC, hB, hg⟩ hM
    have f49 := hM.eqv (s := 49) 6 rfl (hp 6 rfl) rfl rfl
    have hF := (hM.fr.add f49)
    exact drawCallG hF rfl co21 rfl (hasL_ret _ _ hC.holds 4 2 ((digI ((2 : UInt8)))) 3 false) (fun v G' w' hk hr => ⟨G', hk.gle, ⟨hC.trans hk, hB.ext hk, fun b o h => hk.gle b o (hg b o h)⟩, hr⟩)
   refine dsNone (j := 9) rfl ?_ ?_
   ·
    intro done G w ac_ hd hp hn ⟨hC, hB, hg⟩ hM
    obtain ⟨v_, f44, ⟨r206, rfl, hr207⟩⟩ := hM.new 1 _ _ rfl (hp 1 rfl) rfl
    obtain ⟨v209, v211, v213, rfl, hs210, hs212, hs214⟩ := Change.opIs hr207
    obtain ⟨A215, cap216, rfl⟩ := hs210.form
    obtain ⟨A217, cap218, rfl⟩ := hs212.form
    obtain ⟨A219, cap220, rfl⟩ := hs214.form
    obtain ⟨v_, f46, ⟨r221, rfl, hr222⟩⟩ := hM.new 3 _ _ rfl (hp 3 rfl) rfl
    obtain ⟨v224, v226, v228, rfl, hs225, hs227, hs229⟩ := Change.opIs hr222
    obtain ⟨A230, cap231, rfl⟩ := hs225.form
    obtain ⟨A232, cap233, rfl⟩ := hs227.form
    obtain ⟨A234, cap235, rfl⟩ := hs229.form
    obtain ⟨v_, f48, ⟨r236, rfl, hr237⟩⟩ := hM.new 5 _ _ rfl (hp 5 rfl) rfl
    obtain ⟨v239, v241, v243, rfl, hs240, hs242, hs244⟩ := Change.opIs hr237
    obtain ⟨A245, cap246, rfl⟩ := hs240.form
    obtain ⟨A247, cap248, rfl⟩ := hs242.form
    obtain ⟨A249, cap250, rfl⟩ := hs244.form
    obtain ⟨v_, f50, ⟨r251, rfl, hr252⟩⟩ := hM.new 7 _ _ rfl (hp 7 rfl) rfl
    obtain ⟨v254, v256, v258, rfl, hs255, hs257, hs259⟩ := Change.opIs hr252
    obtain ⟨A260, cap261, rfl⟩ := hs255.form
    obtain ⟨A262, cap263, rfl⟩ := hs257.form
    obtain ⟨A264, cap265, rfl⟩ := hs259.form
    have hF := ((((hM.fr.add f44).add f46).add f48).add f50)
    exact drawBsl hF (α := Change) (ps := [(0, .tmp 44), (1, .tmp 46), (2, .tmp 48), (3, .tmp 50)]) (xs := [((hasI 1 2 ((digI ((2 : UInt8)))) 3 true)), ((hasI 2 2 ((digI ((1 : UInt8)))) 3 true)), ((hasI 3 2 ((digI ((1 : UInt8)))) 3 false)), ((hasI 4 2 ((digI ((2 : UInt8)))) 3 false))]) (rows := [[(.int .i64 (((hasI 1 2 ((digI ((2 : UInt8)))) 3 true)).node)), (.int .i64 (((hasI 1 2 ((digI ((2 : UInt8)))) 3 true)).view)), (.int .i64 (((hasI 1 2 ((digI ((2 : UInt8)))) 3 true)).low)), (.slice A215 ((((hasI 1 2 ((digI ((2 : UInt8)))) 3 true)).marks).length) cap216), (.slice A217 ((((hasI 1 2 ((digI ((2 : UInt8)))) 3 true)).p).length) cap218), (.slice A219 ((((hasI 1 2 ((digI ((2 : UInt8)))) 3 true)).q).length) cap220)], [(.int .i64 (((hasI 2 2 ((digI ((1 : UInt8)))) 3 true)).node)), (.int .i64 (((hasI 2 2 ((digI ((1 : UInt8)))) 3 true)).view)), (.int .i64 (((hasI 2 2 ((digI ((1 : UInt8)))) 3 true)).low)), (.slice A230 ((((hasI 2 2 ((digI ((1 : UInt8)))) 3 true)).marks).length) cap231), (.slice A232 ((((hasI 2 2 ((digI ((1 : UInt8)))) 3 true)).p).length) cap233), (.slice A234 ((((hasI 2 2 ((digI ((1 : UInt8)))) 3 true)).q).length) cap235)], [(.int .i64 (((hasI 3 2 ((digI ((1 : UInt8)))) 3 false)).node)), (.int .i64 (((hasI 3 2 ((digI ((1 : UInt8)))) 3 false)).view)), (.int .i64 (((hasI 3 2 ((digI ((1 : UInt8)))) 3 false)).low)), (.slice A245 ((((hasI 3 2 ((digI ((1 : UInt8)))) 3 false)).marks).length) cap246), (.slice A247 ((((hasI 3 2 ((digI ((1 : UInt8)))) 3 false)).p).length) cap248), (.slice A249 ((((hasI 3 2 ((digI ((1 : UInt8)))) 3 false)).q).length) cap250)], [(.int .i64 (((hasI 4 2 ((digI ((2 : UInt8)))) 3 false)).node)), (.int .i64 (((hasI 4 2 ((digI ((2 : UInt8)))) 3 false)).view)), (.int .i64 (((hasI 4 2 ((digI ((2 : UInt8)))) 3 false)).low)), (.slice A260 ((((hasI 4 2 ((digI ((2 : UInt8)))) 3 false)).marks).length) cap261), (.slice A262 ((((hasI 4 2 ((digI ((2 : UInt8)))) 3 false)).p).length) cap263), (.slice A264 ((((hasI 4 2 ((digI ((2 : UInt8)))) 3 false)).q).length) cap265)]]) elo25 rfl rfl hC.holds rfl rfl rfl ⟨(Change.mkIs (x := ((hasI 1 2 ((digI ((2 : UInt8)))) 3 true))) hs210 hs212 hs214), (Change.mkIs (x := ((hasI 2 2 ((digI ((1 : UInt8)))) 3 true))) hs225 hs227 hs229), (Change.mkIs (x := ((hasI 3 2 ((digI ((1 : UInt8)))) 3 false))) hs240 hs242 hs244), (Change.mkIs (x := ((hasI 4 2 ((digI ((2 : UInt8)))) 3 false))) hs255 hs257 hs259), trivial⟩ (fun b G' w' hk hr => ⟨G', hk.gle, ⟨hC.trans hk, hB.ext hk, fun b o h => hk.gle b o (hg b o h)⟩, ⟨b, rfl, hr⟩⟩)
   refine dsNone (j := 10) rfl ?_ ?_
   ·
    intro done G w ac_ hd hp hn ⟨hC, hB, hg⟩ hM
    obtain ⟨v_, f51, hV_⟩ := hM.new 8 _ _ rfl (hp 8 rfl) rfl
    have hF := (hM.fr.add f51)
    exact OpVal.draw hF (opAssign rfl) ⟨G, fun _ _ h => h, ⟨hC, hB, hg⟩, hV_⟩
   exact dsNil
  ·
   intro done G w ac_ hall ⟨hC, hB, hg⟩ hM
   replace hs7 := hs7.mono hg
   replace hs9 := hs9.mono hg
   replace hs11 := hs11.mono hg
   replace hs22 := hs22.mono hg
   replace hs24 := hs24.mono hg
   replace hs26 := hs26.mono hg
   replace hs37 := hs37.mono hg
   replace hs39 := hs39.mono hg
   replace hs41 := hs41.mono hg
   replace hs49 := hs49.mono hg
   replace hs54 := hs54.mono hg
   replace hs56 := hs56.mono hg
   replace hs58 := hs58.mono hg
   replace hs69 := hs69.mono hg
   replace hs71 := hs71.mono hg
   replace hs73 := hs73.mono hg
   replace hs84 := hs84.mono hg
   replace hs86 := hs86.mono hg
   replace hs88 := hs88.mono hg
   replace hs96 := hs96.mono hg
   replace hs101 := hs101.mono hg
   replace hs103 := hs103.mono hg
   replace hs105 := hs105.mono hg
   replace hs116 := hs116.mono hg
   replace hs118 := hs118.mono hg
   replace hs120 := hs120.mono hg
   replace hs131 := hs131.mono hg
   replace hs133 := hs133.mono hg
   replace hs135 := hs135.mono hg
   replace hs143 := hs143.mono hg
   replace hs205 := hs205.mono hg
   have f1 : ac_.tmps[1]? = some (.pointer (some ⟨b1, 0, none⟩)) := hM.old0 rfl rfl
   have f2 : ac_.tmps[2]? = some (.pointer (some ⟨b2, 0, none⟩)) := hM.old0 rfl rfl
   have f3 : ac_.tmps[3]? = some (.slice (some ⟨b48, 0, none⟩) 3 3) := hM.old0 rfl rfl
   have f4 : ac_.tmps[4]? = some (.slice (some ⟨b95, 0, none⟩) 3 3) := hM.old0 rfl rfl
   have f5 : ac_.tmps[5]? = some (.slice (some ⟨b142, 0, none⟩) 3 3) := hM.old0 rfl rfl
   have f6 : ac_.tmps[6]? = some (.slice (some ⟨b204, 0, none⟩) 4 4) := hM.old0 rfl rfl
   obtain ⟨v_, f7, ⟨b266, rfl, hs267⟩⟩ := hM.new 9 _ _ rfl (hall 9 (by decide)) rfl
   refine ⟨(((((((Env.nil.put 1 (.pointer (some ⟨b1, 0, none⟩))).put 2 (.pointer (some ⟨b2, 0, none⟩))).put 3 (.slice (some ⟨b48, 0, none⟩) 3 3)).put 4 (.slice (some ⟨b95, 0, none⟩) 3 3)).put 5 (.slice (some ⟨b142, 0, none⟩) 3 3)).put 6 (.slice (some ⟨b204, 0, none⟩) 4 4)).put 7 (.slice (some ⟨b266, 0, none⟩) 4 4)), (((((((hM.fr.add f1).add f2).add f3).add f4).add f5).add f6).add f7), ?_⟩
   clear hM hall
   refine wcOf ?_
   refine wcSeq ?_
   refine wcDraw fmix (by kernel_rfl) (by kernel_rfl) (vAt [(fun _ v_ => v_ = ((.agg ((digI ((1 : UInt8)))).cells.toArray) : Value)), ((fun G v => ∃ (c0 : List Value), v = (.agg c0.toArray) ∧ Rp.Is G c0 ((hasI 1 3 ((digI ((1 : UInt8)))) 0 true)))), (fun _ v_ => v_ = ((.agg ((digI ((1 : UInt8)))).cells.toArray) : Value)), ((fun G v => ∃ (c0 : List Value), v = (.agg c0.toArray) ∧ Rp.Is G c0 ((hasI 2 3 ((digI ((1 : UInt8)))) 0 true)))), (fun _ v_ => v_ = ((.agg ((digI ((1 : UInt8)))).cells.toArray) : Value)), ((fun G v => ∃ (c0 : List Value), v = (.agg c0.toArray) ∧ Rp.Is G c0 ((hasI 3 9 ((digI ((1 : UInt8)))) 0 true)))), (fun G v => ∃ bb_, v = .slice (some ⟨bb_, 0, none⟩) 3 3 ∧ Sl G v ([((hasI 1 3 ((digI ((1 : UInt8)))) 0 true)), ((hasI 2 3 ((digI ((1 : UInt8)))) 0 true)), ((hasI 3 9 ((digI ((1 : UInt8)))) 0 true))] : List Change)), (fun G v => ∃ bb_, v = .slice (some ⟨bb_, 0, none⟩) 3 3 ∧ Sl G v ([((hasI 1 3 ((digI ((1 : UInt8)))) 0 true)), ((hasI 2 3 ((digI ((1 : UInt8)))) 0 true)), ((hasI 3 9 ((digI ((1 : UInt8)))) 0 true))] : List Change))]) (fun _ _ G' w => Cx w0 G0 G' w ∧ Bxs G' w w0.heap.size [(b2, 28, ((digI ((2 : UInt8)))).cells), (b1, 28, ((digI ((1 : UInt8)))).cells)] ∧ GLe G G') G (vAt_mono ⟨fun _ _ _ _ h => h, fun _ _ _ hg => fun ⟨r268, e, hr269⟩ => ⟨r268, e, Rp.mono hg hr269⟩, fun _ _ _ _ h => h, fun _ _ _ hg => fun ⟨r283, e, hr284⟩ => ⟨r283, e, Rp.mono hg hr284⟩, fun _ _ _ _ h => h, fun _ _ _ hg => fun ⟨r298, e, hr299⟩ => ⟨r298, e, Rp.mono hg hr299⟩, fun _ _ _ hg => fun ⟨b, h1, h2⟩ => ⟨b, h1, h2.mono hg⟩, fun _ _ _ hg => fun ⟨b, h1, h2⟩ => ⟨b, h1, h2.mono hg⟩, trivial⟩) (fun _ _ => ⟨hC.drew, hB.drew, fun _ _ h => h⟩) ?_ ?_
   ·
    refine dsNone (j := 1) rfl ?_ ?_
    ·
     intro done G w ac_ hd hp hn ⟨hC, hB, hg⟩ hM
     have f1 : ac_.tmps[1]? = some (.pointer (some ⟨b1, 0, none⟩)) := hM.old0 rfl rfl
     have hF := (hM.fr.add f1)
     exact OpVal.draw hF (opLoadRow (cs := ((digI ((1 : UInt8)))).cells) rfl (hB.range (i := 1) (m := 32) rfl (by simp [Mark.cells, Stand.cells])) row28 (by simp [Mark.cells, Stand.cells])) ⟨G, fun _ _ h => h, ⟨hC, hB, hg⟩, rfl⟩
    refine dsNone (j := 2) rfl ?_ ?_
    ·
     intro done G w ac_ hd hp hn ⟨hC, hB, hg⟩ hM
     have f52 := hM.eqv (s := 52) 0 rfl (hp 0 rfl) rfl rfl
     have hF := (hM.fr.add f52)
     exact drawCallG hF rfl co21 rfl (hasL_ret _ _ hC.holds 1 3 ((digI ((1 : UInt8)))) 0 true) (fun v G' w' hk hr => ⟨G', hk.gle, ⟨hC.trans hk, hB.ext hk, fun b o h => hk.gle b o (hg b o h)⟩, hr⟩)
    refine dsNone (j := 3) rfl ?_ ?_
    ·
     intro done G w ac_ hd hp hn ⟨hC, hB, hg⟩ hM
     have f1 : ac_.tmps[1]? = some (.pointer (some ⟨b1, 0, none⟩)) := hM.old0 rfl rfl
     have hF := (hM.fr.add f1)
     exact OpVal.draw hF (opLoadRow (cs := ((digI ((1 : UInt8)))).cells) rfl (hB.range (i := 1) (m := 32) rfl (by simp [Mark.cells, Stand.cells])) row28 (by simp [Mark.cells, Stand.cells])) ⟨G, fun _ _ h => h, ⟨hC, hB, hg⟩, rfl⟩
    refine dsNone (j := 4) rfl ?_ ?_
    ·
     intro done G w ac_ hd hp hn ⟨hC, hB, hg⟩ hM
     have f54 := hM.eqv (s := 54) 2 rfl (hp 2 rfl) rfl rfl
     have hF := (hM.fr.add f54)
     exact drawCallG hF rfl co21 rfl (hasL_ret _ _ hC.holds 2 3 ((digI ((1 : UInt8)))) 0 true) (fun v G' w' hk hr => ⟨G', hk.gle, ⟨hC.trans hk, hB.ext hk, fun b o h => hk.gle b o (hg b o h)⟩, hr⟩)
    refine dsNone (j := 5) rfl ?_ ?_
    ·
     intro done G w ac_ hd hp hn ⟨hC, hB, hg⟩ hM
     have f1 : ac_.tmps[1]? = some (.pointer (some ⟨b1, 0, none⟩)) := hM.old0 rfl rfl
     have hF := (hM.fr.add f1)
     exact OpVal.draw hF (opLoadRow (cs := ((digI ((1 : UInt8)))).cells) rfl (hB.range (i := 1) (m := 32) rfl (by simp [Mark.cells, Stand.cells])) row28 (by simp [Mark.cells, Stand.cells])) ⟨G, fun _ _ h => h, ⟨hC, hB, hg⟩, rfl⟩
    refine dsNone (j := 6) rfl ?_ ?_
    ·
     intro done G w ac_ hd hp hn ⟨hC, hB, hg⟩ hM
     have f56 := hM.eqv (s := 56) 4 rfl (hp 4 rfl) rfl rfl
     have hF := (hM.fr.add f56)
     exact drawCallG hF rfl co21 rfl (hasL_ret _ _ hC.holds 3 9 ((digI ((1 : UInt8)))) 0 true) (fun v G' w' hk hr => ⟨G', hk.gle, ⟨hC.trans hk, hB.ext hk, fun b o h => hk.gle b o (hg b o h)⟩, hr⟩)
    refine dsNone (j := 7) rfl ?_ ?_
    ·
     intro done G w ac_ hd hp hn ⟨hC, hB, hg⟩ hM
     obtain ⟨v_, f53, ⟨r268, rfl, hr269⟩⟩ := hM.new 1 _ _ rfl (hp 1 rfl) rfl
     obtain ⟨v271, v273, v275, rfl, hs272, hs274, hs276⟩ := Change.opIs hr269
     obtain ⟨A277, cap278, rfl⟩ := hs272.form
     obtain ⟨A279, cap280, rfl⟩ := hs274.form
     obtain ⟨A281, cap282, rfl⟩ := hs276.form
     obtain ⟨v_, f55, ⟨r283, rfl, hr284⟩⟩ := hM.new 3 _ _ rfl (hp 3 rfl) rfl
     obtain ⟨v286, v288, v290, rfl, hs287, hs289, hs291⟩ := Change.opIs hr284
     obtain ⟨A292, cap293, rfl⟩ := hs287.form
     obtain ⟨A294, cap295, rfl⟩ := hs289.form
     obtain ⟨A296, cap297, rfl⟩ := hs291.form
     obtain ⟨v_, f57, ⟨r298, rfl, hr299⟩⟩ := hM.new 5 _ _ rfl (hp 5 rfl) rfl
     obtain ⟨v301, v303, v305, rfl, hs302, hs304, hs306⟩ := Change.opIs hr299
     obtain ⟨A307, cap308, rfl⟩ := hs302.form
     obtain ⟨A309, cap310, rfl⟩ := hs304.form
     obtain ⟨A311, cap312, rfl⟩ := hs306.form
     have hF := (((hM.fr.add f53).add f55).add f57)
     exact drawBsl hF (α := Change) (ps := [(0, .tmp 53), (1, .tmp 55), (2, .tmp 57)]) (xs := [((hasI 1 3 ((digI ((1 : UInt8)))) 0 true)), ((hasI 2 3 ((digI ((1 : UInt8)))) 0 true)), ((hasI 3 9 ((digI ((1 : UInt8)))) 0 true))]) (rows := [[(.int .i64 (((hasI 1 3 ((digI ((1 : UInt8)))) 0 true)).node)), (.int .i64 (((hasI 1 3 ((digI ((1 : UInt8)))) 0 true)).view)), (.int .i64 (((hasI 1 3 ((digI ((1 : UInt8)))) 0 true)).low)), (.slice A277 ((((hasI 1 3 ((digI ((1 : UInt8)))) 0 true)).marks).length) cap278), (.slice A279 ((((hasI 1 3 ((digI ((1 : UInt8)))) 0 true)).p).length) cap280), (.slice A281 ((((hasI 1 3 ((digI ((1 : UInt8)))) 0 true)).q).length) cap282)], [(.int .i64 (((hasI 2 3 ((digI ((1 : UInt8)))) 0 true)).node)), (.int .i64 (((hasI 2 3 ((digI ((1 : UInt8)))) 0 true)).view)), (.int .i64 (((hasI 2 3 ((digI ((1 : UInt8)))) 0 true)).low)), (.slice A292 ((((hasI 2 3 ((digI ((1 : UInt8)))) 0 true)).marks).length) cap293), (.slice A294 ((((hasI 2 3 ((digI ((1 : UInt8)))) 0 true)).p).length) cap295), (.slice A296 ((((hasI 2 3 ((digI ((1 : UInt8)))) 0 true)).q).length) cap297)], [(.int .i64 (((hasI 3 9 ((digI ((1 : UInt8)))) 0 true)).node)), (.int .i64 (((hasI 3 9 ((digI ((1 : UInt8)))) 0 true)).view)), (.int .i64 (((hasI 3 9 ((digI ((1 : UInt8)))) 0 true)).low)), (.slice A307 ((((hasI 3 9 ((digI ((1 : UInt8)))) 0 true)).marks).length) cap308), (.slice A309 ((((hasI 3 9 ((digI ((1 : UInt8)))) 0 true)).p).length) cap310), (.slice A311 ((((hasI 3 9 ((digI ((1 : UInt8)))) 0 true)).q).length) cap312)]]) elo25 rfl rfl hC.holds rfl rfl rfl ⟨(Change.mkIs (x := ((hasI 1 3 ((digI ((1 : UInt8)))) 0 true))) hs272 hs274 hs276), (Change.mkIs (x := ((hasI 2 3 ((digI ((1 : UInt8)))) 0 true))) hs287 hs289 hs291), (Change.mkIs (x := ((hasI 3 9 ((digI ((1 : UInt8)))) 0 true))) hs302 hs304 hs306), trivial⟩ (fun b G' w' hk hr => ⟨G', hk.gle, ⟨hC.trans hk, hB.ext hk, fun b o h => hk.gle b o (hg b o h)⟩, ⟨b, rfl, hr⟩⟩)
    refine dsNone (j := 8) rfl ?_ ?_
    ·
     intro done G w ac_ hd hp hn ⟨hC, hB, hg⟩ hM
     obtain ⟨v_, f58, hV_⟩ := hM.new 6 _ _ rfl (hp 6 rfl) rfl
     have hF := (hM.fr.add f58)
     exact OpVal.draw hF (opAssign rfl) ⟨G, fun _ _ h => h, ⟨hC, hB, hg⟩, hV_⟩
    exact dsNil
   ·
    intro done G w ac_ hall ⟨hC, hB, hg⟩ hM
    replace hs7 := hs7.mono hg
    replace hs9 := hs9.mono hg
    replace hs11 := hs11.mono hg
    replace hs22 := hs22.mono hg
    replace hs24 := hs24.mono hg
    replace hs26 := hs26.mono hg
    replace hs37 := hs37.mono hg
    replace hs39 := hs39.mono hg
    replace hs41 := hs41.mono hg
    replace hs49 := hs49.mono hg
    replace hs54 := hs54.mono hg
    replace hs56 := hs56.mono hg
    replace hs58 := hs58.mono hg
    replace hs69 := hs69.mono hg
    replace hs71 := hs71.mono hg
    replace hs73 := hs73.mono hg
    replace hs84 := hs84.mono hg
    replace hs86 := hs86.mono hg
    replace hs88 := hs88.mono hg
    replace hs96 := hs96.mono hg
    replace hs101 := hs101.mono hg
    replace hs103 := hs103.mono hg
    replace hs105 := hs105.mono hg
    replace hs116 := hs116.mono hg
    replace hs118 := hs118.mono hg
    replace hs120 := hs120.mono hg
    replace hs131 := hs131.mono hg
    replace hs133 := hs133.mono hg
    replace hs135 := hs135.mono hg
    replace hs143 := hs143.mono hg
    replace hs205 := hs205.mono hg
    replace hs267 := hs267.mono hg
    have f1 : ac_.tmps[1]? = some (.pointer (some ⟨b1, 0, none⟩)) := hM.old0 rfl rfl
    have f2 : ac_.tmps[2]? = some (.pointer (some ⟨b2, 0, none⟩)) := hM.old0 rfl rfl
    have f3 : ac_.tmps[3]? = some (.slice (some ⟨b48, 0, none⟩) 3 3) := hM.old0 rfl rfl
    have f4 : ac_.tmps[4]? = some (.slice (some ⟨b95, 0, none⟩) 3 3) := hM.old0 rfl rfl
    have f5 : ac_.tmps[5]? = some (.slice (some ⟨b142, 0, none⟩) 3 3) := hM.old0 rfl rfl
    have f6 : ac_.tmps[6]? = some (.slice (some ⟨b204, 0, none⟩) 4 4) := hM.old0 rfl rfl
    have f7 : ac_.tmps[7]? = some (.slice (some ⟨b266, 0, none⟩) 4 4) := hM.old0 rfl rfl
    obtain ⟨v_, f8, ⟨b313, rfl, hs314⟩⟩ := hM.new 7 _ _ rfl (hall 7 (by decide)) rfl
    refine ⟨((((((((Env.nil.put 1 (.pointer (some ⟨b1, 0, none⟩))).put 2 (.pointer (some ⟨b2, 0, none⟩))).put 3 (.slice (some ⟨b48, 0, none⟩) 3 3)).put 4 (.slice (some ⟨b95, 0, none⟩) 3 3)).put 5 (.slice (some ⟨b142, 0, none⟩) 3 3)).put 6 (.slice (some ⟨b204, 0, none⟩) 4 4)).put 7 (.slice (some ⟨b266, 0, none⟩) 4 4)).put 8 (.slice (some ⟨b313, 0, none⟩) 3 3)), ((((((((hM.fr.add f1).add f2).add f3).add f4).add f5).add f6).add f7).add f8), ?_⟩
    clear hM hall
    refine wcOf ?_
    refine wcSeq (wcRegion ?_)
    refine wlCallG hC hB rfl co18 rfl rfl (plain_ret _ _ hC.holds 1) ?_; rintro v317 G w hk hC hB ⟨r315, rfl, hr316⟩
    replace hs7 := hs7.mono hk.gle; replace hs9 := hs9.mono hk.gle; replace hs11 := hs11.mono hk.gle; replace hs22 := hs22.mono hk.gle; replace hs24 := hs24.mono hk.gle; replace hs26 := hs26.mono hk.gle; replace hs37 := hs37.mono hk.gle; replace hs39 := hs39.mono hk.gle; replace hs41 := hs41.mono hk.gle; replace hs49 := hs49.mono hk.gle; replace hs54 := hs54.mono hk.gle; replace hs56 := hs56.mono hk.gle; replace hs58 := hs58.mono hk.gle; replace hs69 := hs69.mono hk.gle; replace hs71 := hs71.mono hk.gle; replace hs73 := hs73.mono hk.gle; replace hs84 := hs84.mono hk.gle; replace hs86 := hs86.mono hk.gle; replace hs88 := hs88.mono hk.gle; replace hs96 := hs96.mono hk.gle; replace hs101 := hs101.mono hk.gle; replace hs103 := hs103.mono hk.gle; replace hs105 := hs105.mono hk.gle; replace hs116 := hs116.mono hk.gle; replace hs118 := hs118.mono hk.gle; replace hs120 := hs120.mono hk.gle; replace hs131 := hs131.mono hk.gle; replace hs133 := hs133.mono hk.gle; replace hs135 := hs135.mono hk.gle; replace hs143 := hs143.mono hk.gle; replace hs205 := hs205.mono hk.gle; replace hs267 := hs267.mono hk.gle; replace hs314 := hs314.mono hk.gle
    obtain ⟨v318, v320, v322, rfl, hs319, hs321, hs323⟩ := Change.opIs hr316
    obtain ⟨A324, cap325, rfl⟩ := hs319.form
    obtain ⟨A326, cap327, rfl⟩ := hs321.form
    obtain ⟨A328, cap329, rfl⟩ := hs323.form
    refine wlCallG hC hB rfl co18 rfl rfl (plain_ret _ _ hC.holds 2) ?_; rintro v332 G w hk hC hB ⟨r330, rfl, hr331⟩
    replace hs7 := hs7.mono hk.gle; replace hs9 := hs9.mono hk.gle; replace hs11 := hs11.mono hk.gle; replace hs22 := hs22.mono hk.gle; replace hs24 := hs24.mono hk.gle; replace hs26 := hs26.mono hk.gle; replace hs37 := hs37.mono hk.gle; replace hs39 := hs39.mono hk.gle; replace hs41 := hs41.mono hk.gle; replace hs49 := hs49.mono hk.gle; replace hs54 := hs54.mono hk.gle; replace hs56 := hs56.mono hk.gle; replace hs58 := hs58.mono hk.gle; replace hs69 := hs69.mono hk.gle; replace hs71 := hs71.mono hk.gle; replace hs73 := hs73.mono hk.gle; replace hs84 := hs84.mono hk.gle; replace hs86 := hs86.mono hk.gle; replace hs88 := hs88.mono hk.gle; replace hs96 := hs96.mono hk.gle; replace hs101 := hs101.mono hk.gle; replace hs103 := hs103.mono hk.gle; replace hs105 := hs105.mono hk.gle; replace hs116 := hs116.mono hk.gle; replace hs118 := hs118.mono hk.gle; replace hs120 := hs120.mono hk.gle; replace hs131 := hs131.mono hk.gle; replace hs133 := hs133.mono hk.gle; replace hs135 := hs135.mono hk.gle; replace hs143 := hs143.mono hk.gle; replace hs205 := hs205.mono hk.gle; replace hs267 := hs267.mono hk.gle; replace hs314 := hs314.mono hk.gle; replace hs319 := hs319.mono hk.gle; replace hs321 := hs321.mono hk.gle; replace hs323 := hs323.mono hk.gle
    obtain ⟨v333, v335, v337, rfl, hs334, hs336, hs338⟩ := Change.opIs hr331
    obtain ⟨A339, cap340, rfl⟩ := hs334.form
    obtain ⟨A341, cap342, rfl⟩ := hs336.form
    obtain ⟨A343, cap344, rfl⟩ := hs338.form
    refine wlCallG hC hB rfl co18 rfl rfl (plain_ret _ _ hC.holds 3) ?_; rintro v347 G w hk hC hB ⟨r345, rfl, hr346⟩
    replace hs7 := hs7.mono hk.gle; replace hs9 := hs9.mono hk.gle; replace hs11 := hs11.mono hk.gle; replace hs22 := hs22.mono hk.gle; replace hs24 := hs24.mono hk.gle; replace hs26 := hs26.mono hk.gle; replace hs37 := hs37.mono hk.gle; replace hs39 := hs39.mono hk.gle; replace hs41 := hs41.mono hk.gle; replace hs49 := hs49.mono hk.gle; replace hs54 := hs54.mono hk.gle; replace hs56 := hs56.mono hk.gle; replace hs58 := hs58.mono hk.gle; replace hs69 := hs69.mono hk.gle; replace hs71 := hs71.mono hk.gle; replace hs73 := hs73.mono hk.gle; replace hs84 := hs84.mono hk.gle; replace hs86 := hs86.mono hk.gle; replace hs88 := hs88.mono hk.gle; replace hs96 := hs96.mono hk.gle; replace hs101 := hs101.mono hk.gle; replace hs103 := hs103.mono hk.gle; replace hs105 := hs105.mono hk.gle; replace hs116 := hs116.mono hk.gle; replace hs118 := hs118.mono hk.gle; replace hs120 := hs120.mono hk.gle; replace hs131 := hs131.mono hk.gle; replace hs133 := hs133.mono hk.gle; replace hs135 := hs135.mono hk.gle; replace hs143 := hs143.mono hk.gle; replace hs205 := hs205.mono hk.gle; replace hs267 := hs267.mono hk.gle; replace hs314 := hs314.mono hk.gle; replace hs319 := hs319.mono hk.gle; replace hs321 := hs321.mono hk.gle; replace hs323 := hs323.mono hk.gle; replace hs334 := hs334.mono hk.gle; replace hs336 := hs336.mono hk.gle; replace hs338 := hs338.mono hk.gle
    obtain ⟨v348, v350, v352, rfl, hs349, hs351, hs353⟩ := Change.opIs hr346
    obtain ⟨A354, cap355, rfl⟩ := hs349.form
    obtain ⟨A356, cap357, rfl⟩ := hs351.form
    obtain ⟨A358, cap359, rfl⟩ := hs353.form
    refine wlBuildOwn (α := Change) (bl := [(b2, 28, ((digI ((2 : UInt8)))).cells), (b1, 28, ((digI ((1 : UInt8)))).cells)]) (r := []) (ps := [(0, .tmp 59), (1, .tmp 60), (2, .tmp 61)]) (xs := [((plainI 1)), ((plainI 2)), ((plainI 3))]) (rows := [[(.int .i64 (((plainI 1)).node)), (.int .i64 (((plainI 1)).view)), (.int .i64 (((plainI 1)).low)), (.slice A324 ((((plainI 1)).marks).length) cap325), (.slice A326 ((((plainI 1)).p).length) cap327), (.slice A328 ((((plainI 1)).q).length) cap329)], [(.int .i64 (((plainI 2)).node)), (.int .i64 (((plainI 2)).view)), (.int .i64 (((plainI 2)).low)), (.slice A339 ((((plainI 2)).marks).length) cap340), (.slice A341 ((((plainI 2)).p).length) cap342), (.slice A343 ((((plainI 2)).q).length) cap344)], [(.int .i64 (((plainI 3)).node)), (.int .i64 (((plainI 3)).view)), (.int .i64 (((plainI 3)).low)), (.slice A354 ((((plainI 3)).marks).length) cap355), (.slice A356 ((((plainI 3)).p).length) cap357), (.slice A358 ((((plainI 3)).q).length) cap359)]]) elo25 rfl rfl hC hB rfl rfl rfl ⟨(Change.mkIs (x := ((plainI 1))) hs319 hs321 hs323), (Change.mkIs (x := ((plainI 2))) hs334 hs336 hs338), (Change.mkIs (x := ((plainI 3))) hs349 hs351 hs353), trivial⟩ rfl ?_; intro g362 cs363 w hk hC hB hO364
    refine wlVal (opAssign rfl) rfl ?_
    refine wlThen (wcSeq (wcSeq (wcRegion ?_)))
    refine wlVal (opAssign rfl) rfl ?_
    refine wlThen ?_
    refine wcBlock ?_
    refine wcLoop 4 ?_
    refine wrSucc ?_
    refine wcSeq (wcSeq (wcRegion ?_))
    refine wlVal (opMove rfl) rfl ?_
    refine wlVal (opLss rfl rfl) rfl ?_
    refine wlThen ?_
    refine wcCondT rfl ?_
    refine wcSkip ?_
    refine wcOf ?_
    refine wcSeq ?_
    refine wcBlock (wcRegion ?_)
    refine wlVal (opMove rfl) rfl ?_
    refine wlVal (opMove rfl) rfl ?_
    refine wlVal (opBuild (ps := [(0, .const (.int .i64 9007199254740984))]) (cs := ((.int .i64 9007199254740984) :: (Dig.zero.cells ++ []))) so30 zero30 rfl rfl (by simp [buildCells, Value.cells])) rfl ?_
    refine wlVal (opLoadRow (cs := ((digI ((1 : UInt8)))).cells) rfl (hB.range (i := 1) (m := 32) rfl (by simp [Mark.cells, Stand.cells])) row28 (by simp [Mark.cells, Stand.cells])) rfl ?_
    refine wlVal (opBuild (ps := [(0, .const (.int .i64 9007199254740983)), (1, .tmp 70)]) (cs := ((.int .i64 9007199254740983) :: (((digI ((1 : UInt8)))).cells ++ []))) so30 zero30 rfl rfl (by simp [buildCells, Value.cells])) rfl ?_
    refine wlVal (opBuild (ps := [(0, .const (.int .i64 (-1)))]) (cs := ((.int .i64 ((-1))) :: (Dig.zero.cells ++ []))) so30 zero30 rfl rfl (by simp [buildCells, Value.cells])) rfl ?_
    refine wlVal (opLoadRow (cs := ((digI ((2 : UInt8)))).cells) rfl (hB.range (i := 0) (m := 32) rfl (by simp [Mark.cells, Stand.cells])) row28 (by simp [Mark.cells, Stand.cells])) rfl ?_
    refine wlVal (opBuild (ps := [(0, .const (.int .i64 9007199254740983)), (1, .tmp 73)]) (cs := ((.int .i64 9007199254740983) :: (((digI ((2 : UInt8)))).cells ++ []))) so30 zero30 rfl rfl (by simp [buildCells, Value.cells])) rfl ?_
    refine wlBuildSlice (α := Mark) (ps := [(0, .tmp 69), (1, .tmp 71), (2, .tmp 72), (3, .tmp 74)]) (xs := [(Mark.mk 9007199254740984 Dig.zero), (Mark.mk 9007199254740983 ((digI ((1 : UInt8))))), (Mark.mk ((-1)) Dig.zero), (Mark.mk 9007199254740983 ((digI ((2 : UInt8)))))]) (rows := [((.int .i64 9007199254740984) :: (Dig.zero.cells ++ [])), ((.int .i64 9007199254740983) :: (((digI ((1 : UInt8)))).cells ++ [])), ((.int .i64 ((-1))) :: (Dig.zero.cells ++ [])), ((.int .i64 9007199254740983) :: (((digI ((2 : UInt8)))).cells ++ []))]) elo31 rfl rfl hC hB rfl rfl rfl ⟨rfl, rfl, rfl, rfl, trivial⟩ rfl ?_; intro b365 G w hk hC hB hs366
    replace hs7 := hs7.mono hk.gle; replace hs9 := hs9.mono hk.gle; replace hs11 := hs11.mono hk.gle; replace hs22 := hs22.mono hk.gle; replace hs24 := hs24.mono hk.gle; replace hs26 := hs26.mono hk.gle; replace hs37 := hs37.mono hk.gle; replace hs39 := hs39.mono hk.gle; replace hs41 := hs41.mono hk.gle; replace hs49 := hs49.mono hk.gle; replace hs54 := hs54.mono hk.gle; replace hs56 := hs56.mono hk.gle; replace hs58 := hs58.mono hk.gle; replace hs69 := hs69.mono hk.gle; replace hs71 := hs71.mono hk.gle; replace hs73 := hs73.mono hk.gle; replace hs84 := hs84.mono hk.gle; replace hs86 := hs86.mono hk.gle; replace hs88 := hs88.mono hk.gle; replace hs96 := hs96.mono hk.gle; replace hs101 := hs101.mono hk.gle; replace hs103 := hs103.mono hk.gle; replace hs105 := hs105.mono hk.gle; replace hs116 := hs116.mono hk.gle; replace hs118 := hs118.mono hk.gle; replace hs120 := hs120.mono hk.gle; replace hs131 := hs131.mono hk.gle; replace hs133 := hs133.mono hk.gle; replace hs135 := hs135.mono hk.gle; replace hs143 := hs143.mono hk.gle; replace hs205 := hs205.mono hk.gle; replace hs267 := hs267.mono hk.gle; replace hs314 := hs314.mono hk.gle; replace hs319 := hs319.mono hk.gle; replace hs321 := hs321.mono hk.gle; replace hs323 := hs323.mono hk.gle; replace hs334 := hs334.mono hk.gle; replace hs336 := hs336.mono hk.gle; replace hs338 := hs338.mono hk.gle; replace hs349 := hs349.mono hk.gle; replace hs351 := hs351.mono hk.gle; replace hs353 := hs353.mono hk.gle; replace hO364 := hO364.mono hk.gle
    obtain ⟨x367, hx368⟩ : ∃ y_, ([((plainI 1)), ((plainI 2)), ((plainI 3))])[0]? = some y_ := ⟨_, List.getElem?_eq_getElem (by simp)⟩
    refine wlVal (opIndexAddr (i := 0) rfl rfl slo25 (by simp)) rfl ?_
    refine wlVal (opFieldAddr rfl fo49_3) rfl ?_
    refine wlStoreOw (α := Change) (bl := [(b2, 28, ((digI ((2 : UInt8)))).cells), (b1, 28, ((digI ((1 : UInt8)))).cells)]) (r := []) (vs := [(.slice (some ⟨b365, 0, none⟩) 4 4)]) (off := 3) (y := (Change.mk x367.node x367.view x367.low ([(Mark.mk 9007199254740984 Dig.zero), (Mark.mk 9007199254740983 ((digI ((1 : UInt8))))), (Mark.mk ((-1)) Dig.zero), (Mark.mk 9007199254740983 ((digI ((2 : UInt8)))))]) x367.p x367.q)) hC hB hO364 hx368 rfl (by show _ = _ * 6 + 3; omega) rfl sz31 rfl rfl rfl (by decide) (fun row h => by obtain ⟨v0_, v1_, v2_, rfl, h0_, h1_, h2_⟩ := Change.opIs h; exact Change.mkIs (x := (Change.mk x367.node x367.view x367.low ([(Mark.mk 9007199254740984 Dig.zero), (Mark.mk 9007199254740983 ((digI ((1 : UInt8))))), (Mark.mk ((-1)) Dig.zero), (Mark.mk 9007199254740983 ((digI ((2 : UInt8)))))]) x367.p x367.q)) hs366 h1_ h2_) rfl ?_; intro cs369 w hC hB hO370
    refine wlNil ?_
    refine wcOf ?_
    refine wcRegion ?_
    refine wlVal (opMove rfl) rfl ?_
    refine wlVal (OpVal.cast (v' := .int .i64 1) (opAdd rfl rfl) (congrArg (Value.int .i64) (by decide))) rfl ?_
    refine wlVal (opAssign rfl) rfl ?_
    refine wlRound ?_
    refine wrSucc ?_
    refine wcSeq (wcSeq (wcRegion ?_))
    refine wlVal (opMove rfl) rfl ?_
    refine wlVal (opLss rfl rfl) rfl ?_
    refine wlThen ?_
    refine wcCondT rfl ?_
    refine wcSkip ?_
    refine wcOf ?_
    refine wcSeq ?_
    refine wcBlock (wcRegion ?_)
    refine wlVal (opMove rfl) rfl ?_
    refine wlVal (opMove rfl) rfl ?_
    refine wlVal (opBuild (ps := [(0, .const (.int .i64 9007199254740984))]) (cs := ((.int .i64 9007199254740984) :: (Dig.zero.cells ++ []))) so30 zero30 rfl rfl (by simp [buildCells, Value.cells])) rfl ?_
    refine wlVal (opLoadRow (cs := ((digI ((1 : UInt8)))).cells) rfl (hB.range (i := 1) (m := 32) rfl (by simp [Mark.cells, Stand.cells])) row28 (by simp [Mark.cells, Stand.cells])) rfl ?_
    refine wlVal (opBuild (ps := [(0, .const (.int .i64 9007199254740983)), (1, .tmp 70)]) (cs := ((.int .i64 9007199254740983) :: (((digI ((1 : UInt8)))).cells ++ []))) so30 zero30 rfl rfl (by simp [buildCells, Value.cells])) rfl ?_
    refine wlVal (opBuild (ps := [(0, .const (.int .i64 (-1)))]) (cs := ((.int .i64 ((-1))) :: (Dig.zero.cells ++ []))) so30 zero30 rfl rfl (by simp [buildCells, Value.cells])) rfl ?_
    refine wlVal (opLoadRow (cs := ((digI ((2 : UInt8)))).cells) rfl (hB.range (i := 0) (m := 32) rfl (by simp [Mark.cells, Stand.cells])) row28 (by simp [Mark.cells, Stand.cells])) rfl ?_
    refine wlVal (opBuild (ps := [(0, .const (.int .i64 9007199254740983)), (1, .tmp 73)]) (cs := ((.int .i64 9007199254740983) :: (((digI ((2 : UInt8)))).cells ++ []))) so30 zero30 rfl rfl (by simp [buildCells, Value.cells])) rfl ?_
    refine wlBuildSlice (α := Mark) (ps := [(0, .tmp 69), (1, .tmp 71), (2, .tmp 72), (3, .tmp 74)]) (xs := [(Mark.mk 9007199254740984 Dig.zero), (Mark.mk 9007199254740983 ((digI ((1 : UInt8))))), (Mark.mk ((-1)) Dig.zero), (Mark.mk 9007199254740983 ((digI ((2 : UInt8)))))]) (rows := [((.int .i64 9007199254740984) :: (Dig.zero.cells ++ [])), ((.int .i64 9007199254740983) :: (((digI ((1 : UInt8)))).cells ++ [])), ((.int .i64 ((-1))) :: (Dig.zero.cells ++ [])), ((.int .i64 9007199254740983) :: (((digI ((2 : UInt8)))).cells ++ []))]) elo31 rfl rfl hC hB rfl rfl rfl ⟨rfl, rfl, rfl, rfl, trivial⟩ rfl ?_; intro b371 G w hk hC hB hs372
    replace hs7 := hs7.mono hk.gle; replace hs9 := hs9.mono hk.gle; replace hs11 := hs11.mono hk.gle; replace hs22 := hs22.mono hk.gle; replace hs24 := hs24.mono hk.gle; replace hs26 := hs26.mono hk.gle; replace hs37 := hs37.mono hk.gle; replace hs39 := hs39.mono hk.gle; replace hs41 := hs41.mono hk.gle; replace hs49 := hs49.mono hk.gle; replace hs54 := hs54.mono hk.gle; replace hs56 := hs56.mono hk.gle; replace hs58 := hs58.mono hk.gle; replace hs69 := hs69.mono hk.gle; replace hs71 := hs71.mono hk.gle; replace hs73 := hs73.mono hk.gle; replace hs84 := hs84.mono hk.gle; replace hs86 := hs86.mono hk.gle; replace hs88 := hs88.mono hk.gle; replace hs96 := hs96.mono hk.gle; replace hs101 := hs101.mono hk.gle; replace hs103 := hs103.mono hk.gle; replace hs105 := hs105.mono hk.gle; replace hs116 := hs116.mono hk.gle; replace hs118 := hs118.mono hk.gle; replace hs120 := hs120.mono hk.gle; replace hs131 := hs131.mono hk.gle; replace hs133 := hs133.mono hk.gle; replace hs135 := hs135.mono hk.gle; replace hs143 := hs143.mono hk.gle; replace hs205 := hs205.mono hk.gle; replace hs267 := hs267.mono hk.gle; replace hs314 := hs314.mono hk.gle; replace hs319 := hs319.mono hk.gle; replace hs321 := hs321.mono hk.gle; replace hs323 := hs323.mono hk.gle; replace hs334 := hs334.mono hk.gle; replace hs336 := hs336.mono hk.gle; replace hs338 := hs338.mono hk.gle; replace hs349 := hs349.mono hk.gle; replace hs351 := hs351.mono hk.gle; replace hs353 := hs353.mono hk.gle; replace hs366 := hs366.mono hk.gle; replace hO370 := hO370.mono hk.gle
    obtain ⟨x373, hx374⟩ : ∃ y_, ((List.set ([((plainI 1)), ((plainI 2)), ((plainI 3))]) 0 (Change.mk x367.node x367.view x367.low ([(Mark.mk 9007199254740984 Dig.zero), (Mark.mk 9007199254740983 ((digI ((1 : UInt8))))), (Mark.mk ((-1)) Dig.zero), (Mark.mk 9007199254740983 ((digI ((2 : UInt8)))))]) x367.p x367.q)))[1]? = some y_ := ⟨_, List.getElem?_eq_getElem (by simp)⟩
    refine wlVal (opIndexAddr (i := 1) rfl rfl slo25 (by simp)) rfl ?_
    refine wlVal (opFieldAddr rfl fo49_3) rfl ?_
    refine wlStoreOw (α := Change) (bl := [(b2, 28, ((digI ((2 : UInt8)))).cells), (b1, 28, ((digI ((1 : UInt8)))).cells)]) (r := []) (vs := [(.slice (some ⟨b371, 0, none⟩) 4 4)]) (off := 3) (y := (Change.mk x373.node x373.view x373.low ([(Mark.mk 9007199254740984 Dig.zero), (Mark.mk 9007199254740983 ((digI ((1 : UInt8))))), (Mark.mk ((-1)) Dig.zero), (Mark.mk 9007199254740983 ((digI ((2 : UInt8)))))]) x373.p x373.q)) hC hB hO370 hx374 rfl (by show _ = _ * 6 + 3; omega) rfl sz31 rfl rfl rfl (by decide) (fun row h => by obtain ⟨v0_, v1_, v2_, rfl, h0_, h1_, h2_⟩ := Change.opIs h; exact Change.mkIs (x := (Change.mk x373.node x373.view x373.low ([(Mark.mk 9007199254740984 Dig.zero), (Mark.mk 9007199254740983 ((digI ((1 : UInt8))))), (Mark.mk ((-1)) Dig.zero), (Mark.mk 9007199254740983 ((digI ((2 : UInt8)))))]) x373.p x373.q)) hs372 h1_ h2_) rfl ?_; intro cs375 w hC hB hO376
    refine wlNil ?_
    refine wcOf ?_
    refine wcRegion ?_
    refine wlVal (opMove rfl) rfl ?_
    refine wlVal (OpVal.cast (v' := .int .i64 2) (opAdd rfl rfl) (congrArg (Value.int .i64) (by decide))) rfl ?_
    refine wlVal (opAssign rfl) rfl ?_
    refine wlRound ?_
    refine wrSucc ?_
    refine wcSeq (wcSeq (wcRegion ?_))
    refine wlVal (opMove rfl) rfl ?_
    refine wlVal (opLss rfl rfl) rfl ?_
    refine wlThen ?_
    refine wcCondT rfl ?_
    refine wcSkip ?_
    refine wcOf ?_
    refine wcSeq ?_
    refine wcBlock (wcRegion ?_)
    refine wlVal (opMove rfl) rfl ?_
    refine wlVal (opMove rfl) rfl ?_
    refine wlVal (opBuild (ps := [(0, .const (.int .i64 9007199254740984))]) (cs := ((.int .i64 9007199254740984) :: (Dig.zero.cells ++ []))) so30 zero30 rfl rfl (by simp [buildCells, Value.cells])) rfl ?_
    refine wlVal (opLoadRow (cs := ((digI ((1 : UInt8)))).cells) rfl (hB.range (i := 1) (m := 32) rfl (by simp [Mark.cells, Stand.cells])) row28 (by simp [Mark.cells, Stand.cells])) rfl ?_
    refine wlVal (opBuild (ps := [(0, .const (.int .i64 9007199254740983)), (1, .tmp 70)]) (cs := ((.int .i64 9007199254740983) :: (((digI ((1 : UInt8)))).cells ++ []))) so30 zero30 rfl rfl (by simp [buildCells, Value.cells])) rfl ?_
    refine wlVal (opBuild (ps := [(0, .const (.int .i64 (-1)))]) (cs := ((.int .i64 ((-1))) :: (Dig.zero.cells ++ []))) so30 zero30 rfl rfl (by simp [buildCells, Value.cells])) rfl ?_
    refine wlVal (opLoadRow (cs := ((digI ((2 : UInt8)))).cells) rfl (hB.range (i := 0) (m := 32) rfl (by simp [Mark.cells, Stand.cells])) row28 (by simp [Mark.cells, Stand.cells])) rfl ?_
    refine wlVal (opBuild (ps := [(0, .const (.int .i64 9007199254740983)), (1, .tmp 73)]) (cs := ((.int .i64 9007199254740983) :: (((digI ((2 : UInt8)))).cells ++ []))) so30 zero30 rfl rfl (by simp [buildCells, Value.cells])) rfl ?_
    refine wlBuildSlice (α := Mark) (ps := [(0, .tmp 69), (1, .tmp 71), (2, .tmp 72), (3, .tmp 74)]) (xs := [(Mark.mk 9007199254740984 Dig.zero), (Mark.mk 9007199254740983 ((digI ((1 : UInt8))))), (Mark.mk ((-1)) Dig.zero), (Mark.mk 9007199254740983 ((digI ((2 : UInt8)))))]) (rows := [((.int .i64 9007199254740984) :: (Dig.zero.cells ++ [])), ((.int .i64 9007199254740983) :: (((digI ((1 : UInt8)))).cells ++ [])), ((.int .i64 ((-1))) :: (Dig.zero.cells ++ [])), ((.int .i64 9007199254740983) :: (((digI ((2 : UInt8)))).cells ++ []))]) elo31 rfl rfl hC hB rfl rfl rfl ⟨rfl, rfl, rfl, rfl, trivial⟩ rfl ?_; intro b377 G w hk hC hB hs378
    replace hs7 := hs7.mono hk.gle; replace hs9 := hs9.mono hk.gle; replace hs11 := hs11.mono hk.gle; replace hs22 := hs22.mono hk.gle; replace hs24 := hs24.mono hk.gle; replace hs26 := hs26.mono hk.gle; replace hs37 := hs37.mono hk.gle; replace hs39 := hs39.mono hk.gle; replace hs41 := hs41.mono hk.gle; replace hs49 := hs49.mono hk.gle; replace hs54 := hs54.mono hk.gle; replace hs56 := hs56.mono hk.gle; replace hs58 := hs58.mono hk.gle; replace hs69 := hs69.mono hk.gle; replace hs71 := hs71.mono hk.gle; replace hs73 := hs73.mono hk.gle; replace hs84 := hs84.mono hk.gle; replace hs86 := hs86.mono hk.gle; replace hs88 := hs88.mono hk.gle; replace hs96 := hs96.mono hk.gle; replace hs101 := hs101.mono hk.gle; replace hs103 := hs103.mono hk.gle; replace hs105 := hs105.mono hk.gle; replace hs116 := hs116.mono hk.gle; replace hs118 := hs118.mono hk.gle; replace hs120 := hs120.mono hk.gle; replace hs131 := hs131.mono hk.gle; replace hs133 := hs133.mono hk.gle; replace hs135 := hs135.mono hk.gle; replace hs143 := hs143.mono hk.gle; replace hs205 := hs205.mono hk.gle; replace hs267 := hs267.mono hk.gle; replace hs314 := hs314.mono hk.gle; replace hs319 := hs319.mono hk.gle; replace hs321 := hs321.mono hk.gle; replace hs323 := hs323.mono hk.gle; replace hs334 := hs334.mono hk.gle; replace hs336 := hs336.mono hk.gle; replace hs338 := hs338.mono hk.gle; replace hs349 := hs349.mono hk.gle; replace hs351 := hs351.mono hk.gle; replace hs353 := hs353.mono hk.gle; replace hs366 := hs366.mono hk.gle; replace hs372 := hs372.mono hk.gle; replace hO376 := hO376.mono hk.gle
    obtain ⟨x379, hx380⟩ : ∃ y_, ((List.set ((List.set ([((plainI 1)), ((plainI 2)), ((plainI 3))]) 0 (Change.mk x367.node x367.view x367.low ([(Mark.mk 9007199254740984 Dig.zero), (Mark.mk 9007199254740983 ((digI ((1 : UInt8))))), (Mark.mk ((-1)) Dig.zero), (Mark.mk 9007199254740983 ((digI ((2 : UInt8)))))]) x367.p x367.q))) 1 (Change.mk x373.node x373.view x373.low ([(Mark.mk 9007199254740984 Dig.zero), (Mark.mk 9007199254740983 ((digI ((1 : UInt8))))), (Mark.mk ((-1)) Dig.zero), (Mark.mk 9007199254740983 ((digI ((2 : UInt8)))))]) x373.p x373.q)))[2]? = some y_ := ⟨_, List.getElem?_eq_getElem (by simp)⟩
    refine wlVal (opIndexAddr (i := 2) rfl rfl slo25 (by simp)) rfl ?_
    refine wlVal (opFieldAddr rfl fo49_3) rfl ?_
    refine wlStoreOw (α := Change) (bl := [(b2, 28, ((digI ((2 : UInt8)))).cells), (b1, 28, ((digI ((1 : UInt8)))).cells)]) (r := []) (vs := [(.slice (some ⟨b377, 0, none⟩) 4 4)]) (off := 3) (y := (Change.mk x379.node x379.view x379.low ([(Mark.mk 9007199254740984 Dig.zero), (Mark.mk 9007199254740983 ((digI ((1 : UInt8))))), (Mark.mk ((-1)) Dig.zero), (Mark.mk 9007199254740983 ((digI ((2 : UInt8)))))]) x379.p x379.q)) hC hB hO376 hx380 rfl (by show _ = _ * 6 + 3; omega) rfl sz31 rfl rfl rfl (by decide) (fun row h => by obtain ⟨v0_, v1_, v2_, rfl, h0_, h1_, h2_⟩ := Change.opIs h; exact Change.mkIs (x := (Change.mk x379.node x379.view x379.low ([(Mark.mk 9007199254740984 Dig.zero), (Mark.mk 9007199254740983 ((digI ((1 : UInt8))))), (Mark.mk ((-1)) Dig.zero), (Mark.mk 9007199254740983 ((digI ((2 : UInt8)))))]) x379.p x379.q)) hs378 h1_ h2_) rfl ?_; intro cs381 w hC hB hO382
    refine wlNil ?_
    refine wcOf ?_
    refine wcRegion ?_
    refine wlVal (opMove rfl) rfl ?_
    refine wlVal (OpVal.cast (v' := .int .i64 3) (opAdd rfl rfl) (congrArg (Value.int .i64) (by decide))) rfl ?_
    refine wlVal (opAssign rfl) rfl ?_
    refine wlRound ?_
    refine wrSucc ?_
    refine wcSeq (wcSeq (wcRegion ?_))
    refine wlVal (opMove rfl) rfl ?_
    refine wlVal (opLss rfl rfl) rfl ?_
    refine wlThen ?_
    refine wcCondF rfl ?_
    refine wcExit ?_
    refine wcOf ?_
    refine wcSeq (wcRegion ?_)
    refine wlCallG hC hB rfl co18 rfl rfl (plain_ret _ _ hC.holds 1) ?_; rintro v385 G w hk hC hB ⟨r383, rfl, hr384⟩
    replace hs7 := hs7.mono hk.gle; replace hs9 := hs9.mono hk.gle; replace hs11 := hs11.mono hk.gle; replace hs22 := hs22.mono hk.gle; replace hs24 := hs24.mono hk.gle; replace hs26 := hs26.mono hk.gle; replace hs37 := hs37.mono hk.gle; replace hs39 := hs39.mono hk.gle; replace hs41 := hs41.mono hk.gle; replace hs49 := hs49.mono hk.gle; replace hs54 := hs54.mono hk.gle; replace hs56 := hs56.mono hk.gle; replace hs58 := hs58.mono hk.gle; replace hs69 := hs69.mono hk.gle; replace hs71 := hs71.mono hk.gle; replace hs73 := hs73.mono hk.gle; replace hs84 := hs84.mono hk.gle; replace hs86 := hs86.mono hk.gle; replace hs88 := hs88.mono hk.gle; replace hs96 := hs96.mono hk.gle; replace hs101 := hs101.mono hk.gle; replace hs103 := hs103.mono hk.gle; replace hs105 := hs105.mono hk.gle; replace hs116 := hs116.mono hk.gle; replace hs118 := hs118.mono hk.gle; replace hs120 := hs120.mono hk.gle; replace hs131 := hs131.mono hk.gle; replace hs133 := hs133.mono hk.gle; replace hs135 := hs135.mono hk.gle; replace hs143 := hs143.mono hk.gle; replace hs205 := hs205.mono hk.gle; replace hs267 := hs267.mono hk.gle; replace hs314 := hs314.mono hk.gle; replace hs319 := hs319.mono hk.gle; replace hs321 := hs321.mono hk.gle; replace hs323 := hs323.mono hk.gle; replace hs334 := hs334.mono hk.gle; replace hs336 := hs336.mono hk.gle; replace hs338 := hs338.mono hk.gle; replace hs349 := hs349.mono hk.gle; replace hs351 := hs351.mono hk.gle; replace hs353 := hs353.mono hk.gle; replace hs366 := hs366.mono hk.gle; replace hs372 := hs372.mono hk.gle; replace hs378 := hs378.mono hk.gle; replace hO382 := hO382.mono hk.gle
    obtain ⟨v386, v388, v390, rfl, hs387, hs389, hs391⟩ := Change.opIs hr384
    obtain ⟨A392, cap393, rfl⟩ := hs387.form
    obtain ⟨A394, cap395, rfl⟩ := hs389.form
    obtain ⟨A396, cap397, rfl⟩ := hs391.form
    refine wlCallG hC hB rfl co18 rfl rfl (plain_ret _ _ hC.holds 2) ?_; rintro v400 G w hk hC hB ⟨r398, rfl, hr399⟩
    replace hs7 := hs7.mono hk.gle; replace hs9 := hs9.mono hk.gle; replace hs11 := hs11.mono hk.gle; replace hs22 := hs22.mono hk.gle; replace hs24 := hs24.mono hk.gle; replace hs26 := hs26.mono hk.gle; replace hs37 := hs37.mono hk.gle; replace hs39 := hs39.mono hk.gle; replace hs41 := hs41.mono hk.gle; replace hs49 := hs49.mono hk.gle; replace hs54 := hs54.mono hk.gle; replace hs56 := hs56.mono hk.gle; replace hs58 := hs58.mono hk.gle; replace hs69 := hs69.mono hk.gle; replace hs71 := hs71.mono hk.gle; replace hs73 := hs73.mono hk.gle; replace hs84 := hs84.mono hk.gle; replace hs86 := hs86.mono hk.gle; replace hs88 := hs88.mono hk.gle; replace hs96 := hs96.mono hk.gle; replace hs101 := hs101.mono hk.gle; replace hs103 := hs103.mono hk.gle; replace hs105 := hs105.mono hk.gle; replace hs116 := hs116.mono hk.gle; replace hs118 := hs118.mono hk.gle; replace hs120 := hs120.mono hk.gle; replace hs131 := hs131.mono hk.gle; replace hs133 := hs133.mono hk.gle; replace hs135 := hs135.mono hk.gle; replace hs143 := hs143.mono hk.gle; replace hs205 := hs205.mono hk.gle; replace hs267 := hs267.mono hk.gle; replace hs314 := hs314.mono hk.gle; replace hs319 := hs319.mono hk.gle; replace hs321 := hs321.mono hk.gle; replace hs323 := hs323.mono hk.gle; replace hs334 := hs334.mono hk.gle; replace hs336 := hs336.mono hk.gle; replace hs338 := hs338.mono hk.gle; replace hs349 := hs349.mono hk.gle; replace hs351 := hs351.mono hk.gle; replace hs353 := hs353.mono hk.gle; replace hs366 := hs366.mono hk.gle; replace hs372 := hs372.mono hk.gle; replace hs378 := hs378.mono hk.gle; replace hO382 := hO382.mono hk.gle; replace hs387 := hs387.mono hk.gle; replace hs389 := hs389.mono hk.gle; replace hs391 := hs391.mono hk.gle
    obtain ⟨v401, v403, v405, rfl, hs402, hs404, hs406⟩ := Change.opIs hr399
    obtain ⟨A407, cap408, rfl⟩ := hs402.form
    obtain ⟨A409, cap410, rfl⟩ := hs404.form
    obtain ⟨A411, cap412, rfl⟩ := hs406.form
    refine wlCallG hC hB rfl co18 rfl rfl (plain_ret _ _ hC.holds 3) ?_; rintro v415 G w hk hC hB ⟨r413, rfl, hr414⟩
    replace hs7 := hs7.mono hk.gle; replace hs9 := hs9.mono hk.gle; replace hs11 := hs11.mono hk.gle; replace hs22 := hs22.mono hk.gle; replace hs24 := hs24.mono hk.gle; replace hs26 := hs26.mono hk.gle; replace hs37 := hs37.mono hk.gle; replace hs39 := hs39.mono hk.gle; replace hs41 := hs41.mono hk.gle; replace hs49 := hs49.mono hk.gle; replace hs54 := hs54.mono hk.gle; replace hs56 := hs56.mono hk.gle; replace hs58 := hs58.mono hk.gle; replace hs69 := hs69.mono hk.gle; replace hs71 := hs71.mono hk.gle; replace hs73 := hs73.mono hk.gle; replace hs84 := hs84.mono hk.gle; replace hs86 := hs86.mono hk.gle; replace hs88 := hs88.mono hk.gle; replace hs96 := hs96.mono hk.gle; replace hs101 := hs101.mono hk.gle; replace hs103 := hs103.mono hk.gle; replace hs105 := hs105.mono hk.gle; replace hs116 := hs116.mono hk.gle; replace hs118 := hs118.mono hk.gle; replace hs120 := hs120.mono hk.gle; replace hs131 := hs131.mono hk.gle; replace hs133 := hs133.mono hk.gle; replace hs135 := hs135.mono hk.gle; replace hs143 := hs143.mono hk.gle; replace hs205 := hs205.mono hk.gle; replace hs267 := hs267.mono hk.gle; replace hs314 := hs314.mono hk.gle; replace hs319 := hs319.mono hk.gle; replace hs321 := hs321.mono hk.gle; replace hs323 := hs323.mono hk.gle; replace hs334 := hs334.mono hk.gle; replace hs336 := hs336.mono hk.gle; replace hs338 := hs338.mono hk.gle; replace hs349 := hs349.mono hk.gle; replace hs351 := hs351.mono hk.gle; replace hs353 := hs353.mono hk.gle; replace hs366 := hs366.mono hk.gle; replace hs372 := hs372.mono hk.gle; replace hs378 := hs378.mono hk.gle; replace hO382 := hO382.mono hk.gle; replace hs387 := hs387.mono hk.gle; replace hs389 := hs389.mono hk.gle; replace hs391 := hs391.mono hk.gle; replace hs402 := hs402.mono hk.gle; replace hs404 := hs404.mono hk.gle; replace hs406 := hs406.mono hk.gle
    obtain ⟨v416, v418, v420, rfl, hs417, hs419, hs421⟩ := Change.opIs hr414
    obtain ⟨A422, cap423, rfl⟩ := hs417.form
    obtain ⟨A424, cap425, rfl⟩ := hs419.form
    obtain ⟨A426, cap427, rfl⟩ := hs421.form
    refine wlBuildOwn (α := Change) (bl := [(b2, 28, ((digI ((2 : UInt8)))).cells), (b1, 28, ((digI ((1 : UInt8)))).cells)]) (r := (Option.toList ((some (g362, 49, cs381))) ++ [])) (ps := [(0, .tmp 78), (1, .tmp 79), (2, .tmp 80)]) (xs := [((plainI 1)), ((plainI 2)), ((plainI 3))]) (rows := [[(.int .i64 (((plainI 1)).node)), (.int .i64 (((plainI 1)).view)), (.int .i64 (((plainI 1)).low)), (.slice A392 ((((plainI 1)).marks).length) cap393), (.slice A394 ((((plainI 1)).p).length) cap395), (.slice A396 ((((plainI 1)).q).length) cap397)], [(.int .i64 (((plainI 2)).node)), (.int .i64 (((plainI 2)).view)), (.int .i64 (((plainI 2)).low)), (.slice A407 ((((plainI 2)).marks).length) cap408), (.slice A409 ((((plainI 2)).p).length) cap410), (.slice A411 ((((plainI 2)).q).length) cap412)], [(.int .i64 (((plainI 3)).node)), (.int .i64 (((plainI 3)).view)), (.int .i64 (((plainI 3)).low)), (.slice A422 ((((plainI 3)).marks).length) cap423), (.slice A424 ((((plainI 3)).p).length) cap425), (.slice A426 ((((plainI 3)).q).length) cap427)]]) elo25 rfl rfl hC hB rfl rfl rfl ⟨(Change.mkIs (x := ((plainI 1))) hs387 hs389 hs391), (Change.mkIs (x := ((plainI 2))) hs402 hs404 hs406), (Change.mkIs (x := ((plainI 3))) hs417 hs419 hs421), trivial⟩ rfl ?_; intro g430 cs431 w hk hC hB hO432
    refine wlVal (opAssign rfl) rfl ?_
    refine wlThen (wcSeq (wcRegion ?_))
    refine wlVal (opMove rfl) rfl ?_
    refine wlVal (opIndexAddr (i := 0) rfl rfl slo25 (by simp)) rfl ?_
    refine wlVal (opFieldAddr rfl fo49_2) rfl ?_
    refine wlStoreOw (α := Change) (bl := [(b2, 28, ((digI ((2 : UInt8)))).cells), (b1, 28, ((digI ((1 : UInt8)))).cells)]) (r := (Option.toList ((some (g362, 49, cs381))) ++ [])) (vs := [(.int .i64 4)]) (off := 2) (y := (Change.mk x367.node x367.view 4 x367.marks x367.p x367.q)) hC hB hO432 hx368 rfl (by show _ = _ * 6 + 2; omega) rfl sz3 rfl rfl rfl (by decide) (fun row h => by obtain ⟨v0_, v1_, v2_, rfl, h0_, h1_, h2_⟩ := Change.opIs h; exact Change.mkIs (x := (Change.mk x367.node x367.view 4 x367.marks x367.p x367.q)) h0_ h1_ h2_) rfl ?_; intro cs433 w hC hB hO434
    refine wlThen (wcSeq (wcRegion ?_))
    refine wlVal (opMove rfl) rfl ?_
    obtain ⟨x435, hx436⟩ : ∃ y_, ((List.set ([((plainI 1)), ((plainI 2)), ((plainI 3))]) 0 (Change.mk x367.node x367.view 4 x367.marks x367.p x367.q)))[1]? = some y_ := ⟨_, List.getElem?_eq_getElem (by simp)⟩
    refine wlVal (opIndexAddr (i := 1) rfl rfl slo25 (by simp)) rfl ?_
    refine wlVal (opFieldAddr rfl fo49_2) rfl ?_
    refine wlStoreOw (α := Change) (bl := [(b2, 28, ((digI ((2 : UInt8)))).cells), (b1, 28, ((digI ((1 : UInt8)))).cells)]) (r := (Option.toList ((some (g362, 49, cs381))) ++ [])) (vs := [(.int .i64 4)]) (off := 2) (y := (Change.mk x435.node x435.view 4 x435.marks x435.p x435.q)) hC hB hO434 hx436 rfl (by show _ = _ * 6 + 2; omega) rfl sz3 rfl rfl rfl (by decide) (fun row h => by obtain ⟨v0_, v1_, v2_, rfl, h0_, h1_, h2_⟩ := Change.opIs h; exact Change.mkIs (x := (Change.mk x435.node x435.view 4 x435.marks x435.p x435.q)) h0_ h1_ h2_) rfl ?_; intro cs437 w hC hB hO438
    refine wlThen (wcSeq ?_)
    replace hB := Bxs.swapOwn (bl := [(b2, 28, ((digI ((2 : UInt8)))).cells), (b1, 28, ((digI ((1 : UInt8)))).cells)]) (A := Option.toList ((some (g430, 49, cs437)))) (B := Option.toList ((some (g362, 49, cs381)))) (r := []) hB
    obtain ⟨G, hg461, hC, hB, hs460⟩ := Ow.freeze' (bl := [(b2, 28, ((digI ((2 : UInt8)))).cells), (b1, 28, ((digI ((1 : UInt8)))).cells)]) (r := (Option.toList ((some (g430, 49, cs437))) ++ [])) hO382 hC (Nat.le_refl _) hB (by simp [maxL])
    replace hs7 := hs7.mono hg461; replace hs9 := hs9.mono hg461; replace hs11 := hs11.mono hg461; replace hs22 := hs22.mono hg461; replace hs24 := hs24.mono hg461; replace hs26 := hs26.mono hg461; replace hs37 := hs37.mono hg461; replace hs39 := hs39.mono hg461; replace hs41 := hs41.mono hg461; replace hs49 := hs49.mono hg461; replace hs54 := hs54.mono hg461; replace hs56 := hs56.mono hg461; replace hs58 := hs58.mono hg461; replace hs69 := hs69.mono hg461; replace hs71 := hs71.mono hg461; replace hs73 := hs73.mono hg461; replace hs84 := hs84.mono hg461; replace hs86 := hs86.mono hg461; replace hs88 := hs88.mono hg461; replace hs96 := hs96.mono hg461; replace hs101 := hs101.mono hg461; replace hs103 := hs103.mono hg461; replace hs105 := hs105.mono hg461; replace hs116 := hs116.mono hg461; replace hs118 := hs118.mono hg461; replace hs120 := hs120.mono hg461; replace hs131 := hs131.mono hg461; replace hs133 := hs133.mono hg461; replace hs135 := hs135.mono hg461; replace hs143 := hs143.mono hg461; replace hs205 := hs205.mono hg461; replace hs267 := hs267.mono hg461; replace hs314 := hs314.mono hg461; replace hs319 := hs319.mono hg461; replace hs321 := hs321.mono hg461; replace hs323 := hs323.mono hg461; replace hs334 := hs334.mono hg461; replace hs336 := hs336.mono hg461; replace hs338 := hs338.mono hg461; replace hs349 := hs349.mono hg461; replace hs351 := hs351.mono hg461; replace hs353 := hs353.mono hg461; replace hs366 := hs366.mono hg461; replace hs372 := hs372.mono hg461; replace hs378 := hs378.mono hg461; replace hs387 := hs387.mono hg461; replace hs389 := hs389.mono hg461; replace hs391 := hs391.mono hg461; replace hs402 := hs402.mono hg461; replace hs404 := hs404.mono hg461; replace hs406 := hs406.mono hg461; replace hs417 := hs417.mono hg461; replace hs419 := hs419.mono hg461; replace hs421 := hs421.mono hg461; replace hO438 := hO438.mono hg461
    obtain ⟨G, hg484, hC, hB, hs483⟩ := Ow.freeze' (bl := [(b2, 28, ((digI ((2 : UInt8)))).cells), (b1, 28, ((digI ((1 : UInt8)))).cells)]) (r := []) hO438 hC (Nat.le_refl _) hB (by simp [maxL])
    replace hs7 := hs7.mono hg484; replace hs9 := hs9.mono hg484; replace hs11 := hs11.mono hg484; replace hs22 := hs22.mono hg484; replace hs24 := hs24.mono hg484; replace hs26 := hs26.mono hg484; replace hs37 := hs37.mono hg484; replace hs39 := hs39.mono hg484; replace hs41 := hs41.mono hg484; replace hs49 := hs49.mono hg484; replace hs54 := hs54.mono hg484; replace hs56 := hs56.mono hg484; replace hs58 := hs58.mono hg484; replace hs69 := hs69.mono hg484; replace hs71 := hs71.mono hg484; replace hs73 := hs73.mono hg484; replace hs84 := hs84.mono hg484; replace hs86 := hs86.mono hg484; replace hs88 := hs88.mono hg484; replace hs96 := hs96.mono hg484; replace hs101 := hs101.mono hg484; replace hs103 := hs103.mono hg484; replace hs105 := hs105.mono hg484; replace hs116 := hs116.mono hg484; replace hs118 := hs118.mono hg484; replace hs120 := hs120.mono hg484; replace hs131 := hs131.mono hg484; replace hs133 := hs133.mono hg484; replace hs135 := hs135.mono hg484; replace hs143 := hs143.mono hg484; replace hs205 := hs205.mono hg484; replace hs267 := hs267.mono hg484; replace hs314 := hs314.mono hg484; replace hs319 := hs319.mono hg484; replace hs321 := hs321.mono hg484; replace hs323 := hs323.mono hg484; replace hs334 := hs334.mono hg484; replace hs336 := hs336.mono hg484; replace hs338 := hs338.mono hg484; replace hs349 := hs349.mono hg484; replace hs351 := hs351.mono hg484; replace hs353 := hs353.mono hg484; replace hs366 := hs366.mono hg484; replace hs372 := hs372.mono hg484; replace hs378 := hs378.mono hg484; replace hs387 := hs387.mono hg484; replace hs389 := hs389.mono hg484; replace hs391 := hs391.mono hg484; replace hs402 := hs402.mono hg484; replace hs404 := hs404.mono hg484; replace hs406 := hs406.mono hg484; replace hs417 := hs417.mono hg484; replace hs419 := hs419.mono hg484; replace hs421 := hs421.mono hg484; replace hs460 := hs460.mono hg484
    refine wcDraw fmix (by kernel_rfl) (by kernel_rfl) (vAt [(fun _ v_ => v_ = ((.slice (some ⟨b48, 0, none⟩) 3 3) : Value)), (fun _ v_ => v_ = ((.slice (some ⟨b48, 0, none⟩) 2 3) : Value)), (fun _ v_ => v_ = ((.slice (some ⟨b48, 0, none⟩) 3 3) : Value)), (fun _ v_ => v_ = ((.slice (some ⟨b95, 0, none⟩) 3 3) : Value)), (fun _ v_ => v_ = ((.slice (some ⟨b142, 0, none⟩) 3 3) : Value)), (fun _ v_ => v_ = ((.slice (some ⟨b204, 0, none⟩) 4 4) : Value)), (fun _ v_ => v_ = ((.slice (some ⟨b266, 0, none⟩) 4 4) : Value)), (fun _ v_ => v_ = ((.slice (some ⟨b313, 0, none⟩) 3 3) : Value)), (fun _ v_ => v_ = ((.slice (some ⟨g362, 0, none⟩) 3 3) : Value)), (fun _ v_ => v_ = ((.slice (some ⟨g430, 0, none⟩) 3 3) : Value)), (fun _ v_ => v_ = ((.slice (some ⟨b48, 0, none⟩) 3 3) : Value)), ((fun G v => ∃ (c0 : List Value), v = (.agg c0.toArray) ∧ Rp.Is G c0 ((plainI 4)))), (fun G v => ∃ bb_, v = .slice (some ⟨bb_, 0, none⟩) 1 1 ∧ Sl G v ([((plainI 4))] : List Change)), ((fun G v => ∃ A cap, v = .slice A ([((plainI 1)), ((plainI 2)), ((plainI 3))] ++ [((plainI 4))]).length cap ∧ Sl G (.slice A ([((plainI 1)), ((plainI 2)), ((plainI 3))] ++ [((plainI 4))]).length cap) (([((plainI 1)), ((plainI 2)), ((plainI 3))] ++ [((plainI 4))]) : List Change))), (fun G v => ∃ bb_, v = .slice (some ⟨bb_, 0, none⟩) 11 11 ∧ Sl G v ([[], ([((plainI 1)), ((plainI 2)), ((plainI 3))].take 2), [((plainI 1)), ((plainI 2)), ((plainI 3))], [((plainI 1)), ((plainI 2)), ((plainI 2))], [((plainI 1)), ((plainI 2)), ((plainI 9))], [((hasI 1 8 ((digI ((1 : UInt8)))) 3 true)), ((hasI 2 8 ((digI ((2 : UInt8)))) 4 true)), ((hasI 3 8 ((digI ((2 : UInt8)))) 4 false)), ((hasI 4 8 ((digI ((1 : UInt8)))) 3 false))], [((hasI 1 2 ((digI ((2 : UInt8)))) 3 true)), ((hasI 2 2 ((digI ((1 : UInt8)))) 3 true)), ((hasI 3 2 ((digI ((1 : UInt8)))) 3 false)), ((hasI 4 2 ((digI ((2 : UInt8)))) 3 false))], [((hasI 1 3 ((digI ((1 : UInt8)))) 0 true)), ((hasI 2 3 ((digI ((1 : UInt8)))) 0 true)), ((hasI 3 9 ((digI ((1 : UInt8)))) 0 true))], (List.set ((List.set ((List.set ([((plainI 1)), ((plainI 2)), ((plainI 3))]) 0 (Change.mk x367.node x367.view x367.low ([(Mark.mk 9007199254740984 Dig.zero), (Mark.mk 9007199254740983 ((digI ((1 : UInt8))))), (Mark.mk ((-1)) Dig.zero), (Mark.mk 9007199254740983 ((digI ((2 : UInt8)))))]) x367.p x367.q))) 1 (Change.mk x373.node x373.view x373.low ([(Mark.mk 9007199254740984 Dig.zero), (Mark.mk 9007199254740983 ((digI ((1 : UInt8))))), (Mark.mk ((-1)) Dig.zero), (Mark.mk 9007199254740983 ((digI ((2 : UInt8)))))]) x373.p x373.q))) 2 (Change.mk x379.node x379.view x379.low ([(Mark.mk 9007199254740984 Dig.zero), (Mark.mk 9007199254740983 ((digI ((1 : UInt8))))), (Mark.mk ((-1)) Dig.zero), (Mark.mk 9007199254740983 ((digI ((2 : UInt8)))))]) x379.p x379.q)), (List.set ((List.set ([((plainI 1)), ((plainI 2)), ((plainI 3))]) 0 (Change.mk x367.node x367.view 4 x367.marks x367.p x367.q))) 1 (Change.mk x435.node x435.view 4 x435.marks x435.p x435.q)), ([((plainI 1)), ((plainI 2)), ((plainI 3))] ++ [((plainI 4))])] : List (List Change))), (fun G v => ∃ bb_, v = .slice (some ⟨bb_, 0, none⟩) 11 11 ∧ Sl G v ([[], ([((plainI 1)), ((plainI 2)), ((plainI 3))].take 2), [((plainI 1)), ((plainI 2)), ((plainI 3))], [((plainI 1)), ((plainI 2)), ((plainI 2))], [((plainI 1)), ((plainI 2)), ((plainI 9))], [((hasI 1 8 ((digI ((1 : UInt8)))) 3 true)), ((hasI 2 8 ((digI ((2 : UInt8)))) 4 true)), ((hasI 3 8 ((digI ((2 : UInt8)))) 4 false)), ((hasI 4 8 ((digI ((1 : UInt8)))) 3 false))], [((hasI 1 2 ((digI ((2 : UInt8)))) 3 true)), ((hasI 2 2 ((digI ((1 : UInt8)))) 3 true)), ((hasI 3 2 ((digI ((1 : UInt8)))) 3 false)), ((hasI 4 2 ((digI ((2 : UInt8)))) 3 false))], [((hasI 1 3 ((digI ((1 : UInt8)))) 0 true)), ((hasI 2 3 ((digI ((1 : UInt8)))) 0 true)), ((hasI 3 9 ((digI ((1 : UInt8)))) 0 true))], (List.set ((List.set ((List.set ([((plainI 1)), ((plainI 2)), ((plainI 3))]) 0 (Change.mk x367.node x367.view x367.low ([(Mark.mk 9007199254740984 Dig.zero), (Mark.mk 9007199254740983 ((digI ((1 : UInt8))))), (Mark.mk ((-1)) Dig.zero), (Mark.mk 9007199254740983 ((digI ((2 : UInt8)))))]) x367.p x367.q))) 1 (Change.mk x373.node x373.view x373.low ([(Mark.mk 9007199254740984 Dig.zero), (Mark.mk 9007199254740983 ((digI ((1 : UInt8))))), (Mark.mk ((-1)) Dig.zero), (Mark.mk 9007199254740983 ((digI ((2 : UInt8)))))]) x373.p x373.q))) 2 (Change.mk x379.node x379.view x379.low ([(Mark.mk 9007199254740984 Dig.zero), (Mark.mk 9007199254740983 ((digI ((1 : UInt8))))), (Mark.mk ((-1)) Dig.zero), (Mark.mk 9007199254740983 ((digI ((2 : UInt8)))))]) x379.p x379.q)), (List.set ((List.set ([((plainI 1)), ((plainI 2)), ((plainI 3))]) 0 (Change.mk x367.node x367.view 4 x367.marks x367.p x367.q))) 1 (Change.mk x435.node x435.view 4 x435.marks x435.p x435.q)), ([((plainI 1)), ((plainI 2)), ((plainI 3))] ++ [((plainI 4))])] : List (List Change)))]) (fun _ _ G' w => Cx w0 G0 G' w ∧ Bxs G' w w0.heap.size [(b2, 28, ((digI ((2 : UInt8)))).cells), (b1, 28, ((digI ((1 : UInt8)))).cells)] ∧ GLe G G') G (vAt_mono ⟨fun _ _ _ _ h => h, fun _ _ _ _ h => h, fun _ _ _ _ h => h, fun _ _ _ _ h => h, fun _ _ _ _ h => h, fun _ _ _ _ h => h, fun _ _ _ _ h => h, fun _ _ _ _ h => h, fun _ _ _ _ h => h, fun _ _ _ _ h => h, fun _ _ _ _ h => h, fun _ _ _ hg => fun ⟨r486, e, hr487⟩ => ⟨r486, e, Rp.mono hg hr487⟩, fun _ _ _ hg => fun ⟨b, h1, h2⟩ => ⟨b, h1, h2.mono hg⟩, fun _ _ _ hg => fun ⟨A, cap, e, hs⟩ => ⟨A, cap, e, hs.mono hg⟩, fun _ _ _ hg => fun ⟨b, h1, h2⟩ => ⟨b, h1, h2.mono hg⟩, fun _ _ _ hg => fun ⟨b, h1, h2⟩ => ⟨b, h1, h2.mono hg⟩, trivial⟩) (fun _ _ => ⟨hC.drew, hB.drew, fun _ _ h => h⟩) ?_ ?_
    ·
     refine dsNone (j := 1) rfl ?_ ?_
     ·
      intro done G w ac_ hd hp hn ⟨hC, hB, hg⟩ hM
      have f3 : ac_.tmps[3]? = some (.slice (some ⟨b48, 0, none⟩) 3 3) := hM.old0 rfl rfl
      have hF := (hM.fr.add f3)
      exact OpVal.draw hF (opMove rfl) ⟨G, fun _ _ h => h, ⟨hC, hB, hg⟩, rfl⟩
     refine dsNone (j := 2) rfl ?_ ?_
     ·
      intro done G w ac_ hd hp hn ⟨hC, hB, hg⟩ hM
      replace hs49 := hs49.mono hg
      have f88 := hM.eqv (s := 88) 0 rfl (hp 0 rfl) rfl rfl
      have hF := (hM.fr.add f88)
      exact OpVal.draw hF (opSliceTo (h := 2) slo25 rfl rfl (Sl.capOf hs49 (by simp))) ⟨G, fun _ _ h => h, ⟨hC, hB, hg⟩, rfl⟩
     refine dsNone (j := 3) rfl ?_ ?_
     ·
      intro done G w ac_ hd hp hn ⟨hC, hB, hg⟩ hM
      have f3 : ac_.tmps[3]? = some (.slice (some ⟨b48, 0, none⟩) 3 3) := hM.old0 rfl rfl
      have hF := (hM.fr.add f3)
      exact OpVal.draw hF (opMove rfl) ⟨G, fun _ _ h => h, ⟨hC, hB, hg⟩, rfl⟩
     refine dsNone (j := 4) rfl ?_ ?_
     ·
      intro done G w ac_ hd hp hn ⟨hC, hB, hg⟩ hM
      have f4 : ac_.tmps[4]? = some (.slice (some ⟨b95, 0, none⟩) 3 3) := hM.old0 rfl rfl
      have hF := (hM.fr.add f4)
      exact OpVal.draw hF (opMove rfl) ⟨G, fun _ _ h => h, ⟨hC, hB, hg⟩, rfl⟩
     refine dsNone (j := 5) rfl ?_ ?_
     ·
      intro done G w ac_ hd hp hn ⟨hC, hB, hg⟩ hM
      have f5 : ac_.tmps[5]? = some (.slice (some ⟨b142, 0, none⟩) 3 3) := hM.old0 rfl rfl
      have hF := (hM.fr.add f5)
      exact OpVal.draw hF (opMove rfl) ⟨G, fun _ _ h => h, ⟨hC, hB, hg⟩, rfl⟩
     refine dsNone (j := 6) rfl ?_ ?_
     ·
      intro done G w ac_ hd hp hn ⟨hC, hB, hg⟩ hM
      have f6 : ac_.tmps[6]? = some (.slice (some ⟨b204, 0, none⟩) 4 4) := hM.old0 rfl rfl
      have hF := (hM.fr.add f6)
      exact OpVal.draw hF (opMove rfl) ⟨G, fun _ _ h => h, ⟨hC, hB, hg⟩, rfl⟩
     refine dsNone (j := 7) rfl ?_ ?_
     ·
      intro done G w ac_ hd hp hn ⟨hC, hB, hg⟩ hM
      have f7 : ac_.tmps[7]? = some (.slice (some ⟨b266, 0, none⟩) 4 4) := hM.old0 rfl rfl
      have hF := (hM.fr.add f7)
      exact OpVal.draw hF (opMove rfl) ⟨G, fun _ _ h => h, ⟨hC, hB, hg⟩, rfl⟩
     refine dsNone (j := 8) rfl ?_ ?_
     ·
      intro done G w ac_ hd hp hn ⟨hC, hB, hg⟩ hM
      have f8 : ac_.tmps[8]? = some (.slice (some ⟨b313, 0, none⟩) 3 3) := hM.old0 rfl rfl
      have hF := (hM.fr.add f8)
      exact OpVal.draw hF (opMove rfl) ⟨G, fun _ _ h => h, ⟨hC, hB, hg⟩, rfl⟩
     refine dsNone (j := 9) rfl ?_ ?_
     ·
      intro done G w ac_ hd hp hn ⟨hC, hB, hg⟩ hM
      have f9 : ac_.tmps[9]? = some (.slice (some ⟨g362, 0, none⟩) 3 3) := hM.old0 rfl rfl
      have hF := (hM.fr.add f9)
      exact OpVal.draw hF (opMove rfl) ⟨G, fun _ _ h => h, ⟨hC, hB, hg⟩, rfl⟩
     refine dsNone (j := 10) rfl ?_ ?_
     ·
      intro done G w ac_ hd hp hn ⟨hC, hB, hg⟩ hM
      have f11 : ac_.tmps[11]? = some (.slice (some ⟨g430, 0, none⟩) 3 3) := hM.old0 rfl rfl
      have hF := (hM.fr.add f11)
      exact OpVal.draw hF (opMove rfl) ⟨G, fun _ _ h => h, ⟨hC, hB, hg⟩, rfl⟩
     refine dsNone (j := 11) rfl ?_ ?_
     ·
      intro done G w ac_ hd hp hn ⟨hC, hB, hg⟩ hM
      have f3 : ac_.tmps[3]? = some (.slice (some ⟨b48, 0, none⟩) 3 3) := hM.old0 rfl rfl
      have hF := (hM.fr.add f3)
      exact OpVal.draw hF (opMove rfl) ⟨G, fun _ _ h => h, ⟨hC, hB, hg⟩, rfl⟩
     refine dsNone (j := 12) rfl ?_ ?_
     ·
      intro done G w ac_ hd hp hn ⟨hC, hB, hg⟩ hM
      have hF := hM.fr
      exact drawCallG hF rfl co18 rfl (plain_ret _ _ hC.holds 4) (fun v G' w' hk hr => ⟨G', hk.gle, ⟨hC.trans hk, hB.ext hk, fun b o h => hk.gle b o (hg b o h)⟩, hr⟩)
     refine dsNone (j := 13) rfl ?_ ?_
     ·
      intro done G w ac_ hd hp hn ⟨hC, hB, hg⟩ hM
      obtain ⟨v_, f99, ⟨r486, rfl, hr487⟩⟩ := hM.new 11 _ _ rfl (hp 11 rfl) rfl
      obtain ⟨v489, v491, v493, rfl, hs490, hs492, hs494⟩ := Change.opIs hr487
      obtain ⟨A495, cap496, rfl⟩ := hs490.form
      obtain ⟨A497, cap498, rfl⟩ := hs492.form
      obtain ⟨A499, cap500, rfl⟩ := hs494.form
      have hF := (hM.fr.add f99)
      exact drawBsl hF (α := Change) (ps := [(0, .tmp 99)]) (xs := [((plainI 4))]) (rows := [[(.int .i64 (((plainI 4)).node)), (.int .i64 (((plainI 4)).view)), (.int .i64 (((plainI 4)).low)), (.slice A495 ((((plainI 4)).marks).length) cap496), (.slice A497 ((((plainI 4)).p).length) cap498), (.slice A499 ((((plainI 4)).q).length) cap500)]]) elo25 rfl rfl hC.holds rfl rfl rfl ⟨(Change.mkIs (x := ((plainI 4))) hs490 hs492 hs494), trivial⟩ (fun b G' w' hk hr => ⟨G', hk.gle, ⟨hC.trans hk, hB.ext hk, fun b o h => hk.gle b o (hg b o h)⟩, ⟨b, rfl, hr⟩⟩)
     refine dsNone (j := 14) rfl ?_ ?_
     ·
      intro done G w ac_ hd hp hn ⟨hC, hB, hg⟩ hM
      replace hs49 := hs49.mono hg
      have f98 := hM.eqv (s := 98) 10 rfl (hp 10 rfl) rfl rfl
      obtain ⟨v_, f100, ⟨b501, rfl, hs502⟩⟩ := hM.new 12 _ _ rfl (hp 12 rfl) rfl
      have hF := ((hM.fr.add f98).add f100)
      exact drawAppendFull (α := Change) hF elo25 hC.holds rfl rfl hs49 hs502 (Nat.le_refl _) (by decide) (by decide) (by decide) rfl (fun v G' w' hk hr => ⟨G', hk.gle, ⟨hC.trans hk, hB.ext hk, fun b o h => hk.gle b o (hg b o h)⟩, hr⟩)
     refine dsNone (j := 15) rfl ?_ ?_
     ·
      intro done G w ac_ hd hp hn ⟨hC, hB, hg⟩ hM
      replace hs49 := hs49.mono hg
      replace hs96 := hs96.mono hg
      replace hs143 := hs143.mono hg
      replace hs205 := hs205.mono hg
      replace hs267 := hs267.mono hg
      replace hs314 := hs314.mono hg
      replace hs460 := hs460.mono hg
      replace hs483 := hs483.mono hg
      have f89 := hM.eqv (s := 89) 1 rfl (hp 1 rfl) rfl rfl
      have f90 := hM.eqv (s := 90) 2 rfl (hp 2 rfl) rfl rfl
      have f91 := hM.eqv (s := 91) 3 rfl (hp 3 rfl) rfl rfl
      have f92 := hM.eqv (s := 92) 4 rfl (hp 4 rfl) rfl rfl
      have f93 := hM.eqv (s := 93) 5 rfl (hp 5 rfl) rfl rfl
      have f94 := hM.eqv (s := 94) 6 rfl (hp 6 rfl) rfl rfl
      have f95 := hM.eqv (s := 95) 7 rfl (hp 7 rfl) rfl rfl
      have f96 := hM.eqv (s := 96) 8 rfl (hp 8 rfl) rfl rfl
      have f97 := hM.eqv (s := 97) 9 rfl (hp 9 rfl) rfl rfl
      obtain ⟨v_, f101, ⟨A503, cap504, rfl, hs505⟩⟩ := hM.new 13 _ _ rfl (hp 13 rfl) rfl
      have hF := ((((((((((hM.fr.add f89).add f90).add f91).add f92).add f93).add f94).add f95).add f96).add f97).add f101)
      exact drawBsl hF (α := (List Change)) (ps := [(0, .const (.slice none 0 0)), (1, .tmp 89), (2, .tmp 90), (3, .tmp 91), (4, .tmp 92), (5, .tmp 93), (6, .tmp 94), (7, .tmp 95), (8, .tmp 96), (9, .tmp 97), (10, .tmp 101)]) (xs := [[], ([((plainI 1)), ((plainI 2)), ((plainI 3))].take 2), [((plainI 1)), ((plainI 2)), ((plainI 3))], [((plainI 1)), ((plainI 2)), ((plainI 2))], [((plainI 1)), ((plainI 2)), ((plainI 9))], [((hasI 1 8 ((digI ((1 : UInt8)))) 3 true)), ((hasI 2 8 ((digI ((2 : UInt8)))) 4 true)), ((hasI 3 8 ((digI ((2 : UInt8)))) 4 false)), ((hasI 4 8 ((digI ((1 : UInt8)))) 3 false))], [((hasI 1 2 ((digI ((2 : UInt8)))) 3 true)), ((hasI 2 2 ((digI ((1 : UInt8)))) 3 true)), ((hasI 3 2 ((digI ((1 : UInt8)))) 3 false)), ((hasI 4 2 ((digI ((2 : UInt8)))) 3 false))], [((hasI 1 3 ((digI ((1 : UInt8)))) 0 true)), ((hasI 2 3 ((digI ((1 : UInt8)))) 0 true)), ((hasI 3 9 ((digI ((1 : UInt8)))) 0 true))], (List.set ((List.set ((List.set ([((plainI 1)), ((plainI 2)), ((plainI 3))]) 0 (Change.mk x367.node x367.view x367.low ([(Mark.mk 9007199254740984 Dig.zero), (Mark.mk 9007199254740983 ((digI ((1 : UInt8))))), (Mark.mk ((-1)) Dig.zero), (Mark.mk 9007199254740983 ((digI ((2 : UInt8)))))]) x367.p x367.q))) 1 (Change.mk x373.node x373.view x373.low ([(Mark.mk 9007199254740984 Dig.zero), (Mark.mk 9007199254740983 ((digI ((1 : UInt8))))), (Mark.mk ((-1)) Dig.zero), (Mark.mk 9007199254740983 ((digI ((2 : UInt8)))))]) x373.p x373.q))) 2 (Change.mk x379.node x379.view x379.low ([(Mark.mk 9007199254740984 Dig.zero), (Mark.mk 9007199254740983 ((digI ((1 : UInt8))))), (Mark.mk ((-1)) Dig.zero), (Mark.mk 9007199254740983 ((digI ((2 : UInt8)))))]) x379.p x379.q)), (List.set ((List.set ([((plainI 1)), ((plainI 2)), ((plainI 3))]) 0 (Change.mk x367.node x367.view 4 x367.marks x367.p x367.q))) 1 (Change.mk x435.node x435.view 4 x435.marks x435.p x435.q)), ([((plainI 1)), ((plainI 2)), ((plainI 3))] ++ [((plainI 4))])]) (rows := [[(.slice none 0 0)], [(.slice (some ⟨b48, 0, none⟩) 2 3)], [(.slice (some ⟨b48, 0, none⟩) 3 3)], [(.slice (some ⟨b95, 0, none⟩) 3 3)], [(.slice (some ⟨b142, 0, none⟩) 3 3)], [(.slice (some ⟨b204, 0, none⟩) 4 4)], [(.slice (some ⟨b266, 0, none⟩) 4 4)], [(.slice (some ⟨b313, 0, none⟩) 3 3)], [(.slice (some ⟨g362, 0, none⟩) 3 3)], [(.slice (some ⟨g430, 0, none⟩) 3 3)], [(.slice A503 (([((plainI 1)), ((plainI 2)), ((plainI 3))] ++ [((plainI 4))]).length) cap504)]]) elo62 rfl rfl hC.holds rfl rfl rfl ⟨⟨_, rfl, (Sl.nil_ _)⟩, ⟨_, rfl, (Sl.take hs49 (h := 2) (by simp))⟩, ⟨_, rfl, hs49⟩, ⟨_, rfl, hs96⟩, ⟨_, rfl, hs143⟩, ⟨_, rfl, hs205⟩, ⟨_, rfl, hs267⟩, ⟨_, rfl, hs314⟩, ⟨_, rfl, hs460⟩, ⟨_, rfl, hs483⟩, ⟨_, rfl, hs505⟩, trivial⟩ (fun b G' w' hk hr => ⟨G', hk.gle, ⟨hC.trans hk, hB.ext hk, fun b o h => hk.gle b o (hg b o h)⟩, ⟨b, rfl, hr⟩⟩)
     refine dsNone (j := 16) rfl ?_ ?_
     ·
      intro done G w ac_ hd hp hn ⟨hC, hB, hg⟩ hM
      obtain ⟨v_, f102, hV_⟩ := hM.new 14 _ _ rfl (hp 14 rfl) rfl
      have hF := (hM.fr.add f102)
      exact OpVal.draw hF (opAssign rfl) ⟨G, fun _ _ h => h, ⟨hC, hB, hg⟩, hV_⟩
     exact dsNil
    ·
     intro done G w ac_ hall ⟨hC, hB, hg⟩ hM
     replace hs7 := hs7.mono hg
     replace hs9 := hs9.mono hg
     replace hs11 := hs11.mono hg
     replace hs22 := hs22.mono hg
     replace hs24 := hs24.mono hg
     replace hs26 := hs26.mono hg
     replace hs37 := hs37.mono hg
     replace hs39 := hs39.mono hg
     replace hs41 := hs41.mono hg
     replace hs49 := hs49.mono hg
     replace hs54 := hs54.mono hg
     replace hs56 := hs56.mono hg
     replace hs58 := hs58.mono hg
     replace hs69 := hs69.mono hg
     replace hs71 := hs71.mono hg
     replace hs73 := hs73.mono hg
     replace hs84 := hs84.mono hg
     replace hs86 := hs86.mono hg
     replace hs88 := hs88.mono hg
     replace hs96 := hs96.mono hg
     replace hs101 := hs101.mono hg
     replace hs103 := hs103.mono hg
     replace hs105 := hs105.mono hg
     replace hs116 := hs116.mono hg
     replace hs118 := hs118.mono hg
     replace hs120 := hs120.mono hg
     replace hs131 := hs131.mono hg
     replace hs133 := hs133.mono hg
     replace hs135 := hs135.mono hg
     replace hs143 := hs143.mono hg
     replace hs205 := hs205.mono hg
     replace hs267 := hs267.mono hg
     replace hs314 := hs314.mono hg
     replace hs319 := hs319.mono hg
     replace hs321 := hs321.mono hg
     replace hs323 := hs323.mono hg
     replace hs334 := hs334.mono hg
     replace hs336 := hs336.mono hg
     replace hs338 := hs338.mono hg
     replace hs349 := hs349.mono hg
     replace hs351 := hs351.mono hg
     replace hs353 := hs353.mono hg
     replace hs366 := hs366.mono hg
     replace hs372 := hs372.mono hg
     replace hs378 := hs378.mono hg
     replace hs387 := hs387.mono hg
     replace hs389 := hs389.mono hg
     replace hs391 := hs391.mono hg
     replace hs402 := hs402.mono hg
     replace hs404 := hs404.mono hg
     replace hs406 := hs406.mono hg
     replace hs417 := hs417.mono hg
     replace hs419 := hs419.mono hg
     replace hs421 := hs421.mono hg
     replace hs460 := hs460.mono hg
     replace hs483 := hs483.mono hg
     have f1 : ac_.tmps[1]? = some (.pointer (some ⟨b1, 0, none⟩)) := hM.old0 rfl rfl
     have f2 : ac_.tmps[2]? = some (.pointer (some ⟨b2, 0, none⟩)) := hM.old0 rfl rfl
     have f6 : ac_.tmps[6]? = some (.slice (some ⟨b204, 0, none⟩) 4 4) := hM.old0 rfl rfl
     have f7 : ac_.tmps[7]? = some (.slice (some ⟨b266, 0, none⟩) 4 4) := hM.old0 rfl rfl
     obtain ⟨v_, f12, ⟨b506, rfl, hs507⟩⟩ := hM.new 15 _ _ rfl (hall 15 (by decide)) rfl
     refine ⟨(((((Env.nil.put 1 (.pointer (some ⟨b1, 0, none⟩))).put 2 (.pointer (some ⟨b2, 0, none⟩))).put 6 (.slice (some ⟨b204, 0, none⟩) 4 4)).put 7 (.slice (some ⟨b266, 0, none⟩) 4 4)).put 12 (.slice (some ⟨b506, 0, none⟩) 11 11)), (((((hM.fr.add f1).add f2).add f6).add f7).add f12), ?_⟩
     clear hM hall
     refine wcOf ?_
     refine wcSeq (wcRegion ?_)
     refine wlCallG hC hB rfl co19 rfl rfl (crewOf1_ret _ _ hC.holds ) ?_; rintro v510 G w hk hC hB ⟨r508, rfl, hr509⟩
     replace hs7 := hs7.mono hk.gle; replace hs9 := hs9.mono hk.gle; replace hs11 := hs11.mono hk.gle; replace hs22 := hs22.mono hk.gle; replace hs24 := hs24.mono hk.gle; replace hs26 := hs26.mono hk.gle; replace hs37 := hs37.mono hk.gle; replace hs39 := hs39.mono hk.gle; replace hs41 := hs41.mono hk.gle; replace hs49 := hs49.mono hk.gle; replace hs54 := hs54.mono hk.gle; replace hs56 := hs56.mono hk.gle; replace hs58 := hs58.mono hk.gle; replace hs69 := hs69.mono hk.gle; replace hs71 := hs71.mono hk.gle; replace hs73 := hs73.mono hk.gle; replace hs84 := hs84.mono hk.gle; replace hs86 := hs86.mono hk.gle; replace hs88 := hs88.mono hk.gle; replace hs96 := hs96.mono hk.gle; replace hs101 := hs101.mono hk.gle; replace hs103 := hs103.mono hk.gle; replace hs105 := hs105.mono hk.gle; replace hs116 := hs116.mono hk.gle; replace hs118 := hs118.mono hk.gle; replace hs120 := hs120.mono hk.gle; replace hs131 := hs131.mono hk.gle; replace hs133 := hs133.mono hk.gle; replace hs135 := hs135.mono hk.gle; replace hs143 := hs143.mono hk.gle; replace hs205 := hs205.mono hk.gle; replace hs267 := hs267.mono hk.gle; replace hs314 := hs314.mono hk.gle; replace hs319 := hs319.mono hk.gle; replace hs321 := hs321.mono hk.gle; replace hs323 := hs323.mono hk.gle; replace hs334 := hs334.mono hk.gle; replace hs336 := hs336.mono hk.gle; replace hs338 := hs338.mono hk.gle; replace hs349 := hs349.mono hk.gle; replace hs351 := hs351.mono hk.gle; replace hs353 := hs353.mono hk.gle; replace hs366 := hs366.mono hk.gle; replace hs372 := hs372.mono hk.gle; replace hs378 := hs378.mono hk.gle; replace hs387 := hs387.mono hk.gle; replace hs389 := hs389.mono hk.gle; replace hs391 := hs391.mono hk.gle; replace hs402 := hs402.mono hk.gle; replace hs404 := hs404.mono hk.gle; replace hs406 := hs406.mono hk.gle; replace hs417 := hs417.mono hk.gle; replace hs419 := hs419.mono hk.gle; replace hs421 := hs421.mono hk.gle; replace hs460 := hs460.mono hk.gle; replace hs483 := hs483.mono hk.gle; replace hs507 := hs507.mono hk.gle
     obtain ⟨v511, rfl, hs512⟩ := Crew.opIs hr509
     obtain ⟨A513, cap514, rfl⟩ := hs512.form
     refine wlCallG hC hB rfl co19 rfl rfl (crewOf2_ret _ _ hC.holds ) ?_; rintro v517 G w hk hC hB ⟨r515, rfl, hr516⟩
     replace hs7 := hs7.mono hk.gle; replace hs9 := hs9.mono hk.gle; replace hs11 := hs11.mono hk.gle; replace hs22 := hs22.mono hk.gle; replace hs24 := hs24.mono hk.gle; replace hs26 := hs26.mono hk.gle; replace hs37 := hs37.mono hk.gle; replace hs39 := hs39.mono hk.gle; replace hs41 := hs41.mono hk.gle; replace hs49 := hs49.mono hk.gle; replace hs54 := hs54.mono hk.gle; replace hs56 := hs56.mono hk.gle; replace hs58 := hs58.mono hk.gle; replace hs69 := hs69.mono hk.gle; replace hs71 := hs71.mono hk.gle; replace hs73 := hs73.mono hk.gle; replace hs84 := hs84.mono hk.gle; replace hs86 := hs86.mono hk.gle; replace hs88 := hs88.mono hk.gle; replace hs96 := hs96.mono hk.gle; replace hs101 := hs101.mono hk.gle; replace hs103 := hs103.mono hk.gle; replace hs105 := hs105.mono hk.gle; replace hs116 := hs116.mono hk.gle; replace hs118 := hs118.mono hk.gle; replace hs120 := hs120.mono hk.gle; replace hs131 := hs131.mono hk.gle; replace hs133 := hs133.mono hk.gle; replace hs135 := hs135.mono hk.gle; replace hs143 := hs143.mono hk.gle; replace hs205 := hs205.mono hk.gle; replace hs267 := hs267.mono hk.gle; replace hs314 := hs314.mono hk.gle; replace hs319 := hs319.mono hk.gle; replace hs321 := hs321.mono hk.gle; replace hs323 := hs323.mono hk.gle; replace hs334 := hs334.mono hk.gle; replace hs336 := hs336.mono hk.gle; replace hs338 := hs338.mono hk.gle; replace hs349 := hs349.mono hk.gle; replace hs351 := hs351.mono hk.gle; replace hs353 := hs353.mono hk.gle; replace hs366 := hs366.mono hk.gle; replace hs372 := hs372.mono hk.gle; replace hs378 := hs378.mono hk.gle; replace hs387 := hs387.mono hk.gle; replace hs389 := hs389.mono hk.gle; replace hs391 := hs391.mono hk.gle; replace hs402 := hs402.mono hk.gle; replace hs404 := hs404.mono hk.gle; replace hs406 := hs406.mono hk.gle; replace hs417 := hs417.mono hk.gle; replace hs419 := hs419.mono hk.gle; replace hs421 := hs421.mono hk.gle; replace hs460 := hs460.mono hk.gle; replace hs483 := hs483.mono hk.gle; replace hs507 := hs507.mono hk.gle; replace hs512 := hs512.mono hk.gle
     obtain ⟨v518, rfl, hs519⟩ := Crew.opIs hr516
     obtain ⟨A520, cap521, rfl⟩ := hs519.form
     refine wlVal (opBuild (ps := []) (cs := [(.int .i64 0), (.slice none 0 0)]) so24 zero24 rfl rfl (by simp [buildCells, Value.cells])) rfl ?_
     refine wlBuildSlice (α := Int) (ps := [(0, .const (.int .i64 1)), (1, .const (.int .i64 2)), (2, .const (.int .i64 3))]) (xs := [1, 2, 3]) (rows := [[(.int .i64 1)], [(.int .i64 2)], [(.int .i64 3)]]) elo22 rfl rfl hC hB rfl rfl rfl ⟨rfl, rfl, rfl, trivial⟩ rfl ?_; intro b522 G w hk hC hB hs523
     replace hs7 := hs7.mono hk.gle; replace hs9 := hs9.mono hk.gle; replace hs11 := hs11.mono hk.gle; replace hs22 := hs22.mono hk.gle; replace hs24 := hs24.mono hk.gle; replace hs26 := hs26.mono hk.gle; replace hs37 := hs37.mono hk.gle; replace hs39 := hs39.mono hk.gle; replace hs41 := hs41.mono hk.gle; replace hs49 := hs49.mono hk.gle; replace hs54 := hs54.mono hk.gle; replace hs56 := hs56.mono hk.gle; replace hs58 := hs58.mono hk.gle; replace hs69 := hs69.mono hk.gle; replace hs71 := hs71.mono hk.gle; replace hs73 := hs73.mono hk.gle; replace hs84 := hs84.mono hk.gle; replace hs86 := hs86.mono hk.gle; replace hs88 := hs88.mono hk.gle; replace hs96 := hs96.mono hk.gle; replace hs101 := hs101.mono hk.gle; replace hs103 := hs103.mono hk.gle; replace hs105 := hs105.mono hk.gle; replace hs116 := hs116.mono hk.gle; replace hs118 := hs118.mono hk.gle; replace hs120 := hs120.mono hk.gle; replace hs131 := hs131.mono hk.gle; replace hs133 := hs133.mono hk.gle; replace hs135 := hs135.mono hk.gle; replace hs143 := hs143.mono hk.gle; replace hs205 := hs205.mono hk.gle; replace hs267 := hs267.mono hk.gle; replace hs314 := hs314.mono hk.gle; replace hs319 := hs319.mono hk.gle; replace hs321 := hs321.mono hk.gle; replace hs323 := hs323.mono hk.gle; replace hs334 := hs334.mono hk.gle; replace hs336 := hs336.mono hk.gle; replace hs338 := hs338.mono hk.gle; replace hs349 := hs349.mono hk.gle; replace hs351 := hs351.mono hk.gle; replace hs353 := hs353.mono hk.gle; replace hs366 := hs366.mono hk.gle; replace hs372 := hs372.mono hk.gle; replace hs378 := hs378.mono hk.gle; replace hs387 := hs387.mono hk.gle; replace hs389 := hs389.mono hk.gle; replace hs391 := hs391.mono hk.gle; replace hs402 := hs402.mono hk.gle; replace hs404 := hs404.mono hk.gle; replace hs406 := hs406.mono hk.gle; replace hs417 := hs417.mono hk.gle; replace hs419 := hs419.mono hk.gle; replace hs421 := hs421.mono hk.gle; replace hs460 := hs460.mono hk.gle; replace hs483 := hs483.mono hk.gle; replace hs507 := hs507.mono hk.gle; replace hs512 := hs512.mono hk.gle; replace hs519 := hs519.mono hk.gle
     refine wlVal (opBuild (ps := [(0, .const (.int .i64 1)), (1, .tmp 106)]) (cs := [(.int .i64 1), (.slice (some ⟨b522, 0, none⟩) 3 3)]) so24 zero24 rfl rfl (by simp [buildCells, Value.cells])) rfl ?_
     refine wlBuildSlice (α := Int) (ps := [(0, .const (.int .i64 1))]) (xs := [1]) (rows := [[(.int .i64 1)]]) elo22 rfl rfl hC hB rfl rfl rfl ⟨rfl, trivial⟩ rfl ?_; intro b524 G w hk hC hB hs525
     replace hs7 := hs7.mono hk.gle; replace hs9 := hs9.mono hk.gle; replace hs11 := hs11.mono hk.gle; replace hs22 := hs22.mono hk.gle; replace hs24 := hs24.mono hk.gle; replace hs26 := hs26.mono hk.gle; replace hs37 := hs37.mono hk.gle; replace hs39 := hs39.mono hk.gle; replace hs41 := hs41.mono hk.gle; replace hs49 := hs49.mono hk.gle; replace hs54 := hs54.mono hk.gle; replace hs56 := hs56.mono hk.gle; replace hs58 := hs58.mono hk.gle; replace hs69 := hs69.mono hk.gle; replace hs71 := hs71.mono hk.gle; replace hs73 := hs73.mono hk.gle; replace hs84 := hs84.mono hk.gle; replace hs86 := hs86.mono hk.gle; replace hs88 := hs88.mono hk.gle; replace hs96 := hs96.mono hk.gle; replace hs101 := hs101.mono hk.gle; replace hs103 := hs103.mono hk.gle; replace hs105 := hs105.mono hk.gle; replace hs116 := hs116.mono hk.gle; replace hs118 := hs118.mono hk.gle; replace hs120 := hs120.mono hk.gle; replace hs131 := hs131.mono hk.gle; replace hs133 := hs133.mono hk.gle; replace hs135 := hs135.mono hk.gle; replace hs143 := hs143.mono hk.gle; replace hs205 := hs205.mono hk.gle; replace hs267 := hs267.mono hk.gle; replace hs314 := hs314.mono hk.gle; replace hs319 := hs319.mono hk.gle; replace hs321 := hs321.mono hk.gle; replace hs323 := hs323.mono hk.gle; replace hs334 := hs334.mono hk.gle; replace hs336 := hs336.mono hk.gle; replace hs338 := hs338.mono hk.gle; replace hs349 := hs349.mono hk.gle; replace hs351 := hs351.mono hk.gle; replace hs353 := hs353.mono hk.gle; replace hs366 := hs366.mono hk.gle; replace hs372 := hs372.mono hk.gle; replace hs378 := hs378.mono hk.gle; replace hs387 := hs387.mono hk.gle; replace hs389 := hs389.mono hk.gle; replace hs391 := hs391.mono hk.gle; replace hs402 := hs402.mono hk.gle; replace hs404 := hs404.mono hk.gle; replace hs406 := hs406.mono hk.gle; replace hs417 := hs417.mono hk.gle; replace hs419 := hs419.mono hk.gle; replace hs421 := hs421.mono hk.gle; replace hs460 := hs460.mono hk.gle; replace hs483 := hs483.mono hk.gle; replace hs507 := hs507.mono hk.gle; replace hs512 := hs512.mono hk.gle; replace hs519 := hs519.mono hk.gle; replace hs523 := hs523.mono hk.gle
     refine wlVal (opBuild (ps := [(0, .const (.int .i64 0)), (1, .tmp 108)]) (cs := [(.int .i64 0), (.slice (some ⟨b524, 0, none⟩) 1 1)]) so24 zero24 rfl rfl (by simp [buildCells, Value.cells])) rfl ?_
     refine wlBuildSlice (α := Crew) (ps := [(0, .tmp 103), (1, .tmp 104), (2, .tmp 105), (3, .tmp 107), (4, .tmp 109)]) (xs := [((crewI 1)), ((crewI 2)), (Crew.mk 0 ([])), (Crew.mk 1 ([1, 2, 3])), (Crew.mk 0 ([1]))]) (rows := [[(.int .i64 (((crewI 1)).faults)), (.slice A513 ((((crewI 1)).nodes).length) cap514)], [(.int .i64 (((crewI 2)).faults)), (.slice A520 ((((crewI 2)).nodes).length) cap521)], [(.int .i64 0), (.slice none 0 0)], [(.int .i64 1), (.slice (some ⟨b522, 0, none⟩) 3 3)], [(.int .i64 0), (.slice (some ⟨b524, 0, none⟩) 1 1)]]) elo63 rfl rfl hC hB rfl rfl rfl ⟨(Crew.mkIs (x := ((crewI 1))) hs512), (Crew.mkIs (x := ((crewI 2))) hs519), (Crew.mkIs (x := (Crew.mk 0 ([]))) (Sl.nil_ _)), (Crew.mkIs (x := (Crew.mk 1 ([1, 2, 3]))) hs523), (Crew.mkIs (x := (Crew.mk 0 ([1]))) hs525), trivial⟩ rfl ?_; intro b526 G w hk hC hB hs527
     replace hs7 := hs7.mono hk.gle; replace hs9 := hs9.mono hk.gle; replace hs11 := hs11.mono hk.gle; replace hs22 := hs22.mono hk.gle; replace hs24 := hs24.mono hk.gle; replace hs26 := hs26.mono hk.gle; replace hs37 := hs37.mono hk.gle; replace hs39 := hs39.mono hk.gle; replace hs41 := hs41.mono hk.gle; replace hs49 := hs49.mono hk.gle; replace hs54 := hs54.mono hk.gle; replace hs56 := hs56.mono hk.gle; replace hs58 := hs58.mono hk.gle; replace hs69 := hs69.mono hk.gle; replace hs71 := hs71.mono hk.gle; replace hs73 := hs73.mono hk.gle; replace hs84 := hs84.mono hk.gle; replace hs86 := hs86.mono hk.gle; replace hs88 := hs88.mono hk.gle; replace hs96 := hs96.mono hk.gle; replace hs101 := hs101.mono hk.gle; replace hs103 := hs103.mono hk.gle; replace hs105 := hs105.mono hk.gle; replace hs116 := hs116.mono hk.gle; replace hs118 := hs118.mono hk.gle; replace hs120 := hs120.mono hk.gle; replace hs131 := hs131.mono hk.gle; replace hs133 := hs133.mono hk.gle; replace hs135 := hs135.mono hk.gle; replace hs143 := hs143.mono hk.gle; replace hs205 := hs205.mono hk.gle; replace hs267 := hs267.mono hk.gle; replace hs314 := hs314.mono hk.gle; replace hs319 := hs319.mono hk.gle; replace hs321 := hs321.mono hk.gle; replace hs323 := hs323.mono hk.gle; replace hs334 := hs334.mono hk.gle; replace hs336 := hs336.mono hk.gle; replace hs338 := hs338.mono hk.gle; replace hs349 := hs349.mono hk.gle; replace hs351 := hs351.mono hk.gle; replace hs353 := hs353.mono hk.gle; replace hs366 := hs366.mono hk.gle; replace hs372 := hs372.mono hk.gle; replace hs378 := hs378.mono hk.gle; replace hs387 := hs387.mono hk.gle; replace hs389 := hs389.mono hk.gle; replace hs391 := hs391.mono hk.gle; replace hs402 := hs402.mono hk.gle; replace hs404 := hs404.mono hk.gle; replace hs406 := hs406.mono hk.gle; replace hs417 := hs417.mono hk.gle; replace hs419 := hs419.mono hk.gle; replace hs421 := hs421.mono hk.gle; replace hs460 := hs460.mono hk.gle; replace hs483 := hs483.mono hk.gle; replace hs507 := hs507.mono hk.gle; replace hs512 := hs512.mono hk.gle; replace hs519 := hs519.mono hk.gle; replace hs523 := hs523.mono hk.gle; replace hs525 := hs525.mono hk.gle
     refine wlVal (opAssign rfl) rfl ?_
     refine wlThen (wcSeq (wcSeq (wcRegion ?_)))
     refine wlVal (opAssign rfl) rfl ?_
     refine wlThen ?_
     refine wcBlock ?_
     refine WC.sub (wrInd (ι := Nat) (fun i => 11 - i) (fun i G w => Cx w0 G0 G w ∧ Bxs G w w0.heap.size [(b2, 28, ((digI ((2 : UInt8)))).cells), (b1, 28, ((digI ((1 : UInt8)))).cells)] ∧ Sl G (.slice A12 ((((plainI 1)).marks).length) cap13) (((plainI 1)).marks) ∧ Sl G (.slice A14 ((((plainI 1)).p).length) cap15) (((plainI 1)).p) ∧ Sl G (.slice A16 ((((plainI 1)).q).length) cap17) (((plainI 1)).q) ∧ Sl G (.slice A27 ((((plainI 2)).marks).length) cap28) (((plainI 2)).marks) ∧ Sl G (.slice A29 ((((plainI 2)).p).length) cap30) (((plainI 2)).p) ∧ Sl G (.slice A31 ((((plainI 2)).q).length) cap32) (((plainI 2)).q) ∧ Sl G (.slice A42 ((((plainI 3)).marks).length) cap43) (((plainI 3)).marks) ∧ Sl G (.slice A44 ((((plainI 3)).p).length) cap45) (((plainI 3)).p) ∧ Sl G (.slice A46 ((((plainI 3)).q).length) cap47) (((plainI 3)).q) ∧ Sl G (.slice (some ⟨b48, 0, none⟩) 3 3) ([((plainI 1)), ((plainI 2)), ((plainI 3))]) ∧ Sl G (.slice A59 ((((plainI 1)).marks).length) cap60) (((plainI 1)).marks) ∧ Sl G (.slice A61 ((((plainI 1)).p).length) cap62) (((plainI 1)).p) ∧ Sl G (.slice A63 ((((plainI 1)).q).length) cap64) (((plainI 1)).q) ∧ Sl G (.slice A74 ((((plainI 2)).marks).length) cap75) (((plainI 2)).marks) ∧ Sl G (.slice A76 ((((plainI 2)).p).length) cap77) (((plainI 2)).p) ∧ Sl G (.slice A78 ((((plainI 2)).q).length) cap79) (((plainI 2)).q) ∧ Sl G (.slice A89 ((((plainI 2)).marks).length) cap90) (((plainI 2)).marks) ∧ Sl G (.slice A91 ((((plainI 2)).p).length) cap92) (((plainI 2)).p) ∧ Sl G (.slice A93 ((((plainI 2)).q).length) cap94) (((plainI 2)).q) ∧ Sl G (.slice (some ⟨b95, 0, none⟩) 3 3) ([((plainI 1)), ((plainI 2)), ((plainI 2))]) ∧ Sl G (.slice A106 ((((plainI 1)).marks).length) cap107) (((plainI 1)).marks) ∧ Sl G (.slice A108 ((((plainI 1)).p).length) cap109) (((plainI 1)).p) ∧ Sl G (.slice A110 ((((plainI 1)).q).length) cap111) (((plainI 1)).q) ∧ Sl G (.slice A121 ((((plainI 2)).marks).length) cap122) (((plainI 2)).marks) ∧ Sl G (.slice A123 ((((plainI 2)).p).length) cap124) (((plainI 2)).p) ∧ Sl G (.slice A125 ((((plainI 2)).q).length) cap126) (((plainI 2)).q) ∧ Sl G (.slice A136 ((((plainI 9)).marks).length) cap137) (((plainI 9)).marks) ∧ Sl G (.slice A138 ((((plainI 9)).p).length) cap139) (((plainI 9)).p) ∧ Sl G (.slice A140 ((((plainI 9)).q).length) cap141) (((plainI 9)).q) ∧ Sl G (.slice (some ⟨b142, 0, none⟩) 3 3) ([((plainI 1)), ((plainI 2)), ((plainI 9))]) ∧ Sl G (.slice (some ⟨b204, 0, none⟩) 4 4) ([((hasI 1 8 ((digI ((1 : UInt8)))) 3 true)), ((hasI 2 8 ((digI ((2 : UInt8)))) 4 true)), ((hasI 3 8 ((digI ((2 : UInt8)))) 4 false)), ((hasI 4 8 ((digI ((1 : UInt8)))) 3 false))]) ∧ Sl G (.slice (some ⟨b266, 0, none⟩) 4 4) ([((hasI 1 2 ((digI ((2 : UInt8)))) 3 true)), ((hasI 2 2 ((digI ((1 : UInt8)))) 3 true)), ((hasI 3 2 ((digI ((1 : UInt8)))) 3 false)), ((hasI 4 2 ((digI ((2 : UInt8)))) 3 false))]) ∧ Sl G (.slice (some ⟨b313, 0, none⟩) 3 3) ([((hasI 1 3 ((digI ((1 : UInt8)))) 0 true)), ((hasI 2 3 ((digI ((1 : UInt8)))) 0 true)), ((hasI 3 9 ((digI ((1 : UInt8)))) 0 true))]) ∧ Sl G (.slice A324 ((((plainI 1)).marks).length) cap325) (((plainI 1)).marks) ∧ Sl G (.slice A326 ((((plainI 1)).p).length) cap327) (((plainI 1)).p) ∧ Sl G (.slice A328 ((((plainI 1)).q).length) cap329) (((plainI 1)).q) ∧ Sl G (.slice A339 ((((plainI 2)).marks).length) cap340) (((plainI 2)).marks) ∧ Sl G (.slice A341 ((((plainI 2)).p).length) cap342) (((plainI 2)).p) ∧ Sl G (.slice A343 ((((plainI 2)).q).length) cap344) (((plainI 2)).q) ∧ Sl G (.slice A354 ((((plainI 3)).marks).length) cap355) (((plainI 3)).marks) ∧ Sl G (.slice A356 ((((plainI 3)).p).length) cap357) (((plainI 3)).p) ∧ Sl G (.slice A358 ((((plainI 3)).q).length) cap359) (((plainI 3)).q) ∧ Sl G (.slice (some ⟨b365, 0, none⟩) 4 4) ([(Mark.mk 9007199254740984 Dig.zero), (Mark.mk 9007199254740983 ((digI ((1 : UInt8))))), (Mark.mk ((-1)) Dig.zero), (Mark.mk 9007199254740983 ((digI ((2 : UInt8)))))]) ∧ Sl G (.slice (some ⟨b371, 0, none⟩) 4 4) ([(Mark.mk 9007199254740984 Dig.zero), (Mark.mk 9007199254740983 ((digI ((1 : UInt8))))), (Mark.mk ((-1)) Dig.zero), (Mark.mk 9007199254740983 ((digI ((2 : UInt8)))))]) ∧ Sl G (.slice (some ⟨b377, 0, none⟩) 4 4) ([(Mark.mk 9007199254740984 Dig.zero), (Mark.mk 9007199254740983 ((digI ((1 : UInt8))))), (Mark.mk ((-1)) Dig.zero), (Mark.mk 9007199254740983 ((digI ((2 : UInt8)))))]) ∧ Sl G (.slice A392 ((((plainI 1)).marks).length) cap393) (((plainI 1)).marks) ∧ Sl G (.slice A394 ((((plainI 1)).p).length) cap395) (((plainI 1)).p) ∧ Sl G (.slice A396 ((((plainI 1)).q).length) cap397) (((plainI 1)).q) ∧ Sl G (.slice A407 ((((plainI 2)).marks).length) cap408) (((plainI 2)).marks) ∧ Sl G (.slice A409 ((((plainI 2)).p).length) cap410) (((plainI 2)).p) ∧ Sl G (.slice A411 ((((plainI 2)).q).length) cap412) (((plainI 2)).q) ∧ Sl G (.slice A422 ((((plainI 3)).marks).length) cap423) (((plainI 3)).marks) ∧ Sl G (.slice A424 ((((plainI 3)).p).length) cap425) (((plainI 3)).p) ∧ Sl G (.slice A426 ((((plainI 3)).q).length) cap427) (((plainI 3)).q) ∧ Sl G (.slice (some ⟨g362, 0, none⟩) 3 3) ((List.set ((List.set ((List.set ([((plainI 1)), ((plainI 2)), ((plainI 3))]) 0 (Change.mk x367.node x367.view x367.low ([(Mark.mk 9007199254740984 Dig.zero), (Mark.mk 9007199254740983 ((digI ((1 : UInt8))))), (Mark.mk ((-1)) Dig.zero), (Mark.mk 9007199254740983 ((digI ((2 : UInt8)))))]) x367.p x367.q))) 1 (Change.mk x373.node x373.view x373.low ([(Mark.mk 9007199254740984 Dig.zero), (Mark.mk 9007199254740983 ((digI ((1 : UInt8))))), (Mark.mk ((-1)) Dig.zero), (Mark.mk 9007199254740983 ((digI ((2 : UInt8)))))]) x373.p x373.q))) 2 (Change.mk x379.node x379.view x379.low ([(Mark.mk 9007199254740984 Dig.zero), (Mark.mk 9007199254740983 ((digI ((1 : UInt8))))), (Mark.mk ((-1)) Dig.zero), (Mark.mk 9007199254740983 ((digI ((2 : UInt8)))))]) x379.p x379.q))) ∧ Sl G (.slice (some ⟨g430, 0, none⟩) 3 3) ((List.set ((List.set ([((plainI 1)), ((plainI 2)), ((plainI 3))]) 0 (Change.mk x367.node x367.view 4 x367.marks x367.p x367.q))) 1 (Change.mk x435.node x435.view 4 x435.marks x435.p x435.q))) ∧ Sl G (.slice (some ⟨b506, 0, none⟩) 11 11) ([[], ([((plainI 1)), ((plainI 2)), ((plainI 3))].take 2), [((plainI 1)), ((plainI 2)), ((plainI 3))], [((plainI 1)), ((plainI 2)), ((plainI 2))], [((plainI 1)), ((plainI 2)), ((plainI 9))], [((hasI 1 8 ((digI ((1 : UInt8)))) 3 true)), ((hasI 2 8 ((digI ((2 : UInt8)))) 4 true)), ((hasI 3 8 ((digI ((2 : UInt8)))) 4 false)), ((hasI 4 8 ((digI ((1 : UInt8)))) 3 false))], [((hasI 1 2 ((digI ((2 : UInt8)))) 3 true)), ((hasI 2 2 ((digI ((1 : UInt8)))) 3 true)), ((hasI 3 2 ((digI ((1 : UInt8)))) 3 false)), ((hasI 4 2 ((digI ((2 : UInt8)))) 3 false))], [((hasI 1 3 ((digI ((1 : UInt8)))) 0 true)), ((hasI 2 3 ((digI ((1 : UInt8)))) 0 true)), ((hasI 3 9 ((digI ((1 : UInt8)))) 0 true))], (List.set ((List.set ((List.set ([((plainI 1)), ((plainI 2)), ((plainI 3))]) 0 (Change.mk x367.node x367.view x367.low ([(Mark.mk 9007199254740984 Dig.zero), (Mark.mk 9007199254740983 ((digI ((1 : UInt8))))), (Mark.mk ((-1)) Dig.zero), (Mark.mk 9007199254740983 ((digI ((2 : UInt8)))))]) x367.p x367.q))) 1 (Change.mk x373.node x373.view x373.low ([(Mark.mk 9007199254740984 Dig.zero), (Mark.mk 9007199254740983 ((digI ((1 : UInt8))))), (Mark.mk ((-1)) Dig.zero), (Mark.mk 9007199254740983 ((digI ((2 : UInt8)))))]) x373.p x373.q))) 2 (Change.mk x379.node x379.view x379.low ([(Mark.mk 9007199254740984 Dig.zero), (Mark.mk 9007199254740983 ((digI ((1 : UInt8))))), (Mark.mk ((-1)) Dig.zero), (Mark.mk 9007199254740983 ((digI ((2 : UInt8)))))]) x379.p x379.q)), (List.set ((List.set ([((plainI 1)), ((plainI 2)), ((plainI 3))]) 0 (Change.mk x367.node x367.view 4 x367.marks x367.p x367.q))) 1 (Change.mk x435.node x435.view 4 x435.marks x435.p x435.q)), ([((plainI 1)), ((plainI 2)), ((plainI 3))] ++ [((plainI 4))])]) ∧ Sl G (.slice A513 ((((crewI 1)).nodes).length) cap514) (((crewI 1)).nodes) ∧ Sl G (.slice A520 ((((crewI 2)).nodes).length) cap521) (((crewI 2)).nodes) ∧ Sl G (.slice (some ⟨b522, 0, none⟩) 3 3) ([1, 2, 3]) ∧ Sl G (.slice (some ⟨b524, 0, none⟩) 1 1) ([1]) ∧ Sl G (.slice (some ⟨b526, 0, none⟩) 5 5) ([((crewI 1)), ((crewI 2)), (Crew.mk 0 ([])), (Crew.mk 1 ([1, 2, 3])), (Crew.mk 0 ([1]))])) (fun i => (((((((Env.nil.put 1 (.pointer (some ⟨b1, 0, none⟩))).put 2 (.pointer (some ⟨b2, 0, none⟩))).put 6 (.slice (some ⟨b204, 0, none⟩) 4 4)).put 7 (.slice (some ⟨b266, 0, none⟩) 4 4)).put 12 (.slice (some ⟨b506, 0, none⟩) 11 11)).put 13 (.slice (some ⟨b526, 0, none⟩) 5 5)).put 14 (.int .i64 (((i : Nat) : Int))))) ?_ (0) _ _ ⟨hC, hB, hs7, hs9, hs11, hs22, hs24, hs26, hs37, hs39, hs41, hs49, hs54, hs56, hs58, hs69, hs71, hs73, hs84, hs86, hs88, hs96, hs101, hs103, hs105, hs116, hs118, hs120, hs131, hs133, hs135, hs143, hs205, hs267, hs314, hs319, hs321, hs323, hs334, hs336, hs338, hs349, hs351, hs353, hs366, hs372, hs378, hs387, hs389, hs391, hs402, hs404, hs406, hs417, hs419, hs421, hs460, hs483, hs507, hs512, hs519, hs523, hs525, hs527⟩) (fun _ ha => (((((((ha.start.cons ha (t := 1) rfl).cons ha (t := 2) rfl).cons ha (t := 6) rfl).cons ha (t := 7) rfl).cons ha (t := 12) rfl).cons ha (t := 13) rfl).cons ha (t := 14) rfl))
     rintro i G w N1 IH1 ⟨hC, hB, hs7, hs9, hs11, hs22, hs24, hs26, hs37, hs39, hs41, hs49, hs54, hs56, hs58, hs69, hs71, hs73, hs84, hs86, hs88, hs96, hs101, hs103, hs105, hs116, hs118, hs120, hs131, hs133, hs135, hs143, hs205, hs267, hs314, hs319, hs321, hs323, hs334, hs336, hs338, hs349, hs351, hs353, hs366, hs372, hs378, hs387, hs389, hs391, hs402, hs404, hs406, hs417, hs419, hs421, hs460, hs483, hs507, hs512, hs519, hs523, hs525, hs527⟩
     show WC _ _ _ _ (((((((Env.nil.put 1 (.pointer (some ⟨b1, 0, none⟩))).put 2 (.pointer (some ⟨b2, 0, none⟩))).put 6 (.slice (some ⟨b204, 0, none⟩) 4 4)).put 7 (.slice (some ⟨b266, 0, none⟩) 4 4)).put 12 (.slice (some ⟨b506, 0, none⟩) 11 11)).put 13 (.slice (some ⟨b526, 0, none⟩) 5 5)).put 14 (.int .i64 (((i : Nat) : Int)))) w
     refine wcSeq (wcSeq (wcRegion ?_))
     refine wlVal (opMove rfl) rfl ?_
     refine wlVal (opMove rfl) rfl ?_
     refine wlVal (opLen rfl isl62) rfl ?_
     refine wlVal (opLssN (b := 11) rfl rfl) rfl ?_
     refine wlThen ?_
     cases h528 : decide (i < 11)
     ·
      skip
      refine wcCondF rfl ?_
      refine wcExit ?_
      refine wcOf ?_
      refine wcSeq (wcRegion ?_)
      refine wlVal (opLoadRow (cs := ((digI ((2 : UInt8)))).cells) rfl (hB.range (i := 0) (m := 32) rfl (by simp [Mark.cells, Stand.cells])) row28 (by simp [Mark.cells, Stand.cells])) rfl ?_
      refine wlVal (opBuild (ps := [(0, .const (.int .i64 8)), (1, .tmp 133)]) (cs := ((.int .i64 8) :: (((digI ((2 : UInt8)))).cells ++ []))) so30 zero30 rfl rfl (by simp [buildCells, Value.cells])) rfl ?_
      refine wlAlloc hC hB zero30 rfl ?_; intro b529 w hk hC hB
      refine wlStore 0 (vs := ((.int .i64 8) :: (((digI ((2 : UInt8)))).cells ++ []))) (cs := ((.int .i64 0) :: (Dig.zero.cells ++ []))) (cs' := ((.int .i64 8) :: (((digI ((2 : UInt8)))).cells ++ []))) hC hB rfl rfl rfl sz30 rfl (by simp [Mark.cells, Stand.cells]) (by simp [Mark.cells, Stand.cells, Value.oneCell']) (by simp [Mark.cells, Stand.cells]) (by simp [Mark.cells, Stand.cells]) rfl ?_; intro w hC hB
      refine wlThen (wcSeq (wcRegion ?_))
      refine wlCallG hC hB rfl co19 rfl rfl (crewOf1_ret _ _ hC.holds ) ?_; rintro v532 G w hk hC hB ⟨r530, rfl, hr531⟩
      replace hs7 := hs7.mono hk.gle; replace hs9 := hs9.mono hk.gle; replace hs11 := hs11.mono hk.gle; replace hs22 := hs22.mono hk.gle; replace hs24 := hs24.mono hk.gle; replace hs26 := hs26.mono hk.gle; replace hs37 := hs37.mono hk.gle; replace hs39 := hs39.mono hk.gle; replace hs41 := hs41.mono hk.gle; replace hs49 := hs49.mono hk.gle; replace hs54 := hs54.mono hk.gle; replace hs56 := hs56.mono hk.gle; replace hs58 := hs58.mono hk.gle; replace hs69 := hs69.mono hk.gle; replace hs71 := hs71.mono hk.gle; replace hs73 := hs73.mono hk.gle; replace hs84 := hs84.mono hk.gle; replace hs86 := hs86.mono hk.gle; replace hs88 := hs88.mono hk.gle; replace hs96 := hs96.mono hk.gle; replace hs101 := hs101.mono hk.gle; replace hs103 := hs103.mono hk.gle; replace hs105 := hs105.mono hk.gle; replace hs116 := hs116.mono hk.gle; replace hs118 := hs118.mono hk.gle; replace hs120 := hs120.mono hk.gle; replace hs131 := hs131.mono hk.gle; replace hs133 := hs133.mono hk.gle; replace hs135 := hs135.mono hk.gle; replace hs143 := hs143.mono hk.gle; replace hs205 := hs205.mono hk.gle; replace hs267 := hs267.mono hk.gle; replace hs314 := hs314.mono hk.gle; replace hs319 := hs319.mono hk.gle; replace hs321 := hs321.mono hk.gle; replace hs323 := hs323.mono hk.gle; replace hs334 := hs334.mono hk.gle; replace hs336 := hs336.mono hk.gle; replace hs338 := hs338.mono hk.gle; replace hs349 := hs349.mono hk.gle; replace hs351 := hs351.mono hk.gle; replace hs353 := hs353.mono hk.gle; replace hs366 := hs366.mono hk.gle; replace hs372 := hs372.mono hk.gle; replace hs378 := hs378.mono hk.gle; replace hs387 := hs387.mono hk.gle; replace hs389 := hs389.mono hk.gle; replace hs391 := hs391.mono hk.gle; replace hs402 := hs402.mono hk.gle; replace hs404 := hs404.mono hk.gle; replace hs406 := hs406.mono hk.gle; replace hs417 := hs417.mono hk.gle; replace hs419 := hs419.mono hk.gle; replace hs421 := hs421.mono hk.gle; replace hs460 := hs460.mono hk.gle; replace hs483 := hs483.mono hk.gle; replace hs507 := hs507.mono hk.gle; replace hs512 := hs512.mono hk.gle; replace hs519 := hs519.mono hk.gle; replace hs523 := hs523.mono hk.gle; replace hs525 := hs525.mono hk.gle; replace hs527 := hs527.mono hk.gle
      obtain ⟨v533, rfl, hs534⟩ := Crew.opIs hr531
      obtain ⟨A535, cap536, rfl⟩ := hs534.form
      refine wlVal (opMove rfl) rfl ?_
      refine wlCallO (bl := [(b529, 30, ((.int .i64 8) :: (((digI ((2 : UInt8)))).cells ++ []))), (b2, 28, ((digI ((2 : UInt8)))).cells), (b1, 28, ((digI ((1 : UInt8)))).cells)]) (r := []) hC hB rfl co10 rfl rfl (select_ret _ _ hC.holds _ (((crewI 1))) (Crew.mkIs (x := ((crewI 1))) hs534) _ ([((hasI 1 8 ((digI ((1 : UInt8)))) 3 true)), ((hasI 2 8 ((digI ((2 : UInt8)))) 4 true)), ((hasI 3 8 ((digI ((2 : UInt8)))) 4 false)), ((hasI 4 8 ((digI ((1 : UInt8)))) 3 false))]) hs205 (by decide) (by decide)) ?_; rintro v541 G o539 w hk hC hB ⟨A537, cap538, rfl, hO540⟩
      replace hs7 := hs7.mono hk.gle; replace hs9 := hs9.mono hk.gle; replace hs11 := hs11.mono hk.gle; replace hs22 := hs22.mono hk.gle; replace hs24 := hs24.mono hk.gle; replace hs26 := hs26.mono hk.gle; replace hs37 := hs37.mono hk.gle; replace hs39 := hs39.mono hk.gle; replace hs41 := hs41.mono hk.gle; replace hs49 := hs49.mono hk.gle; replace hs54 := hs54.mono hk.gle; replace hs56 := hs56.mono hk.gle; replace hs58 := hs58.mono hk.gle; replace hs69 := hs69.mono hk.gle; replace hs71 := hs71.mono hk.gle; replace hs73 := hs73.mono hk.gle; replace hs84 := hs84.mono hk.gle; replace hs86 := hs86.mono hk.gle; replace hs88 := hs88.mono hk.gle; replace hs96 := hs96.mono hk.gle; replace hs101 := hs101.mono hk.gle; replace hs103 := hs103.mono hk.gle; replace hs105 := hs105.mono hk.gle; replace hs116 := hs116.mono hk.gle; replace hs118 := hs118.mono hk.gle; replace hs120 := hs120.mono hk.gle; replace hs131 := hs131.mono hk.gle; replace hs133 := hs133.mono hk.gle; replace hs135 := hs135.mono hk.gle; replace hs143 := hs143.mono hk.gle; replace hs205 := hs205.mono hk.gle; replace hs267 := hs267.mono hk.gle; replace hs314 := hs314.mono hk.gle; replace hs319 := hs319.mono hk.gle; replace hs321 := hs321.mono hk.gle; replace hs323 := hs323.mono hk.gle; replace hs334 := hs334.mono hk.gle; replace hs336 := hs336.mono hk.gle; replace hs338 := hs338.mono hk.gle; replace hs349 := hs349.mono hk.gle; replace hs351 := hs351.mono hk.gle; replace hs353 := hs353.mono hk.gle; replace hs366 := hs366.mono hk.gle; replace hs372 := hs372.mono hk.gle; replace hs378 := hs378.mono hk.gle; replace hs387 := hs387.mono hk.gle; replace hs389 := hs389.mono hk.gle; replace hs391 := hs391.mono hk.gle; replace hs402 := hs402.mono hk.gle; replace hs404 := hs404.mono hk.gle; replace hs406 := hs406.mono hk.gle; replace hs417 := hs417.mono hk.gle; replace hs419 := hs419.mono hk.gle; replace hs421 := hs421.mono hk.gle; replace hs460 := hs460.mono hk.gle; replace hs483 := hs483.mono hk.gle; replace hs507 := hs507.mono hk.gle; replace hs512 := hs512.mono hk.gle; replace hs519 := hs519.mono hk.gle; replace hs523 := hs523.mono hk.gle; replace hs525 := hs525.mono hk.gle; replace hs527 := hs527.mono hk.gle
      refine wlVal (opMove rfl) rfl ?_
      refine wlVal (opExtract rfl rfl) rfl ?_
      refine wlVal (opExtract rfl rfl) rfl ?_
      refine wlVal (opExtract rfl rfl) rfl ?_
      refine wlAlloc hC hB zero30 rfl ?_; intro b542 w hk hC hB
      replace hB : Bxs G w w0.heap.size ([(b542, 30, ((.int .i64 0) :: (Dig.zero.cells ++ []))), (b529, 30, ((.int .i64 8) :: (((digI ((2 : UInt8)))).cells ++ []))), (b2, 28, ((digI ((2 : UInt8)))).cells), (b1, 28, ((digI ((1 : UInt8)))).cells)] ++ (Option.toList o539 ++ [])) := hB
      refine wlStore 0 (vs := (((selI (has (((crewI 1)))) (((crewI 1))) ([((hasI 1 8 ((digI ((1 : UInt8)))) 3 true)), ((hasI 2 8 ((digI ((2 : UInt8)))) 4 true)), ((hasI 3 8 ((digI ((2 : UInt8)))) 4 false)), ((hasI 4 8 ((digI ((1 : UInt8)))) 3 false))])).1)).cells) (cs := ((.int .i64 0) :: (Dig.zero.cells ++ []))) (cs' := (((selI (has (((crewI 1)))) (((crewI 1))) ([((hasI 1 8 ((digI ((1 : UInt8)))) 3 true)), ((hasI 2 8 ((digI ((2 : UInt8)))) 4 true)), ((hasI 3 8 ((digI ((2 : UInt8)))) 4 false)), ((hasI 4 8 ((digI ((1 : UInt8)))) 3 false))])).1)).cells) hC hB rfl rfl rfl sz30 rfl (by simp [Mark.cells, Stand.cells]) (by simp [Mark.cells, Stand.cells, Value.oneCell']) (by simp [Mark.cells, Stand.cells]) (by simp [Mark.cells, Stand.cells]) rfl ?_; intro w hC hB
      replace hB : Bxs G w w0.heap.size ([(b542, 30, (((selI (has (((crewI 1)))) (((crewI 1))) ([((hasI 1 8 ((digI ((1 : UInt8)))) 3 true)), ((hasI 2 8 ((digI ((2 : UInt8)))) 4 true)), ((hasI 3 8 ((digI ((2 : UInt8)))) 4 false)), ((hasI 4 8 ((digI ((1 : UInt8)))) 3 false))])).1)).cells), (b529, 30, ((.int .i64 8) :: (((digI ((2 : UInt8)))).cells ++ []))), (b2, 28, ((digI ((2 : UInt8)))).cells), (b1, 28, ((digI ((1 : UInt8)))).cells)] ++ (Option.toList o539 ++ [])) := hB
      refine wlVal (opAssign rfl) rfl ?_
      refine wlVal (opAssign rfl) rfl ?_
      refine wlThen (wcSeq ?_)
      obtain ⟨G, hg544, hC, hB, hs543⟩ := Ow.freeze' (bl := [(b542, 30, (((selI (has (((crewI 1)))) (((crewI 1))) ([((hasI 1 8 ((digI ((1 : UInt8)))) 3 true)), ((hasI 2 8 ((digI ((2 : UInt8)))) 4 true)), ((hasI 3 8 ((digI ((2 : UInt8)))) 4 false)), ((hasI 4 8 ((digI ((1 : UInt8)))) 3 false))])).1)).cells), (b529, 30, ((.int .i64 8) :: (((digI ((2 : UInt8)))).cells ++ []))), (b2, 28, ((digI ((2 : UInt8)))).cells), (b1, 28, ((digI ((1 : UInt8)))).cells)]) (r := []) hO540 hC (Nat.le_refl _) hB (Nat.le_trans (selI_len _ _ _) (by decide))
      replace hs7 := hs7.mono hg544; replace hs9 := hs9.mono hg544; replace hs11 := hs11.mono hg544; replace hs22 := hs22.mono hg544; replace hs24 := hs24.mono hg544; replace hs26 := hs26.mono hg544; replace hs37 := hs37.mono hg544; replace hs39 := hs39.mono hg544; replace hs41 := hs41.mono hg544; replace hs49 := hs49.mono hg544; replace hs54 := hs54.mono hg544; replace hs56 := hs56.mono hg544; replace hs58 := hs58.mono hg544; replace hs69 := hs69.mono hg544; replace hs71 := hs71.mono hg544; replace hs73 := hs73.mono hg544; replace hs84 := hs84.mono hg544; replace hs86 := hs86.mono hg544; replace hs88 := hs88.mono hg544; replace hs96 := hs96.mono hg544; replace hs101 := hs101.mono hg544; replace hs103 := hs103.mono hg544; replace hs105 := hs105.mono hg544; replace hs116 := hs116.mono hg544; replace hs118 := hs118.mono hg544; replace hs120 := hs120.mono hg544; replace hs131 := hs131.mono hg544; replace hs133 := hs133.mono hg544; replace hs135 := hs135.mono hg544; replace hs143 := hs143.mono hg544; replace hs205 := hs205.mono hg544; replace hs267 := hs267.mono hg544; replace hs314 := hs314.mono hg544; replace hs319 := hs319.mono hg544; replace hs321 := hs321.mono hg544; replace hs323 := hs323.mono hg544; replace hs334 := hs334.mono hg544; replace hs336 := hs336.mono hg544; replace hs338 := hs338.mono hg544; replace hs349 := hs349.mono hg544; replace hs351 := hs351.mono hg544; replace hs353 := hs353.mono hg544; replace hs366 := hs366.mono hg544; replace hs372 := hs372.mono hg544; replace hs378 := hs378.mono hg544; replace hs387 := hs387.mono hg544; replace hs389 := hs389.mono hg544; replace hs391 := hs391.mono hg544; replace hs402 := hs402.mono hg544; replace hs404 := hs404.mono hg544; replace hs406 := hs406.mono hg544; replace hs417 := hs417.mono hg544; replace hs419 := hs419.mono hg544; replace hs421 := hs421.mono hg544; replace hs460 := hs460.mono hg544; replace hs483 := hs483.mono hg544; replace hs507 := hs507.mono hg544; replace hs512 := hs512.mono hg544; replace hs519 := hs519.mono hg544; replace hs523 := hs523.mono hg544; replace hs525 := hs525.mono hg544; replace hs527 := hs527.mono hg544
      obtain ⟨b545, o546, row547, hA550, hr548, hi549⟩ := hs543.elem names_got; subst hA550
      obtain rfl := hi549
      refine wcDraw fmix (by kernel_rfl) (by kernel_rfl) (vAt [(fun _ v_ => v_ = ((.bool true) : Value)), (fun _ v_ => v_ = ((.bool true) : Value)), (fun _ v_ => v_ = ((.bool true) : Value)), (fun _ v_ => v_ = ((.bool true) : Value)), (fun _ v_ => v_ = ((.int .i64 (((selI (has (((crewI 1)))) (((crewI 1))) ([((hasI 1 8 ((digI ((1 : UInt8)))) 3 true)), ((hasI 2 8 ((digI ((2 : UInt8)))) 4 true)), ((hasI 3 8 ((digI ((2 : UInt8)))) 4 false)), ((hasI 4 8 ((digI ((1 : UInt8)))) 3 false))])).2.2))) : Value)), (fun _ v_ => v_ = ((.bool true) : Value)), (fun _ v_ => v_ = ((.bool true) : Value)), (fun _ v_ => v_ = ((.bool true) : Value)), (fun _ v_ => v_ = ((.slice (some ⟨b545, o546, none⟩) ((((selI (has (((crewI 1)))) (((crewI 1))) ([((hasI 1 8 ((digI ((1 : UInt8)))) 3 true)), ((hasI 2 8 ((digI ((2 : UInt8)))) 4 true)), ((hasI 3 8 ((digI ((2 : UInt8)))) 4 false)), ((hasI 4 8 ((digI ((1 : UInt8)))) 3 false))])).2.1)).length) cap538) : Value)), (fun _ v_ => v_ = ((.int .i64 ((((((selI (has (((crewI 1)))) (((crewI 1))) ([((hasI 1 8 ((digI ((1 : UInt8)))) 3 true)), ((hasI 2 8 ((digI ((2 : UInt8)))) 4 true)), ((hasI 3 8 ((digI ((2 : UInt8)))) 4 false)), ((hasI 4 8 ((digI ((1 : UInt8)))) 3 false))])).2.1)).length : Nat) : Int))) : Value)), (fun _ v_ => v_ = ((.bool true) : Value)), (fun _ v_ => v_ = ((.bool true) : Value)), (fun _ v_ => v_ = ((.bool true) : Value)), (fun _ v_ => v_ = ((.slice (some ⟨b545, o546, none⟩) ((((selI (has (((crewI 1)))) (((crewI 1))) ([((hasI 1 8 ((digI ((1 : UInt8)))) 3 true)), ((hasI 2 8 ((digI ((2 : UInt8)))) 4 true)), ((hasI 3 8 ((digI ((2 : UInt8)))) 4 false)), ((hasI 4 8 ((digI ((1 : UInt8)))) 3 false))])).2.1)).length) cap538) : Value)), (fun _ v_ => v_ = ((.pointer (some ⟨b545, o546 + 7 * 33, none⟩)) : Value)), (fun _ v_ => v_ = ((.agg ((Mark.mk 8 (digI 2))).cells.toArray) : Value)), (fun _ v_ => v_ = ((.agg ((.int .i64 8) :: (((digI ((2 : UInt8)))).cells ++ [])).toArray) : Value)), (fun _ v_ => v_ = ((.bool true) : Value)), (fun _ v_ => v_ = ((.bool true) : Value)), (fun _ v_ => v_ = ((.bool true) : Value)), (fun _ v_ => v_ = ((.slice (some ⟨b266, 0, none⟩) 4 4) : Value)), (fun _ v_ => v_ = ((.agg baseI.cells.toArray) : Value)), (fun _ v_ => v_ = ((.agg ((.int .i64 1) :: (Dig.zero.cells ++ [])).toArray) : Value)), (fun _ v_ => v_ = ((.agg ((digI ((1 : UInt8)))).cells.toArray) : Value)), (fun _ v_ => v_ = ((.agg ((.int .i64 2) :: (((digI ((1 : UInt8)))).cells ++ [])).toArray) : Value)), (fun G v => ∃ bb_, v = .slice (some ⟨bb_, 0, none⟩) 2 2 ∧ Sl G v ([(Mark.mk 1 Dig.zero), (Mark.mk 2 ((digI ((1 : UInt8)))))] : List Mark)), (fun _ v_ => v_ = ((.bool true) : Value)), (fun _ v_ => v_ = ((.bool true) : Value)), (fun _ v_ => v_ = ((.bool true) : Value)), (fun _ v_ => v_ = ((.agg [(.int .i64 0), (.int .i64 0), (.int .i64 0)].toArray) : Value)), (fun _ v_ => v_ = ((.bool true) : Value)), (fun _ v_ => v_ = ((.bool true) : Value)), (fun _ v_ => v_ = ((.bool true) : Value)), (fun _ v_ => v_ = ((.agg [(.int .i64 1), (.int .i64 7), (.int .i64 0)].toArray) : Value)), (fun _ v_ => v_ = ((.bool true) : Value)), (fun _ v_ => v_ = ((.bool true) : Value)), (fun _ v_ => v_ = ((.bool true) : Value))]) (fun _ _ G' w => Cx w0 G0 G' w ∧ Bxs G' w w0.heap.size [(b542, 30, (((selI (has (((crewI 1)))) (((crewI 1))) ([((hasI 1 8 ((digI ((1 : UInt8)))) 3 true)), ((hasI 2 8 ((digI ((2 : UInt8)))) 4 true)), ((hasI 3 8 ((digI ((2 : UInt8)))) 4 false)), ((hasI 4 8 ((digI ((1 : UInt8)))) 3 false))])).1)).cells), (b529, 30, ((.int .i64 8) :: (((digI ((2 : UInt8)))).cells ++ []))), (b2, 28, ((digI ((2 : UInt8)))).cells), (b1, 28, ((digI ((1 : UInt8)))).cells)] ∧ GLe G G') G (vAt_mono ⟨fun _ _ _ _ h => h, fun _ _ _ _ h => h, fun _ _ _ _ h => h, fun _ _ _ _ h => h, fun _ _ _ _ h => h, fun _ _ _ _ h => h, fun _ _ _ _ h => h, fun _ _ _ _ h => h, fun _ _ _ _ h => h, fun _ _ _ _ h => h, fun _ _ _ _ h => h, fun _ _ _ _ h => h, fun _ _ _ _ h => h, fun _ _ _ _ h => h, fun _ _ _ _ h => h, fun _ _ _ _ h => h, fun _ _ _ _ h => h, fun _ _ _ _ h => h, fun _ _ _ _ h => h, fun _ _ _ _ h => h, fun _ _ _ _ h => h, fun _ _ _ _ h => h, fun _ _ _ _ h => h, fun _ _ _ _ h => h, fun _ _ _ _ h => h, fun _ _ _ hg => fun ⟨b, h1, h2⟩ => ⟨b, h1, h2.mono hg⟩, fun _ _ _ _ h => h, fun _ _ _ _ h => h, fun _ _ _ _ h => h, fun _ _ _ _ h => h, fun _ _ _ _ h => h, fun _ _ _ _ h => h, fun _ _ _ _ h => h, fun _ _ _ _ h => h, fun _ _ _ _ h => h, fun _ _ _ _ h => h, fun _ _ _ _ h => h, trivial⟩) (fun _ _ => ⟨hC.drew, hB.drew, fun _ _ h => h⟩) ?_ ?_
      ·
       refine dsNone (j := 1) rfl ?_ ?_
       ·
        intro done G w ac_ hd hp hn ⟨hC, hB, hg⟩ hM
        have hF := hM.fr
        exact OpVal.draw hF (opMove rfl) ⟨G, fun _ _ h => h, ⟨hC, hB, hg⟩, rfl⟩
       refine dsOn (j := 2) rfl rfl ?_ ?_
       ·
        intro done G w ac_ hd hp hn ⟨hC, hB, hg⟩ hM
        have f142 := hM.eqv (s := 142) 0 rfl (hp 0 rfl) rfl rfl
        refine ⟨f142, ?_⟩
        have hF := hM.fr
        exact drawCallS hF rfl co14 rfl (awake_ret _ _ hC.holds ) (fun w' hk => ⟨G, fun _ _ h => h, ⟨hC.trans hk, hB.ext hk, hg⟩, rfl⟩)
       refine dsNone (j := 3) rfl ?_ ?_
       ·
        intro done G w ac_ hd hp hn ⟨hC, hB, hg⟩ hM
        have f142 := hM.eqv (s := 142) 0 rfl (hp 0 rfl) rfl rfl
        have f143 := hM.eqv (s := 143) 1 rfl (hp 1 rfl) rfl rfl
        have hF := ((hM.fr.add f142).add f143)
        exact OpVal.draw hF (opPickT rfl rfl) ⟨G, fun _ _ h => h, ⟨hC, hB, hg⟩, rfl⟩
       refine dsNone (j := 4) rfl ?_ ?_
       ·
        intro done G w ac_ hd hp hn ⟨hC, hB, hg⟩ hM
        have f144 := hM.eqv (s := 144) 2 rfl (hp 2 rfl) rfl rfl
        have hF := (hM.fr.add f144)
        exact OpVal.draw hF (opMove rfl) ⟨G, fun _ _ h => h, ⟨hC, hB, hg⟩, rfl⟩
       refine dsOn (j := 5) rfl rfl ?_ ?_
       ·
        intro done G w ac_ hd hp hn ⟨hC, hB, hg⟩ hM
        have f19 : ac_.tmps[19]? = some (.int .i64 (((selI (has (((crewI 1)))) (((crewI 1))) ([((hasI 1 8 ((digI ((1 : UInt8)))) 3 true)), ((hasI 2 8 ((digI ((2 : UInt8)))) 4 true)), ((hasI 3 8 ((digI ((2 : UInt8)))) 4 false)), ((hasI 4 8 ((digI ((1 : UInt8)))) 3 false))])).2.2))) := hM.old0 rfl rfl
        have f145 := hM.eqv (s := 145) 3 rfl (hp 3 rfl) rfl rfl
        refine ⟨f145, ?_⟩
        have hF := (hM.fr.add f19)
        exact OpVal.draw hF (opMove rfl) ⟨G, fun _ _ h => h, ⟨hC, hB, hg⟩, rfl⟩
       refine dsOn (j := 6) rfl rfl ?_ ?_
       ·
        intro done G w ac_ hd hp hn ⟨hC, hB, hg⟩ hM
        have f146 := hM.eqv (s := 146) 4 rfl (hp 4 rfl) rfl rfl
        have f145 := hM.eqv (s := 145) 3 rfl (hp 3 rfl) rfl rfl
        refine ⟨f145, ?_⟩
        have hF := (hM.fr.add f146)
        exact OpVal.draw hF (OpVal.cast (opEql rfl rfl) (congrArg Value.bool cl8_169)) ⟨G, fun _ _ h => h, ⟨hC, hB, hg⟩, rfl⟩
       refine dsNone (j := 7) rfl ?_ ?_
       ·
        intro done G w ac_ hd hp hn ⟨hC, hB, hg⟩ hM
        have f145 := hM.eqv (s := 145) 3 rfl (hp 3 rfl) rfl rfl
        have f147 := hM.eqv (s := 147) 5 rfl (hp 5 rfl) rfl rfl
        have hF := ((hM.fr.add f145).add f147)
        exact OpVal.draw hF (opPickT rfl rfl) ⟨G, fun _ _ h => h, ⟨hC, hB, hg⟩, rfl⟩
       refine dsNone (j := 8) rfl ?_ ?_
       ·
        intro done G w ac_ hd hp hn ⟨hC, hB, hg⟩ hM
        have f148 := hM.eqv (s := 148) 6 rfl (hp 6 rfl) rfl rfl
        have hF := (hM.fr.add f148)
        exact OpVal.draw hF (opMove rfl) ⟨G, fun _ _ h => h, ⟨hC, hB, hg⟩, rfl⟩
       refine dsOn (j := 9) rfl rfl ?_ ?_
       ·
        intro done G w ac_ hd hp hn ⟨hC, hB, hg⟩ hM
        have f18 : ac_.tmps[18]? = some (.slice (some ⟨b545, o546, none⟩) ((((selI (has (((crewI 1)))) (((crewI 1))) ([((hasI 1 8 ((digI ((1 : UInt8)))) 3 true)), ((hasI 2 8 ((digI ((2 : UInt8)))) 4 true)), ((hasI 3 8 ((digI ((2 : UInt8)))) 4 false)), ((hasI 4 8 ((digI ((1 : UInt8)))) 3 false))])).2.1)).length) cap538) := hM.old0 rfl rfl
        have f149 := hM.eqv (s := 149) 7 rfl (hp 7 rfl) rfl rfl
        refine ⟨f149, ?_⟩
        have hF := (hM.fr.add f18)
        exact OpVal.draw hF (opMove rfl) ⟨G, fun _ _ h => h, ⟨hC, hB, hg⟩, rfl⟩
       refine dsOn (j := 10) rfl rfl ?_ ?_
       ·
        intro done G w ac_ hd hp hn ⟨hC, hB, hg⟩ hM
        have f150 := hM.eqv (s := 150) 8 rfl (hp 8 rfl) rfl rfl
        have f149 := hM.eqv (s := 149) 7 rfl (hp 7 rfl) rfl rfl
        refine ⟨f149, ?_⟩
        have hF := (hM.fr.add f150)
        exact OpVal.draw hF (opLen rfl isl31) ⟨G, fun _ _ h => h, ⟨hC, hB, hg⟩, rfl⟩
       refine dsOn (j := 11) rfl rfl ?_ ?_
       ·
        intro done G w ac_ hd hp hn ⟨hC, hB, hg⟩ hM
        have f151 := hM.eqv (s := 151) 9 rfl (hp 9 rfl) rfl rfl
        have f149 := hM.eqv (s := 149) 7 rfl (hp 7 rfl) rfl rfl
        refine ⟨f149, ?_⟩
        have hF := (hM.fr.add f151)
        exact OpVal.draw hF (OpVal.cast (opEql rfl rfl) (congrArg Value.bool cl8_170)) ⟨G, fun _ _ h => h, ⟨hC, hB, hg⟩, rfl⟩
       refine dsNone (j := 12) rfl ?_ ?_
       ·
        intro done G w ac_ hd hp hn ⟨hC, hB, hg⟩ hM
        have f149 := hM.eqv (s := 149) 7 rfl (hp 7 rfl) rfl rfl
        have f152 := hM.eqv (s := 152) 10 rfl (hp 10 rfl) rfl rfl
        have hF := ((hM.fr.add f149).add f152)
        exact OpVal.draw hF (opPickT rfl rfl) ⟨G, fun _ _ h => h, ⟨hC, hB, hg⟩, rfl⟩
       refine dsNone (j := 13) rfl ?_ ?_
       ·
        intro done G w ac_ hd hp hn ⟨hC, hB, hg⟩ hM
        have f153 := hM.eqv (s := 153) 11 rfl (hp 11 rfl) rfl rfl
        have hF := (hM.fr.add f153)
        exact OpVal.draw hF (opMove rfl) ⟨G, fun _ _ h => h, ⟨hC, hB, hg⟩, rfl⟩
       refine dsOn (j := 14) rfl rfl ?_ ?_
       ·
        intro done G w ac_ hd hp hn ⟨hC, hB, hg⟩ hM
        have f18 : ac_.tmps[18]? = some (.slice (some ⟨b545, o546, none⟩) ((((selI (has (((crewI 1)))) (((crewI 1))) ([((hasI 1 8 ((digI ((1 : UInt8)))) 3 true)), ((hasI 2 8 ((digI ((2 : UInt8)))) 4 true)), ((hasI 3 8 ((digI ((2 : UInt8)))) 4 false)), ((hasI 4 8 ((digI ((1 : UInt8)))) 3 false))])).2.1)).length) cap538) := hM.old0 rfl rfl
        have f154 := hM.eqv (s := 154) 12 rfl (hp 12 rfl) rfl rfl
        refine ⟨f154, ?_⟩
        have hF := (hM.fr.add f18)
        exact OpVal.draw hF (opMove rfl) ⟨G, fun _ _ h => h, ⟨hC, hB, hg⟩, rfl⟩
       refine dsOn (j := 15) rfl rfl ?_ ?_
       ·
        intro done G w ac_ hd hp hn ⟨hC, hB, hg⟩ hM
        have f155 := hM.eqv (s := 155) 13 rfl (hp 13 rfl) rfl rfl
        have f154 := hM.eqv (s := 154) 12 rfl (hp 12 rfl) rfl rfl
        refine ⟨f154, ?_⟩
        have hF := (hM.fr.add f155)
        exact OpVal.draw hF (opIndexAddr rfl rfl slo31 names_lt) ⟨G, fun _ _ h => h, ⟨hC, hB, hg⟩, rfl⟩
       refine dsOn (j := 16) rfl rfl ?_ ?_
       ·
        intro done G w ac_ hd hp hn ⟨hC, hB, hg⟩ hM
        replace hr548 := hr548.mono hg
        have f156 := hM.eqv (s := 156) 14 rfl (hp 14 rfl) rfl rfl
        have f154 := hM.eqv (s := 154) 12 rfl (hp 12 rfl) rfl rfl
        refine ⟨f154, ?_⟩
        have hF := (hM.fr.add f156)
        exact OpVal.draw hF (opLoadRow (cs := ((Mark.mk 8 (digI 2))).cells) rfl (RowG.range hC.holds hr548) row30 (by simp [Mark.cells, Stand.cells])) ⟨G, fun _ _ h => h, ⟨hC, hB, hg⟩, rfl⟩
       refine dsOn (j := 17) rfl rfl ?_ ?_
       ·
        intro done G w ac_ hd hp hn ⟨hC, hB, hg⟩ hM
        have f16 : ac_.tmps[16]? = some (.pointer (some ⟨b529, 0, none⟩)) := hM.old0 rfl rfl
        have f154 := hM.eqv (s := 154) 12 rfl (hp 12 rfl) rfl rfl
        refine ⟨f154, ?_⟩
        have hF := (hM.fr.add f16)
        exact OpVal.draw hF (opLoadRow (cs := ((.int .i64 8) :: (((digI ((2 : UInt8)))).cells ++ []))) rfl (hB.range (i := 1) (m := 33) rfl (by simp [Mark.cells, Stand.cells])) row30 (by simp [Mark.cells, Stand.cells])) ⟨G, fun _ _ h => h, ⟨hC, hB, hg⟩, rfl⟩
       refine dsOn (j := 18) rfl rfl ?_ ?_
       ·
        intro done G w ac_ hd hp hn ⟨hC, hB, hg⟩ hM
        have f157 := hM.eqv (s := 157) 15 rfl (hp 15 rfl) rfl rfl
        have f158 := hM.eqv (s := 158) 16 rfl (hp 16 rfl) rfl rfl
        have f154 := hM.eqv (s := 154) 12 rfl (hp 12 rfl) rfl rfl
        refine ⟨f154, ?_⟩
        have hF := ((hM.fr.add f157).add f158)
        exact OpVal.draw hF (OpVal.cast (opEqRow (eq30 _ ((Mark.mk 8 (digI 2))) ((Mark.mk 8 ((digI ((2 : UInt8))))))) eg30 rfl rfl) (congrArg Value.bool cl8_171)) ⟨G, fun _ _ h => h, ⟨hC, hB, hg⟩, rfl⟩
       refine dsNone (j := 19) rfl ?_ ?_
       ·
        intro done G w ac_ hd hp hn ⟨hC, hB, hg⟩ hM
        have f154 := hM.eqv (s := 154) 12 rfl (hp 12 rfl) rfl rfl
        have f159 := hM.eqv (s := 159) 17 rfl (hp 17 rfl) rfl rfl
        have hF := ((hM.fr.add f154).add f159)
        exact OpVal.draw hF (opPickT rfl rfl) ⟨G, fun _ _ h => h, ⟨hC, hB, hg⟩, rfl⟩
       refine dsNone (j := 20) rfl ?_ ?_
       ·
        intro done G w ac_ hd hp hn ⟨hC, hB, hg⟩ hM
        have f160 := hM.eqv (s := 160) 18 rfl (hp 18 rfl) rfl rfl
        have hF := (hM.fr.add f160)
        exact OpVal.draw hF (opMove rfl) ⟨G, fun _ _ h => h, ⟨hC, hB, hg⟩, rfl⟩
       refine dsOn (j := 21) rfl rfl ?_ ?_
       ·
        intro done G w ac_ hd hp hn ⟨hC, hB, hg⟩ hM
        have f7 : ac_.tmps[7]? = some (.slice (some ⟨b266, 0, none⟩) 4 4) := hM.old0 rfl rfl
        have f161 := hM.eqv (s := 161) 19 rfl (hp 19 rfl) rfl rfl
        refine ⟨f161, ?_⟩
        have hF := (hM.fr.add f7)
        exact OpVal.draw hF (opMove rfl) ⟨G, fun _ _ h => h, ⟨hC, hB, hg⟩, rfl⟩
       refine dsOn (j := 22) rfl rfl ?_ ?_
       ·
        intro done G w ac_ hd hp hn ⟨hC, hB, hg⟩ hM
        have f161 := hM.eqv (s := 161) 19 rfl (hp 19 rfl) rfl rfl
        refine ⟨f161, ?_⟩
        have hF := hM.fr
        exact drawCallS hF rfl co20 rfl (base_ret _ _ hC.holds ) (fun w' hk => ⟨G, fun _ _ h => h, ⟨hC.trans hk, hB.ext hk, hg⟩, rfl⟩)
       refine dsOn (j := 23) rfl rfl ?_ ?_
       ·
        intro done G w ac_ hd hp hn ⟨hC, hB, hg⟩ hM
        have f161 := hM.eqv (s := 161) 19 rfl (hp 19 rfl) rfl rfl
        refine ⟨f161, ?_⟩
        have hF := hM.fr
        exact OpVal.draw hF (opBuild (ps := [(0, .const (.int .i64 1))]) (cs := ((.int .i64 1) :: (Dig.zero.cells ++ []))) so30 zero30 rfl rfl (by simp [buildCells, Value.cells])) ⟨G, fun _ _ h => h, ⟨hC, hB, hg⟩, rfl⟩
       refine dsOn (j := 24) rfl rfl ?_ ?_
       ·
        intro done G w ac_ hd hp hn ⟨hC, hB, hg⟩ hM
        have f1 : ac_.tmps[1]? = some (.pointer (some ⟨b1, 0, none⟩)) := hM.old0 rfl rfl
        have f161 := hM.eqv (s := 161) 19 rfl (hp 19 rfl) rfl rfl
        refine ⟨f161, ?_⟩
        have hF := (hM.fr.add f1)
        exact OpVal.draw hF (opLoadRow (cs := ((digI ((1 : UInt8)))).cells) rfl (hB.range (i := 3) (m := 32) rfl (by simp [Mark.cells, Stand.cells])) row28 (by simp [Mark.cells, Stand.cells])) ⟨G, fun _ _ h => h, ⟨hC, hB, hg⟩, rfl⟩
       refine dsOn (j := 25) rfl rfl ?_ ?_
       ·
        intro done G w ac_ hd hp hn ⟨hC, hB, hg⟩ hM
        have f165 := hM.eqv (s := 165) 23 rfl (hp 23 rfl) rfl rfl
        have f161 := hM.eqv (s := 161) 19 rfl (hp 19 rfl) rfl rfl
        refine ⟨f161, ?_⟩
        have hF := (hM.fr.add f165)
        exact OpVal.draw hF (opBuild (ps := [(0, .const (.int .i64 2)), (1, .tmp 165)]) (cs := ((.int .i64 2) :: (((digI ((1 : UInt8)))).cells ++ []))) so30 zero30 rfl rfl (by simp [buildCells, Value.cells])) ⟨G, fun _ _ h => h, ⟨hC, hB, hg⟩, rfl⟩
       refine dsOn (j := 26) rfl rfl ?_ ?_
       ·
        intro done G w ac_ hd hp hn ⟨hC, hB, hg⟩ hM
        have f164 := hM.eqv (s := 164) 22 rfl (hp 22 rfl) rfl rfl
        have f166 := hM.eqv (s := 166) 24 rfl (hp 24 rfl) rfl rfl
        have f161 := hM.eqv (s := 161) 19 rfl (hp 19 rfl) rfl rfl
        refine ⟨f161, ?_⟩
        have hF := ((hM.fr.add f164).add f166)
        exact drawBsl hF (α := Mark) (ps := [(0, .tmp 164), (1, .tmp 166)]) (xs := [(Mark.mk 1 Dig.zero), (Mark.mk 2 ((digI ((1 : UInt8)))))]) (rows := [((.int .i64 1) :: (Dig.zero.cells ++ [])), ((.int .i64 2) :: (((digI ((1 : UInt8)))).cells ++ []))]) elo31 rfl rfl hC.holds rfl rfl rfl ⟨rfl, rfl, trivial⟩ (fun b G' w' hk hr => ⟨G', hk.gle, ⟨hC.trans hk, hB.ext hk, fun b o h => hk.gle b o (hg b o h)⟩, ⟨b, rfl, hr⟩⟩)
       refine dsOn (j := 27) rfl rfl ?_ ?_
       ·
        intro done G w ac_ hd hp hn ⟨hC, hB, hg⟩ hM
        replace hs267 := hs267.mono hg
        have f162 := hM.eqv (s := 162) 20 rfl (hp 20 rfl) rfl rfl
        have f163 := hM.eqv (s := 163) 21 rfl (hp 21 rfl) rfl rfl
        obtain ⟨v_, f167, ⟨b553, rfl, hs554⟩⟩ := hM.new 25 _ _ rfl (hp 25 rfl) rfl
        have f161 := hM.eqv (s := 161) 19 rfl (hp 19 rfl) rfl rfl
        refine ⟨f161, ?_⟩
        have hF := (((hM.fr.add f162).add f163).add f167)
        exact drawCallS hF rfl co22 rfl (RetS.cast (picks_ret _ _ hC.holds _ ([((hasI 1 2 ((digI ((2 : UInt8)))) 3 true)), ((hasI 2 2 ((digI ((1 : UInt8)))) 3 true)), ((hasI 3 2 ((digI ((1 : UInt8)))) 3 false)), ((hasI 4 2 ((digI ((2 : UInt8)))) 3 false))]) hs267 baseI _ ([(Mark.mk 1 Dig.zero), (Mark.mk 2 ((digI ((1 : UInt8)))))]) hs554 (by decide) (by decide)) (congrArg Value.bool cl8_172)) (fun w' hk => ⟨G, fun _ _ h => h, ⟨hC.trans hk, hB.ext hk, hg⟩, rfl⟩)
       refine dsNone (j := 28) rfl ?_ ?_
       ·
        intro done G w ac_ hd hp hn ⟨hC, hB, hg⟩ hM
        have f161 := hM.eqv (s := 161) 19 rfl (hp 19 rfl) rfl rfl
        have f168 := hM.eqv (s := 168) 26 rfl (hp 26 rfl) rfl rfl
        have hF := ((hM.fr.add f161).add f168)
        exact OpVal.draw hF (opPickT rfl rfl) ⟨G, fun _ _ h => h, ⟨hC, hB, hg⟩, rfl⟩
       refine dsNone (j := 29) rfl ?_ ?_
       ·
        intro done G w ac_ hd hp hn ⟨hC, hB, hg⟩ hM
        have f169 := hM.eqv (s := 169) 27 rfl (hp 27 rfl) rfl rfl
        have hF := (hM.fr.add f169)
        exact OpVal.draw hF (opMove rfl) ⟨G, fun _ _ h => h, ⟨hC, hB, hg⟩, rfl⟩
       refine dsOn (j := 30) rfl rfl ?_ ?_
       ·
        intro done G w ac_ hd hp hn ⟨hC, hB, hg⟩ hM
        have f170 := hM.eqv (s := 170) 28 rfl (hp 28 rfl) rfl rfl
        refine ⟨f170, ?_⟩
        have hF := hM.fr
        exact OpVal.draw hF (opBuildArr (ps := []) (cs := [(.int .i64 0), (.int .i64 0), (.int .i64 0)]) ar41 zero41 rfl rfl (by first | rfl | simp [buildA, Value.cells])) ⟨G, fun _ _ h => h, ⟨hC, hB, hg⟩, rfl⟩
       refine dsOn (j := 31) rfl rfl ?_ ?_
       ·
        intro done G w ac_ hd hp hn ⟨hC, hB, hg⟩ hM
        have f171 := hM.eqv (s := 171) 29 rfl (hp 29 rfl) rfl rfl
        have f170 := hM.eqv (s := 170) 28 rfl (hp 28 rfl) rfl rfl
        refine ⟨f170, ?_⟩
        have hF := (hM.fr.add f171)
        exact drawCallS hF rfl co4 rfl (keeps_ret _ _ hC.holds _ ([]) (Sl.nil_ _) _ ([]) (Sl.nil_ _) ((A3.mk 0 0 0))) (fun w' hk => ⟨G, fun _ _ h => h, ⟨hC.trans hk, hB.ext hk, hg⟩, rfl⟩)
       refine dsNone (j := 32) rfl ?_ ?_
       ·
        intro done G w ac_ hd hp hn ⟨hC, hB, hg⟩ hM
        have f170 := hM.eqv (s := 170) 28 rfl (hp 28 rfl) rfl rfl
        have f172 := hM.eqv (s := 172) 30 rfl (hp 30 rfl) rfl rfl
        have hF := ((hM.fr.add f170).add f172)
        exact OpVal.draw hF (opPickT rfl rfl) ⟨G, fun _ _ h => h, ⟨hC, hB, hg⟩, rfl⟩
       refine dsNone (j := 33) rfl ?_ ?_
       ·
        intro done G w ac_ hd hp hn ⟨hC, hB, hg⟩ hM
        have f173 := hM.eqv (s := 173) 31 rfl (hp 31 rfl) rfl rfl
        have hF := (hM.fr.add f173)
        exact OpVal.draw hF (opMove rfl) ⟨G, fun _ _ h => h, ⟨hC, hB, hg⟩, rfl⟩
       refine dsOn (j := 34) rfl rfl ?_ ?_
       ·
        intro done G w ac_ hd hp hn ⟨hC, hB, hg⟩ hM
        have f174 := hM.eqv (s := 174) 32 rfl (hp 32 rfl) rfl rfl
        refine ⟨f174, ?_⟩
        have hF := hM.fr
        exact OpVal.draw hF (opBuildArr (ps := [(0, .const (.int .i64 1)), (1, .const (.int .i64 7)), (2, .const (.int .i64 0))]) (cs := [(.int .i64 1), (.int .i64 7), (.int .i64 0)]) ar41 zero41 rfl rfl (by first | rfl | simp [buildA, Value.cells])) ⟨G, fun _ _ h => h, ⟨hC, hB, hg⟩, rfl⟩
       refine dsOn (j := 35) rfl rfl ?_ ?_
       ·
        intro done G w ac_ hd hp hn ⟨hC, hB, hg⟩ hM
        have f175 := hM.eqv (s := 175) 33 rfl (hp 33 rfl) rfl rfl
        have f174 := hM.eqv (s := 174) 32 rfl (hp 32 rfl) rfl rfl
        refine ⟨f174, ?_⟩
        have hF := (hM.fr.add f175)
        exact drawCallS hF rfl co4 rfl (keeps_ret _ _ hC.holds _ ([]) (Sl.nil_ _) _ ([]) (Sl.nil_ _) ((A3.mk 1 7 0))) (fun w' hk => ⟨G, fun _ _ h => h, ⟨hC.trans hk, hB.ext hk, hg⟩, rfl⟩)
       refine dsNone (j := 36) rfl ?_ ?_
       ·
        intro done G w ac_ hd hp hn ⟨hC, hB, hg⟩ hM
        have f174 := hM.eqv (s := 174) 32 rfl (hp 32 rfl) rfl rfl
        have f176 := hM.eqv (s := 176) 34 rfl (hp 34 rfl) rfl rfl
        have hF := ((hM.fr.add f174).add f176)
        exact OpVal.draw hF (opPickT rfl rfl) ⟨G, fun _ _ h => h, ⟨hC, hB, hg⟩, rfl⟩
       refine dsNone (j := 37) rfl ?_ ?_
       ·
        intro done G w ac_ hd hp hn ⟨hC, hB, hg⟩ hM
        have f177 := hM.eqv (s := 177) 35 rfl (hp 35 rfl) rfl rfl
        have hF := (hM.fr.add f177)
        exact OpVal.draw hF (opAssign rfl) ⟨G, fun _ _ h => h, ⟨hC, hB, hg⟩, rfl⟩
       exact dsNil
      ·
       intro done G w ac_ hall ⟨hC, hB, hg⟩ hM
       replace hs7 := hs7.mono hg
       replace hs9 := hs9.mono hg
       replace hs11 := hs11.mono hg
       replace hs22 := hs22.mono hg
       replace hs24 := hs24.mono hg
       replace hs26 := hs26.mono hg
       replace hs37 := hs37.mono hg
       replace hs39 := hs39.mono hg
       replace hs41 := hs41.mono hg
       replace hs49 := hs49.mono hg
       replace hs54 := hs54.mono hg
       replace hs56 := hs56.mono hg
       replace hs58 := hs58.mono hg
       replace hs69 := hs69.mono hg
       replace hs71 := hs71.mono hg
       replace hs73 := hs73.mono hg
       replace hs84 := hs84.mono hg
       replace hs86 := hs86.mono hg
       replace hs88 := hs88.mono hg
       replace hs96 := hs96.mono hg
       replace hs101 := hs101.mono hg
       replace hs103 := hs103.mono hg
       replace hs105 := hs105.mono hg
       replace hs116 := hs116.mono hg
       replace hs118 := hs118.mono hg
       replace hs120 := hs120.mono hg
       replace hs131 := hs131.mono hg
       replace hs133 := hs133.mono hg
       replace hs135 := hs135.mono hg
       replace hs143 := hs143.mono hg
       replace hs205 := hs205.mono hg
       replace hs267 := hs267.mono hg
       replace hs314 := hs314.mono hg
       replace hs319 := hs319.mono hg
       replace hs321 := hs321.mono hg
       replace hs323 := hs323.mono hg
       replace hs334 := hs334.mono hg
       replace hs336 := hs336.mono hg
       replace hs338 := hs338.mono hg
       replace hs349 := hs349.mono hg
       replace hs351 := hs351.mono hg
       replace hs353 := hs353.mono hg
       replace hs366 := hs366.mono hg
       replace hs372 := hs372.mono hg
       replace hs378 := hs378.mono hg
       replace hs387 := hs387.mono hg
       replace hs389 := hs389.mono hg
       replace hs391 := hs391.mono hg
       replace hs402 := hs402.mono hg
       replace hs404 := hs404.mono hg
       replace hs406 := hs406.mono hg
       replace hs417 := hs417.mono hg
       replace hs419 := hs419.mono hg
       replace hs421 := hs421.mono hg
       replace hs460 := hs460.mono hg
       replace hs483 := hs483.mono hg
       replace hs507 := hs507.mono hg
       replace hs512 := hs512.mono hg
       replace hs519 := hs519.mono hg
       replace hs523 := hs523.mono hg
       replace hs525 := hs525.mono hg
       replace hs527 := hs527.mono hg
       have f0 := hM.eqv (s := 0) 36 rfl (hall 36 (by decide)) rfl rfl
       refine ⟨(Env.nil.put 0 (.bool true)), (hM.fr.add f0), ?_⟩
       clear hM hall
       refine wcOf ?_
       refine wcRet ?_
       exact fun ac_ ha => hQ _ _ _ (results1 ha rfl rfl) ha.df (endS hC hw rfl)
     ·
      skip
      refine wcCondT rfl ?_
      refine wcSkip ?_
      refine wcOf ?_
      refine wcSeq ?_
      refine wcBlock (wcSeq (wcRegion ?_))
      refine wlVal (opAssign rfl) rfl ?_
      refine wlThen ?_
      refine wcBlock ?_
      refine WC.sub (wrInd (ι := Nat) (fun j => 5 - j) (fun j G w => Cx w0 G0 G w ∧ Bxs G w w0.heap.size [(b2, 28, ((digI ((2 : UInt8)))).cells), (b1, 28, ((digI ((1 : UInt8)))).cells)] ∧ Sl G (.slice A12 ((((plainI 1)).marks).length) cap13) (((plainI 1)).marks) ∧ Sl G (.slice A14 ((((plainI 1)).p).length) cap15) (((plainI 1)).p) ∧ Sl G (.slice A16 ((((plainI 1)).q).length) cap17) (((plainI 1)).q) ∧ Sl G (.slice A27 ((((plainI 2)).marks).length) cap28) (((plainI 2)).marks) ∧ Sl G (.slice A29 ((((plainI 2)).p).length) cap30) (((plainI 2)).p) ∧ Sl G (.slice A31 ((((plainI 2)).q).length) cap32) (((plainI 2)).q) ∧ Sl G (.slice A42 ((((plainI 3)).marks).length) cap43) (((plainI 3)).marks) ∧ Sl G (.slice A44 ((((plainI 3)).p).length) cap45) (((plainI 3)).p) ∧ Sl G (.slice A46 ((((plainI 3)).q).length) cap47) (((plainI 3)).q) ∧ Sl G (.slice (some ⟨b48, 0, none⟩) 3 3) ([((plainI 1)), ((plainI 2)), ((plainI 3))]) ∧ Sl G (.slice A59 ((((plainI 1)).marks).length) cap60) (((plainI 1)).marks) ∧ Sl G (.slice A61 ((((plainI 1)).p).length) cap62) (((plainI 1)).p) ∧ Sl G (.slice A63 ((((plainI 1)).q).length) cap64) (((plainI 1)).q) ∧ Sl G (.slice A74 ((((plainI 2)).marks).length) cap75) (((plainI 2)).marks) ∧ Sl G (.slice A76 ((((plainI 2)).p).length) cap77) (((plainI 2)).p) ∧ Sl G (.slice A78 ((((plainI 2)).q).length) cap79) (((plainI 2)).q) ∧ Sl G (.slice A89 ((((plainI 2)).marks).length) cap90) (((plainI 2)).marks) ∧ Sl G (.slice A91 ((((plainI 2)).p).length) cap92) (((plainI 2)).p) ∧ Sl G (.slice A93 ((((plainI 2)).q).length) cap94) (((plainI 2)).q) ∧ Sl G (.slice (some ⟨b95, 0, none⟩) 3 3) ([((plainI 1)), ((plainI 2)), ((plainI 2))]) ∧ Sl G (.slice A106 ((((plainI 1)).marks).length) cap107) (((plainI 1)).marks) ∧ Sl G (.slice A108 ((((plainI 1)).p).length) cap109) (((plainI 1)).p) ∧ Sl G (.slice A110 ((((plainI 1)).q).length) cap111) (((plainI 1)).q) ∧ Sl G (.slice A121 ((((plainI 2)).marks).length) cap122) (((plainI 2)).marks) ∧ Sl G (.slice A123 ((((plainI 2)).p).length) cap124) (((plainI 2)).p) ∧ Sl G (.slice A125 ((((plainI 2)).q).length) cap126) (((plainI 2)).q) ∧ Sl G (.slice A136 ((((plainI 9)).marks).length) cap137) (((plainI 9)).marks) ∧ Sl G (.slice A138 ((((plainI 9)).p).length) cap139) (((plainI 9)).p) ∧ Sl G (.slice A140 ((((plainI 9)).q).length) cap141) (((plainI 9)).q) ∧ Sl G (.slice (some ⟨b142, 0, none⟩) 3 3) ([((plainI 1)), ((plainI 2)), ((plainI 9))]) ∧ Sl G (.slice (some ⟨b204, 0, none⟩) 4 4) ([((hasI 1 8 ((digI ((1 : UInt8)))) 3 true)), ((hasI 2 8 ((digI ((2 : UInt8)))) 4 true)), ((hasI 3 8 ((digI ((2 : UInt8)))) 4 false)), ((hasI 4 8 ((digI ((1 : UInt8)))) 3 false))]) ∧ Sl G (.slice (some ⟨b266, 0, none⟩) 4 4) ([((hasI 1 2 ((digI ((2 : UInt8)))) 3 true)), ((hasI 2 2 ((digI ((1 : UInt8)))) 3 true)), ((hasI 3 2 ((digI ((1 : UInt8)))) 3 false)), ((hasI 4 2 ((digI ((2 : UInt8)))) 3 false))]) ∧ Sl G (.slice (some ⟨b313, 0, none⟩) 3 3) ([((hasI 1 3 ((digI ((1 : UInt8)))) 0 true)), ((hasI 2 3 ((digI ((1 : UInt8)))) 0 true)), ((hasI 3 9 ((digI ((1 : UInt8)))) 0 true))]) ∧ Sl G (.slice A324 ((((plainI 1)).marks).length) cap325) (((plainI 1)).marks) ∧ Sl G (.slice A326 ((((plainI 1)).p).length) cap327) (((plainI 1)).p) ∧ Sl G (.slice A328 ((((plainI 1)).q).length) cap329) (((plainI 1)).q) ∧ Sl G (.slice A339 ((((plainI 2)).marks).length) cap340) (((plainI 2)).marks) ∧ Sl G (.slice A341 ((((plainI 2)).p).length) cap342) (((plainI 2)).p) ∧ Sl G (.slice A343 ((((plainI 2)).q).length) cap344) (((plainI 2)).q) ∧ Sl G (.slice A354 ((((plainI 3)).marks).length) cap355) (((plainI 3)).marks) ∧ Sl G (.slice A356 ((((plainI 3)).p).length) cap357) (((plainI 3)).p) ∧ Sl G (.slice A358 ((((plainI 3)).q).length) cap359) (((plainI 3)).q) ∧ Sl G (.slice (some ⟨b365, 0, none⟩) 4 4) ([(Mark.mk 9007199254740984 Dig.zero), (Mark.mk 9007199254740983 ((digI ((1 : UInt8))))), (Mark.mk ((-1)) Dig.zero), (Mark.mk 9007199254740983 ((digI ((2 : UInt8)))))]) ∧ Sl G (.slice (some ⟨b371, 0, none⟩) 4 4) ([(Mark.mk 9007199254740984 Dig.zero), (Mark.mk 9007199254740983 ((digI ((1 : UInt8))))), (Mark.mk ((-1)) Dig.zero), (Mark.mk 9007199254740983 ((digI ((2 : UInt8)))))]) ∧ Sl G (.slice (some ⟨b377, 0, none⟩) 4 4) ([(Mark.mk 9007199254740984 Dig.zero), (Mark.mk 9007199254740983 ((digI ((1 : UInt8))))), (Mark.mk ((-1)) Dig.zero), (Mark.mk 9007199254740983 ((digI ((2 : UInt8)))))]) ∧ Sl G (.slice A392 ((((plainI 1)).marks).length) cap393) (((plainI 1)).marks) ∧ Sl G (.slice A394 ((((plainI 1)).p).length) cap395) (((plainI 1)).p) ∧ Sl G (.slice A396 ((((plainI 1)).q).length) cap397) (((plainI 1)).q) ∧ Sl G (.slice A407 ((((plainI 2)).marks).length) cap408) (((plainI 2)).marks) ∧ Sl G (.slice A409 ((((plainI 2)).p).length) cap410) (((plainI 2)).p) ∧ Sl G (.slice A411 ((((plainI 2)).q).length) cap412) (((plainI 2)).q) ∧ Sl G (.slice A422 ((((plainI 3)).marks).length) cap423) (((plainI 3)).marks) ∧ Sl G (.slice A424 ((((plainI 3)).p).length) cap425) (((plainI 3)).p) ∧ Sl G (.slice A426 ((((plainI 3)).q).length) cap427) (((plainI 3)).q) ∧ Sl G (.slice (some ⟨g362, 0, none⟩) 3 3) ((List.set ((List.set ((List.set ([((plainI 1)), ((plainI 2)), ((plainI 3))]) 0 (Change.mk x367.node x367.view x367.low ([(Mark.mk 9007199254740984 Dig.zero), (Mark.mk 9007199254740983 ((digI ((1 : UInt8))))), (Mark.mk ((-1)) Dig.zero), (Mark.mk 9007199254740983 ((digI ((2 : UInt8)))))]) x367.p x367.q))) 1 (Change.mk x373.node x373.view x373.low ([(Mark.mk 9007199254740984 Dig.zero), (Mark.mk 9007199254740983 ((digI ((1 : UInt8))))), (Mark.mk ((-1)) Dig.zero), (Mark.mk 9007199254740983 ((digI ((2 : UInt8)))))]) x373.p x373.q))) 2 (Change.mk x379.node x379.view x379.low ([(Mark.mk 9007199254740984 Dig.zero), (Mark.mk 9007199254740983 ((digI ((1 : UInt8))))), (Mark.mk ((-1)) Dig.zero), (Mark.mk 9007199254740983 ((digI ((2 : UInt8)))))]) x379.p x379.q))) ∧ Sl G (.slice (some ⟨g430, 0, none⟩) 3 3) ((List.set ((List.set ([((plainI 1)), ((plainI 2)), ((plainI 3))]) 0 (Change.mk x367.node x367.view 4 x367.marks x367.p x367.q))) 1 (Change.mk x435.node x435.view 4 x435.marks x435.p x435.q))) ∧ Sl G (.slice (some ⟨b506, 0, none⟩) 11 11) ([[], ([((plainI 1)), ((plainI 2)), ((plainI 3))].take 2), [((plainI 1)), ((plainI 2)), ((plainI 3))], [((plainI 1)), ((plainI 2)), ((plainI 2))], [((plainI 1)), ((plainI 2)), ((plainI 9))], [((hasI 1 8 ((digI ((1 : UInt8)))) 3 true)), ((hasI 2 8 ((digI ((2 : UInt8)))) 4 true)), ((hasI 3 8 ((digI ((2 : UInt8)))) 4 false)), ((hasI 4 8 ((digI ((1 : UInt8)))) 3 false))], [((hasI 1 2 ((digI ((2 : UInt8)))) 3 true)), ((hasI 2 2 ((digI ((1 : UInt8)))) 3 true)), ((hasI 3 2 ((digI ((1 : UInt8)))) 3 false)), ((hasI 4 2 ((digI ((2 : UInt8)))) 3 false))], [((hasI 1 3 ((digI ((1 : UInt8)))) 0 true)), ((hasI 2 3 ((digI ((1 : UInt8)))) 0 true)), ((hasI 3 9 ((digI ((1 : UInt8)))) 0 true))], (List.set ((List.set ((List.set ([((plainI 1)), ((plainI 2)), ((plainI 3))]) 0 (Change.mk x367.node x367.view x367.low ([(Mark.mk 9007199254740984 Dig.zero), (Mark.mk 9007199254740983 ((digI ((1 : UInt8))))), (Mark.mk ((-1)) Dig.zero), (Mark.mk 9007199254740983 ((digI ((2 : UInt8)))))]) x367.p x367.q))) 1 (Change.mk x373.node x373.view x373.low ([(Mark.mk 9007199254740984 Dig.zero), (Mark.mk 9007199254740983 ((digI ((1 : UInt8))))), (Mark.mk ((-1)) Dig.zero), (Mark.mk 9007199254740983 ((digI ((2 : UInt8)))))]) x373.p x373.q))) 2 (Change.mk x379.node x379.view x379.low ([(Mark.mk 9007199254740984 Dig.zero), (Mark.mk 9007199254740983 ((digI ((1 : UInt8))))), (Mark.mk ((-1)) Dig.zero), (Mark.mk 9007199254740983 ((digI ((2 : UInt8)))))]) x379.p x379.q)), (List.set ((List.set ([((plainI 1)), ((plainI 2)), ((plainI 3))]) 0 (Change.mk x367.node x367.view 4 x367.marks x367.p x367.q))) 1 (Change.mk x435.node x435.view 4 x435.marks x435.p x435.q)), ([((plainI 1)), ((plainI 2)), ((plainI 3))] ++ [((plainI 4))])]) ∧ Sl G (.slice A513 ((((crewI 1)).nodes).length) cap514) (((crewI 1)).nodes) ∧ Sl G (.slice A520 ((((crewI 2)).nodes).length) cap521) (((crewI 2)).nodes) ∧ Sl G (.slice (some ⟨b522, 0, none⟩) 3 3) ([1, 2, 3]) ∧ Sl G (.slice (some ⟨b524, 0, none⟩) 1 1) ([1]) ∧ Sl G (.slice (some ⟨b526, 0, none⟩) 5 5) ([((crewI 1)), ((crewI 2)), (Crew.mk 0 ([])), (Crew.mk 1 ([1, 2, 3])), (Crew.mk 0 ([1]))])) (fun j => ((((((((Env.nil.put 1 (.pointer (some ⟨b1, 0, none⟩))).put 2 (.pointer (some ⟨b2, 0, none⟩))).put 6 (.slice (some ⟨b204, 0, none⟩) 4 4)).put 7 (.slice (some ⟨b266, 0, none⟩) 4 4)).put 12 (.slice (some ⟨b506, 0, none⟩) 11 11)).put 13 (.slice (some ⟨b526, 0, none⟩) 5 5)).put 14 (.int .i64 (((i : Nat) : Int)))).put 15 (.int .i64 (((j : Nat) : Int))))) ?_ (0) _ _ ⟨hC, hB, hs7, hs9, hs11, hs22, hs24, hs26, hs37, hs39, hs41, hs49, hs54, hs56, hs58, hs69, hs71, hs73, hs84, hs86, hs88, hs96, hs101, hs103, hs105, hs116, hs118, hs120, hs131, hs133, hs135, hs143, hs205, hs267, hs314, hs319, hs321, hs323, hs334, hs336, hs338, hs349, hs351, hs353, hs366, hs372, hs378, hs387, hs389, hs391, hs402, hs404, hs406, hs417, hs419, hs421, hs460, hs483, hs507, hs512, hs519, hs523, hs525, hs527⟩) (fun _ ha => ((((((((ha.start.cons ha (t := 1) rfl).cons ha (t := 2) rfl).cons ha (t := 6) rfl).cons ha (t := 7) rfl).cons ha (t := 12) rfl).cons ha (t := 13) rfl).cons ha (t := 14) rfl).cons ha (t := 15) rfl))
      rintro j G w N2 IH2 ⟨hC, hB, hs7, hs9, hs11, hs22, hs24, hs26, hs37, hs39, hs41, hs49, hs54, hs56, hs58, hs69, hs71, hs73, hs84, hs86, hs88, hs96, hs101, hs103, hs105, hs116, hs118, hs120, hs131, hs133, hs135, hs143, hs205, hs267, hs314, hs319, hs321, hs323, hs334, hs336, hs338, hs349, hs351, hs353, hs366, hs372, hs378, hs387, hs389, hs391, hs402, hs404, hs406, hs417, hs419, hs421, hs460, hs483, hs507, hs512, hs519, hs523, hs525, hs527⟩
      show WC _ _ _ _ ((((((((Env.nil.put 1 (.pointer (some ⟨b1, 0, none⟩))).put 2 (.pointer (some ⟨b2, 0, none⟩))).put 6 (.slice (some ⟨b204, 0, none⟩) 4 4)).put 7 (.slice (some ⟨b266, 0, none⟩) 4 4)).put 12 (.slice (some ⟨b506, 0, none⟩) 11 11)).put 13 (.slice (some ⟨b526, 0, none⟩) 5 5)).put 14 (.int .i64 (((i : Nat) : Int)))).put 15 (.int .i64 (((j : Nat) : Int)))) w
      refine wcSeq (wcSeq (wcRegion ?_))
      refine wlVal (opMove rfl) rfl ?_
      refine wlVal (opMove rfl) rfl ?_
      refine wlVal (opLen rfl isl63) rfl ?_
      refine wlVal (opLssN (b := 5) rfl rfl) rfl ?_
      refine wlThen ?_
      cases h555 : decide (j < 5)
      ·
       skip
       refine wcCondF rfl ?_
       refine wcExit ?_
       refine wcOf ?_
       refine wcRegion ?_
       refine wlVal (opMove rfl) rfl ?_
       refine wlVal (opIncr rfl rfl (incr_ok (of_decide_eq_true h528) hs507.le)) rfl ?_
       refine wlVal (opAssign rfl) rfl ?_
       refine wlRound ?_
       exact (IH1 (i + 1) _ _ ⟨hC, hB, hs7, hs9, hs11, hs22, hs24, hs26, hs37, hs39, hs41, hs49, hs54, hs56, hs58, hs69, hs71, hs73, hs84, hs86, hs88, hs96, hs101, hs103, hs105, hs116, hs118, hs120, hs131, hs133, hs135, hs143, hs205, hs267, hs314, hs319, hs321, hs323, hs334, hs336, hs338, hs349, hs351, hs353, hs366, hs372, hs378, hs387, hs389, hs391, hs402, hs404, hs406, hs417, hs419, hs421, hs460, hs483, hs507, hs512, hs519, hs523, hs525, hs527⟩ (by have q := of_decide_eq_true h528; show 11 - (i + 1) < 11 - i; omega)).sub (fun _ ha => (((((((ha.start.cons ha (t := 1) rfl).cons ha (t := 2) rfl).cons ha (t := 6) rfl).cons ha (t := 7) rfl).cons ha (t := 12) rfl).cons ha (t := 13) rfl).cons ha (t := 14) rfl))
      ·
       skip
       refine wcCondT rfl ?_
       refine wcSkip ?_
       refine wcOf ?_
       refine wcSeq ?_
       refine wcBlock (wcSeq ?_)
       obtain ⟨x556, hx557⟩ : ∃ y_, ([((crewI 1)), ((crewI 2)), (Crew.mk 0 ([])), (Crew.mk 1 ([1, 2, 3])), (Crew.mk 0 ([1]))])[j]? = some y_ := ⟨_, List.getElem?_eq_getElem (of_decide_eq_true h555)⟩
       obtain ⟨row560, hr561, hi562⟩ := Sl.elem' hs527 hx557
       obtain ⟨v564, rfl, hs565⟩ := Crew.opIs hi562
       obtain ⟨A566, cap567, rfl⟩ := hs565.form
       obtain ⟨x568, hx569⟩ : ∃ y_, ([[], ([((plainI 1)), ((plainI 2)), ((plainI 3))].take 2), [((plainI 1)), ((plainI 2)), ((plainI 3))], [((plainI 1)), ((plainI 2)), ((plainI 2))], [((plainI 1)), ((plainI 2)), ((plainI 9))], [((hasI 1 8 ((digI ((1 : UInt8)))) 3 true)), ((hasI 2 8 ((digI ((2 : UInt8)))) 4 true)), ((hasI 3 8 ((digI ((2 : UInt8)))) 4 false)), ((hasI 4 8 ((digI ((1 : UInt8)))) 3 false))], [((hasI 1 2 ((digI ((2 : UInt8)))) 3 true)), ((hasI 2 2 ((digI ((1 : UInt8)))) 3 true)), ((hasI 3 2 ((digI ((1 : UInt8)))) 3 false)), ((hasI 4 2 ((digI ((2 : UInt8)))) 3 false))], [((hasI 1 3 ((digI ((1 : UInt8)))) 0 true)), ((hasI 2 3 ((digI ((1 : UInt8)))) 0 true)), ((hasI 3 9 ((digI ((1 : UInt8)))) 0 true))], (List.set ((List.set ((List.set ([((plainI 1)), ((plainI 2)), ((plainI 3))]) 0 (Change.mk x367.node x367.view x367.low ([(Mark.mk 9007199254740984 Dig.zero), (Mark.mk 9007199254740983 ((digI ((1 : UInt8))))), (Mark.mk ((-1)) Dig.zero), (Mark.mk 9007199254740983 ((digI ((2 : UInt8)))))]) x367.p x367.q))) 1 (Change.mk x373.node x373.view x373.low ([(Mark.mk 9007199254740984 Dig.zero), (Mark.mk 9007199254740983 ((digI ((1 : UInt8))))), (Mark.mk ((-1)) Dig.zero), (Mark.mk 9007199254740983 ((digI ((2 : UInt8)))))]) x373.p x373.q))) 2 (Change.mk x379.node x379.view x379.low ([(Mark.mk 9007199254740984 Dig.zero), (Mark.mk 9007199254740983 ((digI ((1 : UInt8))))), (Mark.mk ((-1)) Dig.zero), (Mark.mk 9007199254740983 ((digI ((2 : UInt8)))))]) x379.p x379.q)), (List.set ((List.set ([((plainI 1)), ((plainI 2)), ((plainI 3))]) 0 (Change.mk x367.node x367.view 4 x367.marks x367.p x367.q))) 1 (Change.mk x435.node x435.view 4 x435.marks x435.p x435.q)), ([((plainI 1)), ((plainI 2)), ((plainI 3))] ++ [((plainI 4))])])[i]? = some y_ := ⟨_, List.getElem?_eq_getElem (of_decide_eq_true h528)⟩
       obtain ⟨row572, hr573, hi574⟩ := Sl.elem' hs507 hx569
       obtain ⟨v576, rfl, hs577⟩ := hi574
       obtain ⟨A578, cap579, rfl⟩ := hs577.form
       refine wcDraw fmix (by kernel_rfl) (by kernel_rfl) (vAt [(fun _ v_ => v_ = ((.slice (some ⟨b526, 0, none⟩) 5 5) : Value)), (fun _ v_ => v_ = ((.int .i64 (((j : Nat) : Int))) : Value)), (fun _ v_ => v_ = ((.pointer (some ⟨b526, 0 + j * 2, none⟩)) : Value)), (fun _ v_ => v_ = ((.agg [(.int .i64 x556.faults), (.slice A566 x556.nodes.length cap567)].toArray) : Value)), (fun _ v_ => v_ = ((.slice (some ⟨b506, 0, none⟩) 11 11) : Value)), (fun _ v_ => v_ = ((.int .i64 (((i : Nat) : Int))) : Value)), (fun _ v_ => v_ = ((.pointer (some ⟨b506, 0 + i * 1, none⟩)) : Value)), (fun _ v_ => v_ = ((.slice A578 x568.length cap579) : Value)), (fun _ v_ => v_ = ((.bool true) : Value)), (fun _ v_ => v_ = ((.bool false) : Value))]) (fun _ _ G' w => Cx w0 G0 G' w ∧ Bxs G' w w0.heap.size [(b2, 28, ((digI ((2 : UInt8)))).cells), (b1, 28, ((digI ((1 : UInt8)))).cells)] ∧ GLe G G') G (vAt_mono ⟨fun _ _ _ _ h => h, fun _ _ _ _ h => h, fun _ _ _ _ h => h, fun _ _ _ _ h => h, fun _ _ _ _ h => h, fun _ _ _ _ h => h, fun _ _ _ _ h => h, fun _ _ _ _ h => h, fun _ _ _ _ h => h, fun _ _ _ _ h => h, trivial⟩) (fun _ _ => ⟨hC.drew, hB.drew, fun _ _ h => h⟩) ?_ ?_
       ·
        refine dsNone (j := 1) rfl ?_ ?_
        ·
         intro done G w ac_ hd hp hn ⟨hC, hB, hg⟩ hM
         have f13 : ac_.tmps[13]? = some (.slice (some ⟨b526, 0, none⟩) 5 5) := hM.old0 rfl rfl
         have hF := (hM.fr.add f13)
         exact OpVal.draw hF (opMove rfl) ⟨G, fun _ _ h => h, ⟨hC, hB, hg⟩, rfl⟩
        refine dsNone (j := 2) rfl ?_ ?_
        ·
         intro done G w ac_ hd hp hn ⟨hC, hB, hg⟩ hM
         have f15 : ac_.tmps[15]? = some (.int .i64 (((j : Nat) : Int))) := hM.old0 rfl rfl
         have hF := (hM.fr.add f15)
         exact OpVal.draw hF (opMove rfl) ⟨G, fun _ _ h => h, ⟨hC, hB, hg⟩, rfl⟩
        refine dsNone (j := 3) rfl ?_ ?_
        ·
         intro done G w ac_ hd hp hn ⟨hC, hB, hg⟩ hM
         have f123 := hM.eqv (s := 123) 0 rfl (hp 0 rfl) rfl rfl
         have f124 := hM.eqv (s := 124) 1 rfl (hp 1 rfl) rfl rfl
         have hF := ((hM.fr.add f123).add f124)
         exact OpVal.draw hF (opIndexAddr rfl rfl slo63 (of_decide_eq_true h555)) ⟨G, fun _ _ h => h, ⟨hC, hB, hg⟩, rfl⟩
        refine dsNone (j := 4) rfl ?_ ?_
        ·
         intro done G w ac_ hd hp hn ⟨hC, hB, hg⟩ hM
         replace hr561 := hr561.mono hg
         have f125 := hM.eqv (s := 125) 2 rfl (hp 2 rfl) rfl rfl
         have hF := (hM.fr.add f125)
         exact OpVal.draw hF (opLoadRow (cs := [(.int .i64 x556.faults), (.slice A566 x556.nodes.length cap567)]) rfl (RowG.range hC.holds hr561) row24 rfl) ⟨G, fun _ _ h => h, ⟨hC, hB, hg⟩, rfl⟩
        refine dsNone (j := 5) rfl ?_ ?_
        ·
         intro done G w ac_ hd hp hn ⟨hC, hB, hg⟩ hM
         have f12 : ac_.tmps[12]? = some (.slice (some ⟨b506, 0, none⟩) 11 11) := hM.old0 rfl rfl
         have hF := (hM.fr.add f12)
         exact OpVal.draw hF (opMove rfl) ⟨G, fun _ _ h => h, ⟨hC, hB, hg⟩, rfl⟩
        refine dsNone (j := 6) rfl ?_ ?_
        ·
         intro done G w ac_ hd hp hn ⟨hC, hB, hg⟩ hM
         have f14 : ac_.tmps[14]? = some (.int .i64 (((i : Nat) : Int))) := hM.old0 rfl rfl
         have hF := (hM.fr.add f14)
         exact OpVal.draw hF (opMove rfl) ⟨G, fun _ _ h => h, ⟨hC, hB, hg⟩, rfl⟩
        refine dsNone (j := 7) rfl ?_ ?_
        ·
         intro done G w ac_ hd hp hn ⟨hC, hB, hg⟩ hM
         have f127 := hM.eqv (s := 127) 4 rfl (hp 4 rfl) rfl rfl
         have f128 := hM.eqv (s := 128) 5 rfl (hp 5 rfl) rfl rfl
         have hF := ((hM.fr.add f127).add f128)
         exact OpVal.draw hF (opIndexAddr rfl rfl slo62 (of_decide_eq_true h528)) ⟨G, fun _ _ h => h, ⟨hC, hB, hg⟩, rfl⟩
        refine dsNone (j := 8) rfl ?_ ?_
        ·
         intro done G w ac_ hd hp hn ⟨hC, hB, hg⟩ hM
         replace hr573 := hr573.mono hg
         have f129 := hM.eqv (s := 129) 6 rfl (hp 6 rfl) rfl rfl
         have hF := (hM.fr.add f129)
         exact OpVal.draw hF (opLoadOne (v := (.slice A578 x568.length cap579)) rfl (RowG.cell0 hC.holds hr573 rfl) one25) ⟨G, fun _ _ h => h, ⟨hC, hB, hg⟩, rfl⟩
        refine dsNone (j := 9) rfl ?_ ?_
        ·
         intro done G w ac_ hd hp hn ⟨hC, hB, hg⟩ hM
         replace hs565 := hs565.mono hg
         replace hs577 := hs577.mono hg
         have f126 := hM.eqv (s := 126) 3 rfl (hp 3 rfl) rfl rfl
         have f130 := hM.eqv (s := 130) 7 rfl (hp 7 rfl) rfl rfl
         have hF := ((hM.fr.add f126).add f130)
         exact drawCallS hF rfl co3 rfl (selects_ret _ _ hC.holds _ x556 (Crew.mkIs (x := x556) hs565) _ x568 hs577) (fun w' hk => ⟨G, fun _ _ h => h, ⟨hC.trans hk, hB.ext hk, hg⟩, rfl⟩)
        refine dsNone (j := 10) rfl ?_ ?_
        ·
         intro done G w ac_ hd hp hn ⟨hC, hB, hg⟩ hM
         have f131 := hM.eqv (s := 131) 8 rfl (hp 8 rfl) rfl rfl
         have hF := (hM.fr.add f131)
         exact OpVal.draw hF (opNot rfl) ⟨G, fun _ _ h => h, ⟨hC, hB, hg⟩, rfl⟩
        exact dsNil
       ·
        intro done G w ac_ hall ⟨hC, hB, hg⟩ hM
        replace hs7 := hs7.mono hg
        replace hs9 := hs9.mono hg
        replace hs11 := hs11.mono hg
        replace hs22 := hs22.mono hg
        replace hs24 := hs24.mono hg
        replace hs26 := hs26.mono hg
        replace hs37 := hs37.mono hg
        replace hs39 := hs39.mono hg
        replace hs41 := hs41.mono hg
        replace hs49 := hs49.mono hg
        replace hs54 := hs54.mono hg
        replace hs56 := hs56.mono hg
        replace hs58 := hs58.mono hg
        replace hs69 := hs69.mono hg
        replace hs71 := hs71.mono hg
        replace hs73 := hs73.mono hg
        replace hs84 := hs84.mono hg
        replace hs86 := hs86.mono hg
        replace hs88 := hs88.mono hg
        replace hs96 := hs96.mono hg
        replace hs101 := hs101.mono hg
        replace hs103 := hs103.mono hg
        replace hs105 := hs105.mono hg
        replace hs116 := hs116.mono hg
        replace hs118 := hs118.mono hg
        replace hs120 := hs120.mono hg
        replace hs131 := hs131.mono hg
        replace hs133 := hs133.mono hg
        replace hs135 := hs135.mono hg
        replace hs143 := hs143.mono hg
        replace hs205 := hs205.mono hg
        replace hs267 := hs267.mono hg
        replace hs314 := hs314.mono hg
        replace hs319 := hs319.mono hg
        replace hs321 := hs321.mono hg
        replace hs323 := hs323.mono hg
        replace hs334 := hs334.mono hg
        replace hs336 := hs336.mono hg
        replace hs338 := hs338.mono hg
        replace hs349 := hs349.mono hg
        replace hs351 := hs351.mono hg
        replace hs353 := hs353.mono hg
        replace hs366 := hs366.mono hg
        replace hs372 := hs372.mono hg
        replace hs378 := hs378.mono hg
        replace hs387 := hs387.mono hg
        replace hs389 := hs389.mono hg
        replace hs391 := hs391.mono hg
        replace hs402 := hs402.mono hg
        replace hs404 := hs404.mono hg
        replace hs406 := hs406.mono hg
        replace hs417 := hs417.mono hg
        replace hs419 := hs419.mono hg
        replace hs421 := hs421.mono hg
        replace hs460 := hs460.mono hg
        replace hs483 := hs483.mono hg
        replace hs507 := hs507.mono hg
        replace hs512 := hs512.mono hg
        replace hs519 := hs519.mono hg
        replace hs523 := hs523.mono hg
        replace hs525 := hs525.mono hg
        replace hs527 := hs527.mono hg
        have f1 : ac_.tmps[1]? = some (.pointer (some ⟨b1, 0, none⟩)) := hM.old0 rfl rfl
        have f2 : ac_.tmps[2]? = some (.pointer (some ⟨b2, 0, none⟩)) := hM.old0 rfl rfl
        have f6 : ac_.tmps[6]? = some (.slice (some ⟨b204, 0, none⟩) 4 4) := hM.old0 rfl rfl
        have f7 : ac_.tmps[7]? = some (.slice (some ⟨b266, 0, none⟩) 4 4) := hM.old0 rfl rfl
        have f12 : ac_.tmps[12]? = some (.slice (some ⟨b506, 0, none⟩) 11 11) := hM.old0 rfl rfl
        have f13 : ac_.tmps[13]? = some (.slice (some ⟨b526, 0, none⟩) 5 5) := hM.old0 rfl rfl
        have f14 : ac_.tmps[14]? = some (.int .i64 (((i : Nat) : Int))) := hM.old0 rfl rfl
        have f15 : ac_.tmps[15]? = some (.int .i64 (((j : Nat) : Int))) := hM.old0 rfl rfl
        have f132 := hM.eqv (s := 132) 9 rfl (hall 9 (by decide)) rfl rfl
        refine ⟨(((((((((Env.nil.put 1 (.pointer (some ⟨b1, 0, none⟩))).put 2 (.pointer (some ⟨b2, 0, none⟩))).put 6 (.slice (some ⟨b204, 0, none⟩) 4 4)).put 7 (.slice (some ⟨b266, 0, none⟩) 4 4)).put 12 (.slice (some ⟨b506, 0, none⟩) 11 11)).put 13 (.slice (some ⟨b526, 0, none⟩) 5 5)).put 14 (.int .i64 (((i : Nat) : Int)))).put 15 (.int .i64 (((j : Nat) : Int)))).put 132 (.bool false)), (((((((((hM.fr.add f1).add f2).add f6).add f7).add f12).add f13).add f14).add f15).add f132), ?_⟩
        clear hM hall
        refine wcOf ?_
        refine wcCondF rfl ?_
        refine wcSkip ?_
        refine wcOf ?_
        refine wcRegion ?_
        refine wlVal (opMove rfl) rfl ?_
        refine wlVal (opIncr rfl rfl (incr_ok (of_decide_eq_true h555) hs527.le)) rfl ?_
        refine wlVal (opAssign rfl) rfl ?_
        refine wlRound ?_
        exact (IH2 (j + 1) _ _ ⟨hC, hB, hs7, hs9, hs11, hs22, hs24, hs26, hs37, hs39, hs41, hs49, hs54, hs56, hs58, hs69, hs71, hs73, hs84, hs86, hs88, hs96, hs101, hs103, hs105, hs116, hs118, hs120, hs131, hs133, hs135, hs143, hs205, hs267, hs314, hs319, hs321, hs323, hs334, hs336, hs338, hs349, hs351, hs353, hs366, hs372, hs378, hs387, hs389, hs391, hs402, hs404, hs406, hs417, hs419, hs421, hs460, hs483, hs507, hs512, hs519, hs523, hs525, hs527⟩ (by have q := of_decide_eq_true h555; show 5 - (j + 1) < 5 - j; omega)).sub (fun _ ha => ((((((((ha.start.cons ha (t := 1) rfl).cons ha (t := 2) rfl).cons ha (t := 6) rfl).cons ha (t := 7) rfl).cons ha (t := 12) rfl).cons ha (t := 13) rfl).cons ha (t := 14) rfl).cons ha (t := 15) rfl))

end Go.Proofs.Ytbhkoipmojdkhaa
