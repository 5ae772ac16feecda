/- What functions of the pick seat return, part 23. No condition. -/
import Derived.Test.YtbhkoipmojdkhaaPkG22
set_option linter.all false
namespace Go.Proofs.Ytbhkoipmojdkhaa
open Go Go.Gx Go.RowKit
theorem co22 : callOk Try.prog 22 = true := by kernel_rfl
theorem cl14_134 : (picksI ([((plainI 1)), ((plainI 2)), ((plainI 3))]) baseI ([])) = true := by kernel_rfl
theorem co21 : callOk Try.prog 21 = true := by kernel_rfl
theorem cl14_136 : (picksI ([((hasI 1 1 ((digI ((1 : UInt8)))) 0 true)), ((hasI 2 1 ((digI ((1 : UInt8)))) 0 true)), ((plainI 3))]) baseI ([(Mark.mk 1 ((digI ((1 : UInt8)))))])) = true := by kernel_rfl
theorem cl14_137 : (picksI ([((hasI 1 1 ((digI ((1 : UInt8)))) 0 true)), ((hasI 2 1 ((digI ((1 : UInt8)))) 0 false)), ((hasI 3 1 ((digI ((1 : UInt8)))) 0 false))]) baseI ([(Mark.mk 1 ((digI ((1 : UInt8)))))])) = true := by kernel_rfl
theorem co34 : callOk Try.prog 34 = true := by kernel_rfl
theorem cl14_139 : (failsI ([(Change.mk (((plainI 1)).node) (((plainI 1)).view) (((plainI 1)).low) (((plainI 1)).marks) ([(Stand.mk 1 ((digI ((2 : UInt8)))) 5)]) (((plainI 1)).q)), ((plainI 2)), ((plainI 3))])) = true := by kernel_rfl
theorem cl14_140 : (picksI ([(Change.mk (((plainI 1)).node) (((plainI 1)).view) (((plainI 1)).low) (((plainI 1)).marks) ([(Stand.mk 1 ((digI ((2 : UInt8)))) 5)]) (((plainI 1)).q)), ((plainI 2)), ((plainI 3)), ((plainI 4))]) baseI ([])) = true := by kernel_rfl
theorem awake_ret (G0 : Gh) (w0 : World) (hw : Holds G0 w0)  :
  RetS Try.prog 14 #[] G0 w0 (.bool true) := by
 have hC := Cx.refl hw
 have hB : Bxs G0 w0 w0.heap.size [] := Bxs.nil _ _ _
 refine callsOf Try.func14 rfl _ Try.ntmps14 rfl _ argsNil ?_; intro Q0 hQ
 refine wcSeq (wcRegion ?_)
 refine wlVal (opAssign rfl) rfl ?_
 refine wlThen (wcSeq (wcRegion ?_))
 refine wlCallS hC hB rfl co16 rfl rfl (digest_ret _ _ hC.holds ((1 : UInt8))) ?_; intro w hk hC hB
 refine wlCallS hC hB rfl co16 rfl rfl (digest_ret _ _ hC.holds ((2 : UInt8))) ?_; intro w hk hC hB
 refine wlAlloc hC hB zero28 rfl ?_; intro b1 w hk hC hB
 refine wlAlloc hC hB zero28 rfl ?_; intro b2 w hk hC hB
 refine wlStore 1 (vs := ((digI ((1 : UInt8)))).cells) (cs := Dig.zero.cells) (cs' := ((digI ((1 : UInt8)))).cells) hC hB rfl rfl rfl sz28 rfl (by simp [Mark.cells, Stand.cells]) (by simp [Mark.cells, Stand.cells, Value.oneCell']) (by simp [Mark.cells, Stand.cells]) (by simp [Mark.cells, Stand.cells]) rfl ?_; intro w hC hB
 refine wlStore 0 (vs := ((digI ((2 : UInt8)))).cells) (cs := Dig.zero.cells) (cs' := ((digI ((2 : UInt8)))).cells) hC hB rfl rfl rfl sz28 rfl (by simp [Mark.cells, Stand.cells]) (by simp [Mark.cells, Stand.cells, Value.oneCell']) (by simp [Mark.cells, Stand.cells]) (by simp [Mark.cells, Stand.cells]) rfl ?_; intro w hC hB
 refine wlThen (wcSeq (wcRegion ?_))
 refine wlVal (opLoadRow (cs := ((digI ((1 : UInt8)))).cells) rfl (hB.range (i := 1) (m := 32) rfl (by simp [Mark.cells, Stand.cells])) row28 (by simp [Mark.cells, Stand.cells])) rfl ?_
 refine wlVal (opBuild (ps := [(0, .const (.int .i64 1)), (1, .tmp 10)]) (cs := ((.int .i64 1) :: (((digI ((1 : UInt8)))).cells ++ []))) so30 zero30 rfl rfl (by simp [buildCells, Value.cells])) rfl ?_
 refine wlAlloc hC hB zero30 rfl ?_; intro b3 w hk hC hB
 refine wlStore 0 (vs := ((.int .i64 1) :: (((digI ((1 : UInt8)))).cells ++ []))) (cs := ((.int .i64 0) :: (Dig.zero.cells ++ []))) (cs' := ((.int .i64 1) :: (((digI ((1 : UInt8)))).cells ++ []))) hC hB rfl rfl rfl sz30 rfl (by simp [Mark.cells, Stand.cells]) (by simp [Mark.cells, Stand.cells, Value.oneCell']) (by simp [Mark.cells, Stand.cells]) (by simp [Mark.cells, Stand.cells]) rfl ?_; intro w hC hB
 refine wlThen (wcSeq (wcRegion ?_))
 refine wlCallG hC hB rfl co18 rfl rfl (plain_ret _ _ hC.holds 1) ?_; rintro v6 G w hk hC hB ⟨r4, rfl, hr5⟩
 obtain ⟨v7, v9, v11, rfl, hs8, hs10, hs12⟩ := Change.opIs hr5
 obtain ⟨A13, cap14, rfl⟩ := hs8.form
 obtain ⟨A15, cap16, rfl⟩ := hs10.form
 obtain ⟨A17, cap18, rfl⟩ := hs12.form
 refine wlAlloc hC hB zero49 rfl ?_; intro b19 w hk hC hB
 refine wlStore 0 (vs := [(.int .i64 (((plainI 1)).node)), (.int .i64 (((plainI 1)).view)), (.int .i64 (((plainI 1)).low)), (.slice A13 ((((plainI 1)).marks).length) cap14), (.slice A15 ((((plainI 1)).p).length) cap16), (.slice A17 ((((plainI 1)).q).length) cap18)]) (cs := [(.int .i64 0), (.int .i64 0), (.int .i64 0), (.slice none 0 0), (.slice none 0 0), (.slice none 0 0)]) (cs' := [(.int .i64 (((plainI 1)).node)), (.int .i64 (((plainI 1)).view)), (.int .i64 (((plainI 1)).low)), (.slice A13 ((((plainI 1)).marks).length) cap14), (.slice A15 ((((plainI 1)).p).length) cap16), (.slice A17 ((((plainI 1)).q).length) cap18)]) hC hB rfl rfl rfl sz49 rfl rfl rfl (by simp [Mark.cells, Stand.cells]) rfl rfl ?_; intro w hC hB
 refine wlThen (wcSeq (wcRegion ?_))
 refine wlVal (opLoadRow (cs := ((digI ((2 : UInt8)))).cells) rfl (hB.range (i := 2) (m := 32) rfl (by simp [Mark.cells, Stand.cells])) row28 (by simp [Mark.cells, Stand.cells])) rfl ?_
 refine wlVal (opBuild (ps := [(0, .const (.int .i64 1)), (1, .tmp 13), (2, .const (.int .i64 5))]) (cs := ((.int .i64 1) :: (((digI ((2 : UInt8)))).cells ++ ((.int .i64 5) :: [])))) so58 zero58 rfl rfl (by simp [buildCells, Value.cells])) rfl ?_
 refine wlBuildSlice (α := Stand) (ps := [(0, .tmp 14)]) (xs := [(Stand.mk 1 ((digI ((2 : UInt8)))) 5)]) (rows := [((.int .i64 1) :: (((digI ((2 : UInt8)))).cells ++ ((.int .i64 5) :: [])))]) elo47 rfl rfl hC hB rfl rfl rfl ⟨rfl, trivial⟩ rfl ?_; intro b20 G w hk hC hB hs21
 replace hs8 := hs8.mono hk.gle; replace hs12 := hs12.mono hk.gle
 refine wlVal (opFieldAddr rfl fo49_4) rfl ?_
 refine wlStore 0 (vs := [(.slice (some ⟨b20, 0, none⟩) 1 1)]) (cs := [(.int .i64 (((plainI 1)).node)), (.int .i64 (((plainI 1)).view)), (.int .i64 (((plainI 1)).low)), (.slice A13 ((((plainI 1)).marks).length) cap14), (.slice A15 ((((plainI 1)).p).length) cap16), (.slice A17 ((((plainI 1)).q).length) cap18)]) (cs' := [(.int .i64 (((plainI 1)).node)), (.int .i64 (((plainI 1)).view)), (.int .i64 (((plainI 1)).low)), (.slice A13 ((((plainI 1)).marks).length) cap14), (.slice (some ⟨b20, 0, none⟩) 1 1), (.slice A17 ((((plainI 1)).q).length) cap18)]) hC hB rfl rfl rfl sz47 rfl rfl rfl (by simp [Mark.cells, Stand.cells]) rfl rfl ?_; intro w hC hB
 refine wlThen (wcSeq (wcRegion ?_))
 refine wlCallS hC hB rfl co16 rfl rfl (digest_ret _ _ hC.holds ((4 : UInt8))) ?_; intro w hk hC hB
 refine wlVal (opBuild (ps := [(0, .const (.int .i64 4)), (1, .tmp 17)]) (cs := ((.int .i64 4) :: (((digI ((4 : UInt8)))).cells ++ []))) so30 zero30 rfl rfl (by simp [buildCells, Value.cells])) rfl ?_
 refine wlAlloc hC hB zero30 rfl ?_; intro b22 w hk hC hB
 refine wlStore 0 (vs := ((.int .i64 4) :: (((digI ((4 : UInt8)))).cells ++ []))) (cs := ((.int .i64 0) :: (Dig.zero.cells ++ []))) (cs' := ((.int .i64 4) :: (((digI ((4 : UInt8)))).cells ++ []))) hC hB rfl rfl rfl sz30 rfl (by simp [Mark.cells, Stand.cells]) (by simp [Mark.cells, Stand.cells, Value.oneCell']) (by simp [Mark.cells, Stand.cells]) (by simp [Mark.cells, Stand.cells]) rfl ?_; intro w hC hB
 refine wlThen (wcSeq (wcRegion ?_))
 refine wlCallG hC hB rfl co18 rfl rfl (plain_ret _ _ hC.holds 1) ?_; rintro v25 G w hk hC hB ⟨r23, rfl, hr24⟩
 replace hs8 := hs8.mono hk.gle; replace hs12 := hs12.mono hk.gle; replace hs21 := hs21.mono hk.gle
 obtain ⟨v26, v28, v30, rfl, hs27, hs29, hs31⟩ := Change.opIs hr24
 obtain ⟨A32, cap33, rfl⟩ := hs27.form
 obtain ⟨A34, cap35, rfl⟩ := hs29.form
 obtain ⟨A36, cap37, rfl⟩ := hs31.form
 refine wlCallG hC hB rfl co18 rfl rfl (plain_ret _ _ hC.holds 2) ?_; rintro v40 G w hk hC hB ⟨r38, rfl, hr39⟩
 replace hs8 := hs8.mono hk.gle; replace hs12 := hs12.mono hk.gle; replace hs21 := hs21.mono hk.gle; replace hs29 := hs29.mono hk.gle; replace hs31 := hs31.mono hk.gle
 obtain ⟨v41, v43, v45, rfl, hs42, hs44, hs46⟩ := Change.opIs hr39
 obtain ⟨A47, cap48, rfl⟩ := hs42.form
 obtain ⟨A49, cap50, rfl⟩ := hs44.form
 obtain ⟨A51, cap52, rfl⟩ := hs46.form
 refine wlAlloc hC hB zero49 rfl ?_; intro b53 w hk hC hB
 refine wlAlloc hC hB zero49 rfl ?_; intro b54 w hk hC hB
 refine wlStore 1 (vs := [(.int .i64 (((plainI 1)).node)), (.int .i64 (((plainI 1)).view)), (.int .i64 (((plainI 1)).low)), (.slice A32 ((((plainI 1)).marks).length) cap33), (.slice A34 ((((plainI 1)).p).length) cap35), (.slice A36 ((((plainI 1)).q).length) cap37)]) (cs := [(.int .i64 0), (.int .i64 0), (.int .i64 0), (.slice none 0 0), (.slice none 0 0), (.slice none 0 0)]) (cs' := [(.int .i64 (((plainI 1)).node)), (.int .i64 (((plainI 1)).view)), (.int .i64 (((plainI 1)).low)), (.slice A32 ((((plainI 1)).marks).length) cap33), (.slice A34 ((((plainI 1)).p).length) cap35), (.slice A36 ((((plainI 1)).q).length) cap37)]) hC hB rfl rfl rfl sz49 rfl rfl rfl (by simp [Mark.cells, Stand.cells]) rfl rfl ?_; intro w hC hB
 refine wlStore 0 (vs := [(.int .i64 (((plainI 2)).node)), (.int .i64 (((plainI 2)).view)), (.int .i64 (((plainI 2)).low)), (.slice A47 ((((plainI 2)).marks).length) cap48), (.slice A49 ((((plainI 2)).p).length) cap50), (.slice A51 ((((plainI 2)).q).length) cap52)]) (cs := [(.int .i64 0), (.int .i64 0), (.int .i64 0), (.slice none 0 0), (.slice none 0 0), (.slice none 0 0)]) (cs' := [(.int .i64 (((plainI 2)).node)), (.int .i64 (((plainI 2)).view)), (.int .i64 (((plainI 2)).low)), (.slice A47 ((((plainI 2)).marks).length) cap48), (.slice A49 ((((plainI 2)).p).length) cap50), (.slice A51 ((((plainI 2)).q).length) cap52)]) hC hB rfl rfl rfl sz49 rfl rfl rfl (by simp [Mark.cells, Stand.cells]) rfl rfl ?_; intro w hC hB
 refine wlThen (wcSeq ?_)
 refine wcDraw fmix (by kernel_rfl) (by kernel_rfl) (vAt [(fun _ v_ => v_ = (.agg baseI.cells.toArray)), (fun _ v_ => v_ = (.agg ((.int .i64 4) :: (((digI ((4 : UInt8)))).cells ++ [])).toArray)), (fun G v => ∃ bb_, v = .slice (some ⟨bb_, 0, none⟩) 2 2 ∧ Sl G v ([baseI, (Mark.mk 4 ((digI ((4 : UInt8)))))] : List Mark)), (fun _ v_ => v_ = (.pointer (some ⟨b53, 3, none⟩))), (fun _ _ => True)]) (fun done ac_ G' w => Cx w0 G0 G' w ∧ GLe G G' ∧ ∃ (B2 : Nat), (done 2 = true → ac_.tmps[23]? = some (.slice (some ⟨B2, 0, none⟩) 2 2) ∧ Sl G' (.slice (some ⟨B2, 0, none⟩) 2 2) ([baseI, (Mark.mk 4 ((digI ((4 : UInt8)))))] : List Mark)) ∧ Bxs G' w w0.heap.size ([(b54, 49, [(.int .i64 (((plainI 2)).node)), (.int .i64 (((plainI 2)).view)), (.int .i64 (((plainI 2)).low)), (.slice A47 ((((plainI 2)).marks).length) cap48), (.slice A49 ((((plainI 2)).p).length) cap50), (.slice A51 ((((plainI 2)).q).length) cap52)]), (b53, 49, (bif done 4 then [(.int .i64 (((plainI 1)).node)), (.int .i64 (((plainI 1)).view)), (.int .i64 (((plainI 1)).low)), (.slice (some ⟨B2, 0, none⟩) 2 2), (.slice A34 ((((plainI 1)).p).length) cap35), (.slice A36 ((((plainI 1)).q).length) cap37)] else [(.int .i64 (((plainI 1)).node)), (.int .i64 (((plainI 1)).view)), (.int .i64 (((plainI 1)).low)), (.slice A32 ((((plainI 1)).marks).length) cap33), (.slice A34 ((((plainI 1)).p).length) cap35), (.slice A36 ((((plainI 1)).q).length) cap37)])), (b22, 30, ((.int .i64 4) :: (((digI ((4 : UInt8)))).cells ++ []))), (b19, 49, [(.int .i64 (((plainI 1)).node)), (.int .i64 (((plainI 1)).view)), (.int .i64 (((plainI 1)).low)), (.slice A13 ((((plainI 1)).marks).length) cap14), (.slice (some ⟨b20, 0, none⟩) 1 1), (.slice A17 ((((plainI 1)).q).length) cap18)]), (b3, 30, ((.int .i64 1) :: (((digI ((1 : UInt8)))).cells ++ []))), (b2, 28, ((digI ((2 : UInt8)))).cells), (b1, 28, ((digI ((1 : UInt8)))).cells)])) G (vAt_mono ⟨fun _ _ _ _ h => h, fun _ _ _ _ h => h, fun _ _ _ hg => fun ⟨b, h1, h2⟩ => ⟨b, h1, h2.mono hg⟩, fun _ _ _ _ h => h, fun _ _ _ _ h => h, trivial⟩) (fun _ _ => ⟨hC.drew, fun _ _ h => h, 0, (fun h => by cases h), by simpa using hB.drew⟩) ?_ ?_
 ·
  refine dsNone (j := 1) rfl ?_ ?_
  ·
   intro done G w ac_ hd hp hn ⟨hC, hg, B2, hT2, hBx⟩ hM
   have hB := hBx
   have hF := hM.fr
   exact drawCallS hF rfl co20 rfl (base_ret _ _ hC.holds ) (fun w' hk => ⟨G, fun _ _ h => h, ⟨hC.trans hk, hg, B2, (fun h => ⟨(put_other rfl).trans (hT2 h).1, (hT2 h).2⟩), hBx.ext hk⟩, rfl⟩)
  refine dsNone (j := 2) rfl ?_ ?_
  ·
   intro done G w ac_ hd hp hn ⟨hC, hg, B2, hT2, hBx⟩ hM
   have hB := hBx
   try simp only [hn 4 _ rfl rfl, cond_false] at hB
   have f5 : ac_.tmps[5]? = some (.pointer (some ⟨b22, 0, none⟩)) := hM.old0 rfl rfl
   have hF := (hM.fr.add f5)
   exact OpVal.draw hF (opLoadRow (cs := ((.int .i64 4) :: (((digI ((4 : UInt8)))).cells ++ []))) rfl (hB.range (i := 2) (m := 33) rfl (by simp [Mark.cells, Stand.cells])) row30 (by simp [Mark.cells, Stand.cells])) ⟨G, fun _ _ h => h, ⟨hC, hg, B2, (fun h => ⟨(put_other rfl).trans (hT2 h).1, (hT2 h).2⟩), hBx⟩, rfl⟩
  refine dsNone (j := 3) rfl ?_ ?_
  ·
   intro done G w ac_ hd hp hn ⟨hC, hg, B2, hT2, hBx⟩ hM
   have hB := hBx
   have f21 := hM.eqv (s := 21) 0 rfl (hp 0 rfl) rfl rfl
   have f22 := hM.eqv (s := 22) 1 rfl (hp 1 rfl) rfl rfl
   have hF := ((hM.fr.add f21).add f22)
   try simp only [hn 4 _ rfl rfl, cond_false] at hBx
   exact drawBsl hF (α := Mark) (ps := [(0, .tmp 21), (1, .tmp 22)]) (xs := [baseI, (Mark.mk 4 ((digI ((4 : UInt8)))))]) (rows := [baseI.cells, ((.int .i64 4) :: (((digI ((4 : UInt8)))).cells ++ []))]) elo31 rfl rfl hC.holds rfl rfl rfl ⟨rfl, rfl, trivial⟩ (fun b G' w' hk hr => ⟨G', hk.gle, ⟨hC.trans hk, fun b o h => hk.gle b o (hg b o h), b, (fun _ => ⟨put_same hM.sz rfl, hr⟩), by simpa [Done.set, hn 4 _ rfl rfl] using hBx.ext hk⟩, ⟨b, rfl, hr⟩⟩)
  refine dsNone (j := 4) rfl ?_ ?_
  ·
   intro done G w ac_ hd hp hn ⟨hC, hg, B2, hT2, hBx⟩ hM
   have hB := hBx
   have f6 : ac_.tmps[6]? = some (.pointer (some ⟨b53, 0, none⟩)) := hM.old0 rfl rfl
   have hF := (hM.fr.add f6)
   exact OpVal.draw hF (opFieldAddr rfl fo49_3) ⟨G, fun _ _ h => h, ⟨hC, hg, B2, (fun h => ⟨(put_other rfl).trans (hT2 h).1, (hT2 h).2⟩), hBx⟩, rfl⟩
  refine dsNone (j := 5) rfl ?_ ?_
  ·
   intro done G w ac_ hd hp hn ⟨hC, hg, B2, hT2, hBx⟩ hM
   have hB := hBx
   have f23 := (hT2 (hp 2 rfl)).1; have hs56 := (hT2 (hp 2 rfl)).2
   have f24 := hM.eqv (s := 24) 3 rfl (hp 3 rfl) rfl rfl
   have hF := ((hM.fr.add f23).add f24)
   have hB := hBx
   try simp only [hd, cond_false] at hB
   exact drawStore hF 1 (vs := [(.slice (some ⟨B2, 0, none⟩) 2 2)]) (cs := [(.int .i64 (((plainI 1)).node)), (.int .i64 (((plainI 1)).view)), (.int .i64 (((plainI 1)).low)), (.slice A32 ((((plainI 1)).marks).length) cap33), (.slice A34 ((((plainI 1)).p).length) cap35), (.slice A36 ((((plainI 1)).q).length) cap37)]) (cs' := [(.int .i64 (((plainI 1)).node)), (.int .i64 (((plainI 1)).view)), (.int .i64 (((plainI 1)).low)), (.slice (some ⟨B2, 0, none⟩) 2 2), (.slice A34 ((((plainI 1)).p).length) cap35), (.slice A36 ((((plainI 1)).q).length) cap37)]) hC hB rfl rfl rfl sz31 rfl rfl rfl (by simp [Mark.cells, Stand.cells]) rfl (fun w' hC hB => ⟨G, fun _ _ h => h, ⟨hC, hg, B2, (fun h => ⟨(hT2 h).1, (hT2 h).2⟩), by simpa [Done.set] using hB⟩, trivial⟩)
  exact dsNil
 ·
  intro done G w ac_ hall ⟨hC, hg, b57, hT2, hB⟩ hM
  replace hs8 := hs8.mono hg
  replace hs12 := hs12.mono hg
  replace hs21 := hs21.mono hg
  replace hs29 := hs29.mono hg
  replace hs31 := hs31.mono hg
  replace hs44 := hs44.mono hg
  replace hs46 := hs46.mono hg
  try simp only [hall 4 (by decide), cond_true] at hB
  have f1 : ac_.tmps[1]? = some (.pointer (some ⟨b1, 0, none⟩)) := hM.old0 rfl rfl
  have f3 : ac_.tmps[3]? = some (.pointer (some ⟨b3, 0, none⟩)) := hM.old0 rfl rfl
  have f4 : ac_.tmps[4]? = some (.pointer (some ⟨b19, 0, none⟩)) := hM.old0 rfl rfl
  have f5 : ac_.tmps[5]? = some (.pointer (some ⟨b22, 0, none⟩)) := hM.old0 rfl rfl
  have f6 : ac_.tmps[6]? = some (.pointer (some ⟨b53, 0, none⟩)) := hM.old0 rfl rfl
  have f7 : ac_.tmps[7]? = some (.pointer (some ⟨b54, 0, none⟩)) := hM.old0 rfl rfl
  have hs56 := (hT2 (hall 2 (by decide))).2
  replace hB : Bxs G w w0.heap.size [(b54, 49, [(.int .i64 (((plainI 2)).node)), (.int .i64 (((plainI 2)).view)), (.int .i64 (((plainI 2)).low)), (.slice A47 ((((plainI 2)).marks).length) cap48), (.slice A49 ((((plainI 2)).p).length) cap50), (.slice A51 ((((plainI 2)).q).length) cap52)]), (b53, 49, [(.int .i64 (((plainI 1)).node)), (.int .i64 (((plainI 1)).view)), (.int .i64 (((plainI 1)).low)), (.slice (some ⟨b57, 0, none⟩) 2 2), (.slice A34 ((((plainI 1)).p).length) cap35), (.slice A36 ((((plainI 1)).q).length) cap37)]), (b22, 30, ((.int .i64 4) :: (((digI ((4 : UInt8)))).cells ++ []))), (b19, 49, [(.int .i64 (((plainI 1)).node)), (.int .i64 (((plainI 1)).view)), (.int .i64 (((plainI 1)).low)), (.slice A13 ((((plainI 1)).marks).length) cap14), (.slice (some ⟨b20, 0, none⟩) 1 1), (.slice A17 ((((plainI 1)).q).length) cap18)]), (b3, 30, ((.int .i64 1) :: (((digI ((1 : UInt8)))).cells ++ []))), (b2, 28, ((digI ((2 : UInt8)))).cells), (b1, 28, ((digI ((1 : UInt8)))).cells)] := hB
  refine ⟨((((((Env.nil.put 1 (.pointer (some ⟨b1, 0, none⟩))).put 3 (.pointer (some ⟨b3, 0, none⟩))).put 4 (.pointer (some ⟨b19, 0, none⟩))).put 5 (.pointer (some ⟨b22, 0, none⟩))).put 6 (.pointer (some ⟨b53, 0, none⟩))).put 7 (.pointer (some ⟨b54, 0, none⟩))), ((((((hM.fr.add f1).add f3).add f4).add f5).add f6).add f7), ?_⟩
  clear hM hall
  refine wcOf ?_
  refine wcSeq (wcRegion ?_)
  refine wlVal (opFieldAddr rfl fo49_3) rfl ?_
  refine wlVal (opLoadOne (v := (.slice (some ⟨b57, 0, none⟩) 2 2)) rfl (hB.cell (i := 1) rfl rfl) one31) rfl ?_
  refine wlVal (opFieldAddr rfl fo49_3) rfl ?_
  refine wlStore 0 (vs := [(.slice (some ⟨b57, 0, none⟩) 2 2)]) (cs := [(.int .i64 (((plainI 2)).node)), (.int .i64 (((plainI 2)).view)), (.int .i64 (((plainI 2)).low)), (.slice A47 ((((plainI 2)).marks).length) cap48), (.slice A49 ((((plainI 2)).p).length) cap50), (.slice A51 ((((plainI 2)).q).length) cap52)]) (cs' := [(.int .i64 (((plainI 2)).node)), (.int .i64 (((plainI 2)).view)), (.int .i64 (((plainI 2)).low)), (.slice (some ⟨b57, 0, none⟩) 2 2), (.slice A49 ((((plainI 2)).p).length) cap50), (.slice A51 ((((plainI 2)).q).length) cap52)]) hC hB rfl rfl rfl sz31 rfl rfl rfl (by simp [Mark.cells, Stand.cells]) rfl rfl ?_; intro w hC hB
  refine wlThen (wcSeq ?_)
  refine wcDraw fmix (by kernel_rfl) (by kernel_rfl) (vAt [((fun G v => ∃ c0, v = (.agg c0.toArray) ∧ Rp.Is G c0 ((plainI 1)))), ((fun G v => ∃ c0, v = (.agg c0.toArray) ∧ Rp.Is G c0 ((plainI 2)))), ((fun G v => ∃ c0, v = (.agg c0.toArray) ∧ Rp.Is G c0 ((plainI 3)))), (fun G v => ∃ bb_, v = .slice (some ⟨bb_, 0, none⟩) 3 3 ∧ Sl G v ([((plainI 1)), ((plainI 2)), ((plainI 3))] : List Change)), (fun _ v_ => v_ = (.agg baseI.cells.toArray)), (fun _ v_ => v_ = (.bool true)), (fun _ v_ => v_ = (.bool true)), (fun _ v_ => v_ = (.agg ((digI ((1 : UInt8)))).cells.toArray)), ((fun G v => ∃ c0, v = (.agg c0.toArray) ∧ Rp.Is G c0 ((hasI 1 1 ((digI ((1 : UInt8)))) 0 true)))), (fun _ v_ => v_ = (.agg ((digI ((1 : UInt8)))).cells.toArray)), ((fun G v => ∃ c0, v = (.agg c0.toArray) ∧ Rp.Is G c0 ((hasI 2 1 ((digI ((1 : UInt8)))) 0 true)))), ((fun G v => ∃ c0, v = (.agg c0.toArray) ∧ Rp.Is G c0 ((plainI 3)))), (fun G v => ∃ bb_, v = .slice (some ⟨bb_, 0, none⟩) 3 3 ∧ Sl G v ([((hasI 1 1 ((digI ((1 : UInt8)))) 0 true)), ((hasI 2 1 ((digI ((1 : UInt8)))) 0 true)), ((plainI 3))] : List Change)), (fun _ v_ => v_ = (.agg baseI.cells.toArray)), (fun _ v_ => v_ = (.agg ((.int .i64 1) :: (((digI ((1 : UInt8)))).cells ++ [])).toArray)), (fun G v => ∃ bb_, v = .slice (some ⟨bb_, 0, none⟩) 1 1 ∧ Sl G v ([(Mark.mk 1 ((digI ((1 : UInt8)))))] : List Mark)), (fun _ v_ => v_ = (.bool true)), (fun _ v_ => v_ = (.bool true)), (fun _ v_ => v_ = (.bool true)), (fun _ v_ => v_ = (.agg ((digI ((1 : UInt8)))).cells.toArray)), ((fun G v => ∃ c0, v = (.agg c0.toArray) ∧ Rp.Is G c0 ((hasI 1 1 ((digI ((1 : UInt8)))) 0 true)))), (fun _ v_ => v_ = (.agg ((digI ((1 : UInt8)))).cells.toArray)), ((fun G v => ∃ c0, v = (.agg c0.toArray) ∧ Rp.Is G c0 ((hasI 2 1 ((digI ((1 : UInt8)))) 0 false)))), (fun _ v_ => v_ = (.agg ((digI ((1 : UInt8)))).cells.toArray)), ((fun G v => ∃ c0, v = (.agg c0.toArray) ∧ Rp.Is G c0 ((hasI 3 1 ((digI ((1 : UInt8)))) 0 false)))), (fun G v => ∃ bb_, v = .slice (some ⟨bb_, 0, none⟩) 3 3 ∧ Sl G v ([((hasI 1 1 ((digI ((1 : UInt8)))) 0 true)), ((hasI 2 1 ((digI ((1 : UInt8)))) 0 false)), ((hasI 3 1 ((digI ((1 : UInt8)))) 0 false))] : List Change)), (fun _ v_ => v_ = (.agg baseI.cells.toArray)), (fun _ v_ => v_ = (.agg ((.int .i64 1) :: (((digI ((1 : UInt8)))).cells ++ [])).toArray)), (fun G v => ∃ bb_, v = .slice (some ⟨bb_, 0, none⟩) 1 1 ∧ Sl G v ([(Mark.mk 1 ((digI ((1 : UInt8)))))] : List Mark)), (fun _ v_ => v_ = (.bool true)), (fun _ v_ => v_ = (.bool true)), (fun _ v_ => v_ = (.bool true)), (fun _ v_ => v_ = (.agg [(.int .i64 (((plainI 1)).node)), (.int .i64 (((plainI 1)).view)), (.int .i64 (((plainI 1)).low)), (.slice A13 ((((plainI 1)).marks).length) cap14), (.slice (some ⟨b20, 0, none⟩) 1 1), (.slice A17 ((((plainI 1)).q).length) cap18)].toArray)), ((fun G v => ∃ c0, v = (.agg c0.toArray) ∧ Rp.Is G c0 ((plainI 2)))), ((fun G v => ∃ c0, v = (.agg c0.toArray) ∧ Rp.Is G c0 ((plainI 3)))), (fun G v => ∃ bb_, v = .slice (some ⟨bb_, 0, none⟩) 3 3 ∧ Sl G v ([(Change.mk (((plainI 1)).node) (((plainI 1)).view) (((plainI 1)).low) (((plainI 1)).marks) ([(Stand.mk 1 ((digI ((2 : UInt8)))) 5)]) (((plainI 1)).q)), ((plainI 2)), ((plainI 3))] : List Change)), (fun _ v_ => v_ = (.bool true)), (fun _ v_ => v_ = (.bool true)), (fun _ v_ => v_ = (.bool true)), (fun _ v_ => v_ = (.agg [(.int .i64 (((plainI 1)).node)), (.int .i64 (((plainI 1)).view)), (.int .i64 (((plainI 1)).low)), (.slice A13 ((((plainI 1)).marks).length) cap14), (.slice (some ⟨b20, 0, none⟩) 1 1), (.slice A17 ((((plainI 1)).q).length) cap18)].toArray)), ((fun G v => ∃ c0, v = (.agg c0.toArray) ∧ Rp.Is G c0 ((plainI 2)))), ((fun G v => ∃ c0, v = (.agg c0.toArray) ∧ Rp.Is G c0 ((plainI 3)))), ((fun G v => ∃ c0, v = (.agg c0.toArray) ∧ Rp.Is G c0 ((plainI 4)))), (fun G v => ∃ bb_, v = .slice (some ⟨bb_, 0, none⟩) 4 4 ∧ Sl G v ([(Change.mk (((plainI 1)).node) (((plainI 1)).view) (((plainI 1)).low) (((plainI 1)).marks) ([(Stand.mk 1 ((digI ((2 : UInt8)))) 5)]) (((plainI 1)).q)), ((plainI 2)), ((plainI 3)), ((plainI 4))] : List Change)), (fun _ v_ => v_ = (.agg baseI.cells.toArray)), (fun _ v_ => v_ = (.bool true)), (fun _ v_ => v_ = (.bool true)), (fun _ v_ => v_ = (.bool true)), (fun _ v_ => v_ = (.agg [(.int .i64 (((plainI 1)).node)), (.int .i64 (((plainI 1)).view)), (.int .i64 (((plainI 1)).low)), (.slice (some ⟨b57, 0, none⟩) 2 2), (.slice A34 ((((plainI 1)).p).length) cap35), (.slice A36 ((((plainI 1)).q).length) cap37)].toArray)), (fun _ v_ => v_ = (.agg [(.int .i64 (((plainI 2)).node)), (.int .i64 (((plainI 2)).view)), (.int .i64 (((plainI 2)).low)), (.slice (some ⟨b57, 0, none⟩) 2 2), (.slice A49 ((((plainI 2)).p).length) cap50), (.slice A51 ((((plainI 2)).q).length) cap52)].toArray)), ((fun G v => ∃ c0, v = (.agg c0.toArray) ∧ Rp.Is G c0 ((plainI 3)))), (fun G v => ∃ bb_, v = .slice (some ⟨bb_, 0, none⟩) 3 3 ∧ Sl G v ([(Change.mk (((plainI 1)).node) (((plainI 1)).view) (((plainI 1)).low) ([baseI, (Mark.mk 4 ((digI ((4 : UInt8)))))]) (((plainI 1)).p) (((plainI 1)).q)), (Change.mk (((plainI 2)).node) (((plainI 2)).view) (((plainI 2)).low) ([baseI, (Mark.mk 4 ((digI ((4 : UInt8)))))]) (((plainI 2)).p) (((plainI 2)).q)), ((plainI 3))] : List Change)), (fun _ v_ => v_ = (.agg ((.int .i64 4) :: (((digI ((4 : UInt8)))).cells ++ [])).toArray)), (fun _ v_ => v_ = (.bool ((picksI ([(Change.mk (((plainI 1)).node) (((plainI 1)).view) (((plainI 1)).low) ([baseI, (Mark.mk 4 ((digI ((4 : UInt8)))))]) (((plainI 1)).p) (((plainI 1)).q)), (Change.mk (((plainI 2)).node) (((plainI 2)).view) (((plainI 2)).low) ([baseI, (Mark.mk 4 ((digI ((4 : UInt8)))))]) (((plainI 2)).p) (((plainI 2)).q)), ((plainI 3))]) ((Mark.mk 4 ((digI ((4 : UInt8)))))) ([]))))), (fun _ v_ => v_ = (.bool ((picksI ([(Change.mk (((plainI 1)).node) (((plainI 1)).view) (((plainI 1)).low) ([baseI, (Mark.mk 4 ((digI ((4 : UInt8)))))]) (((plainI 1)).p) (((plainI 1)).q)), (Change.mk (((plainI 2)).node) (((plainI 2)).view) (((plainI 2)).low) ([baseI, (Mark.mk 4 ((digI ((4 : UInt8)))))]) (((plainI 2)).p) (((plainI 2)).q)), ((plainI 3))]) ((Mark.mk 4 ((digI ((4 : UInt8)))))) ([]))))), (fun _ v_ => v_ = (.bool ((picksI ([(Change.mk (((plainI 1)).node) (((plainI 1)).view) (((plainI 1)).low) ([baseI, (Mark.mk 4 ((digI ((4 : UInt8)))))]) (((plainI 1)).p) (((plainI 1)).q)), (Change.mk (((plainI 2)).node) (((plainI 2)).view) (((plainI 2)).low) ([baseI, (Mark.mk 4 ((digI ((4 : UInt8)))))]) (((plainI 2)).p) (((plainI 2)).q)), ((plainI 3))]) ((Mark.mk 4 ((digI ((4 : UInt8)))))) ([])))))]) (fun _ _ G' w => Cx w0 G0 G' w ∧ Bxs G' w w0.heap.size [(b54, 49, [(.int .i64 (((plainI 2)).node)), (.int .i64 (((plainI 2)).view)), (.int .i64 (((plainI 2)).low)), (.slice (some ⟨b57, 0, none⟩) 2 2), (.slice A49 ((((plainI 2)).p).length) cap50), (.slice A51 ((((plainI 2)).q).length) cap52)]), (b53, 49, [(.int .i64 (((plainI 1)).node)), (.int .i64 (((plainI 1)).view)), (.int .i64 (((plainI 1)).low)), (.slice (some ⟨b57, 0, none⟩) 2 2), (.slice A34 ((((plainI 1)).p).length) cap35), (.slice A36 ((((plainI 1)).q).length) cap37)]), (b22, 30, ((.int .i64 4) :: (((digI ((4 : UInt8)))).cells ++ []))), (b19, 49, [(.int .i64 (((plainI 1)).node)), (.int .i64 (((plainI 1)).view)), (.int .i64 (((plainI 1)).low)), (.slice A13 ((((plainI 1)).marks).length) cap14), (.slice (some ⟨b20, 0, none⟩) 1 1), (.slice A17 ((((plainI 1)).q).length) cap18)]), (b3, 30, ((.int .i64 1) :: (((digI ((1 : UInt8)))).cells ++ []))), (b2, 28, ((digI ((2 : UInt8)))).cells), (b1, 28, ((digI ((1 : UInt8)))).cells)] ∧ GLe G G') G (vAt_mono ⟨fun _ _ _ hg => fun ⟨r747, e, hr748⟩ => ⟨r747, e, Rp.mono hg hr748⟩, fun _ _ _ hg => fun ⟨r762, e, hr763⟩ => ⟨r762, e, Rp.mono hg hr763⟩, fun _ _ _ hg => fun ⟨r777, e, hr778⟩ => ⟨r777, e, Rp.mono hg hr778⟩, fun _ _ _ hg => fun ⟨b, h1, h2⟩ => ⟨b, h1, h2.mono hg⟩, fun _ _ _ _ h => h, fun _ _ _ _ h => h, fun _ _ _ _ h => h, fun _ _ _ _ h => h, fun _ _ _ hg => fun ⟨r794, e, hr795⟩ => ⟨r794, e, Rp.mono hg hr795⟩, fun _ _ _ _ h => h, fun _ _ _ hg => fun ⟨r809, e, hr810⟩ => ⟨r809, e, Rp.mono hg hr810⟩, fun _ _ _ hg => fun ⟨r824, e, hr825⟩ => ⟨r824, e, Rp.mono hg hr825⟩, fun _ _ _ hg => fun ⟨b, h1, h2⟩ => ⟨b, h1, h2.mono hg⟩, fun _ _ _ _ h => h, fun _ _ _ _ h => h, fun _ _ _ hg => fun ⟨b, h1, h2⟩ => ⟨b, h1, h2.mono hg⟩, fun _ _ _ _ h => h, fun _ _ _ _ h => h, fun _ _ _ _ h => h, fun _ _ _ _ h => h, fun _ _ _ hg => fun ⟨r843, e, hr844⟩ => ⟨r843, e, Rp.mono hg hr844⟩, fun _ _ _ _ h => h, fun _ _ _ hg => fun ⟨r858, e, hr859⟩ => ⟨r858, e, Rp.mono hg hr859⟩, fun _ _ _ _ h => h, fun _ _ _ hg => fun ⟨r873, e, hr874⟩ => ⟨r873, e, Rp.mono hg hr874⟩, fun _ _ _ hg => fun ⟨b, h1, h2⟩ => ⟨b, h1, h2.mono hg⟩, fun _ _ _ _ h => h, fun _ _ _ _ h => h, fun _ _ _ hg => fun ⟨b, h1, h2⟩ => ⟨b, h1, h2.mono hg⟩, fun _ _ _ _ h => h, fun _ _ _ _ h => h, fun _ _ _ _ h => h, fun _ _ _ _ h => h, fun _ _ _ hg => fun ⟨r892, e, hr893⟩ => ⟨r892, e, Rp.mono hg hr893⟩, fun _ _ _ hg => fun ⟨r907, e, hr908⟩ => ⟨r907, e, Rp.mono hg hr908⟩, fun _ _ _ hg => fun ⟨b, h1, h2⟩ => ⟨b, h1, h2.mono hg⟩, fun _ _ _ _ h => h, fun _ _ _ _ h => h, fun _ _ _ _ h => h, fun _ _ _ _ h => h, fun _ _ _ hg => fun ⟨r924, e, hr925⟩ => ⟨r924, e, Rp.mono hg hr925⟩, fun _ _ _ hg => fun ⟨r939, e, hr940⟩ => ⟨r939, e, Rp.mono hg hr940⟩, fun _ _ _ hg => fun ⟨r954, e, hr955⟩ => ⟨r954, e, Rp.mono hg hr955⟩, fun _ _ _ hg => fun ⟨b, h1, h2⟩ => ⟨b, h1, h2.mono hg⟩, fun _ _ _ _ h => h, fun _ _ _ _ h => h, fun _ _ _ _ h => h, fun _ _ _ _ h => h, fun _ _ _ _ h => h, fun _ _ _ _ h => h, fun _ _ _ hg => fun ⟨r971, e, hr972⟩ => ⟨r971, e, Rp.mono hg hr972⟩, fun _ _ _ hg => fun ⟨b, h1, h2⟩ => ⟨b, h1, h2.mono hg⟩, fun _ _ _ _ h => h, fun _ _ _ _ h => h, fun _ _ _ _ h => h, fun _ _ _ _ h => h, trivial⟩) (fun _ _ => ⟨hC.drew, hB.drew, fun _ _ h => h⟩) ?_ ?_
  ·
   refine dsNone (j := 1) rfl ?_ ?_
   ·
    intro done G w ac_ hd hp hn ⟨hC, hB, hg⟩ hM
    have hF := hM.fr
    exact drawCallG hF rfl co18 rfl (plain_ret _ _ hC.holds 1) (fun v G' w' hk hr => ⟨G', hk.gle, ⟨hC.trans hk, hB.ext hk, fun b o h => hk.gle b o (hg b o h)⟩, hr⟩)
   refine dsNone (j := 2) rfl ?_ ?_
   ·
    intro done G w ac_ hd hp hn ⟨hC, hB, hg⟩ hM
    have hF := hM.fr
    exact drawCallG hF rfl co18 rfl (plain_ret _ _ hC.holds 2) (fun v G' w' hk hr => ⟨G', hk.gle, ⟨hC.trans hk, hB.ext hk, fun b o h => hk.gle b o (hg b o h)⟩, hr⟩)
   refine dsNone (j := 3) rfl ?_ ?_
   ·
    intro done G w ac_ hd hp hn ⟨hC, hB, hg⟩ hM
    have hF := hM.fr
    exact drawCallG hF rfl co18 rfl (plain_ret _ _ hC.holds 3) (fun v G' w' hk hr => ⟨G', hk.gle, ⟨hC.trans hk, hB.ext hk, fun b o h => hk.gle b o (hg b o h)⟩, hr⟩)
   refine dsNone (j := 4) rfl ?_ ?_
   ·
    intro done G w ac_ hd hp hn ⟨hC, hB, hg⟩ hM
    obtain ⟨v_, f28, ⟨r747, rfl, hr748⟩⟩ := hM.new 0 _ _ rfl (hp 0 rfl) rfl
    obtain ⟨v750, v752, v754, rfl, hs751, hs753, hs755⟩ := Change.opIs hr748
    obtain ⟨A756, cap757, rfl⟩ := hs751.form
    obtain ⟨A758, cap759, rfl⟩ := hs753.form
    obtain ⟨A760, cap761, rfl⟩ := hs755.form
    obtain ⟨v_, f29, ⟨r762, rfl, hr763⟩⟩ := hM.new 1 _ _ rfl (hp 1 rfl) rfl
    obtain ⟨v765, v767, v769, rfl, hs766, hs768, hs770⟩ := Change.opIs hr763
    obtain ⟨A771, cap772, rfl⟩ := hs766.form
    obtain ⟨A773, cap774, rfl⟩ := hs768.form
    obtain ⟨A775, cap776, rfl⟩ := hs770.form
    obtain ⟨v_, f30, ⟨r777, rfl, hr778⟩⟩ := hM.new 2 _ _ rfl (hp 2 rfl) rfl
    obtain ⟨v780, v782, v784, rfl, hs781, hs783, hs785⟩ := Change.opIs hr778
    obtain ⟨A786, cap787, rfl⟩ := hs781.form
    obtain ⟨A788, cap789, rfl⟩ := hs783.form
    obtain ⟨A790, cap791, rfl⟩ := hs785.form
    have hF := (((hM.fr.add f28).add f29).add f30)
    exact drawBsl hF (α := Change) (ps := [(0, .tmp 28), (1, .tmp 29), (2, .tmp 30)]) (xs := [((plainI 1)), ((plainI 2)), ((plainI 3))]) (rows := [[(.int .i64 (((plainI 1)).node)), (.int .i64 (((plainI 1)).view)), (.int .i64 (((plainI 1)).low)), (.slice A756 ((((plainI 1)).marks).length) cap757), (.slice A758 ((((plainI 1)).p).length) cap759), (.slice A760 ((((plainI 1)).q).length) cap761)], [(.int .i64 (((plainI 2)).node)), (.int .i64 (((plainI 2)).view)), (.int .i64 (((plainI 2)).low)), (.slice A771 ((((plainI 2)).marks).length) cap772), (.slice A773 ((((plainI 2)).p).length) cap774), (.slice A775 ((((plainI 2)).q).length) cap776)], [(.int .i64 (((plainI 3)).node)), (.int .i64 (((plainI 3)).view)), (.int .i64 (((plainI 3)).low)), (.slice A786 ((((plainI 3)).marks).length) cap787), (.slice A788 ((((plainI 3)).p).length) cap789), (.slice A790 ((((plainI 3)).q).length) cap791)]]) elo25 rfl rfl hC.holds rfl rfl rfl ⟨(Change.mkIs (x := ((plainI 1))) hs751 hs753 hs755), (Change.mkIs (x := ((plainI 2))) hs766 hs768 hs770), (Change.mkIs (x := ((plainI 3))) hs781 hs783 hs785), trivial⟩ (fun b G' w' hk hr => ⟨G', hk.gle, ⟨hC.trans hk, hB.ext hk, fun b o h => hk.gle b o (hg b o h)⟩, ⟨b, rfl, hr⟩⟩)
   refine dsNone (j := 5) rfl ?_ ?_
   ·
    intro done G w ac_ hd hp hn ⟨hC, hB, hg⟩ hM
    have hF := hM.fr
    exact drawCallS hF rfl co20 rfl (base_ret _ _ hC.holds ) (fun w' hk => ⟨G, fun _ _ h => h, ⟨hC.trans hk, hB.ext hk, hg⟩, rfl⟩)
   refine dsNone (j := 6) rfl ?_ ?_
   ·
    intro done G w ac_ hd hp hn ⟨hC, hB, hg⟩ hM
    obtain ⟨v_, f31, ⟨b792, rfl, hs793⟩⟩ := hM.new 3 _ _ rfl (hp 3 rfl) rfl
    have f32 := hM.eqv (s := 32) 4 rfl (hp 4 rfl) rfl rfl
    have hF := ((hM.fr.add f31).add f32)
    exact drawCallS hF rfl co22 rfl (RetS.cast (picks_ret _ _ hC.holds _ ([((plainI 1)), ((plainI 2)), ((plainI 3))]) hs793 baseI _ ([]) (Sl.nil_ _) (by decide) (by decide)) (congrArg Value.bool cl14_134)) (fun w' hk => ⟨G, fun _ _ h => h, ⟨hC.trans hk, hB.ext hk, hg⟩, rfl⟩)
   refine dsNone (j := 7) rfl ?_ ?_
   ·
    intro done G w ac_ hd hp hn ⟨hC, hB, hg⟩ hM
    have f33 := hM.eqv (s := 33) 5 rfl (hp 5 rfl) rfl rfl
    have hF := (hM.fr.add f33)
    exact OpVal.draw hF (opMove rfl) ⟨G, fun _ _ h => h, ⟨hC, hB, hg⟩, rfl⟩
   refine dsOn (j := 8) rfl rfl ?_ ?_
   ·
    intro done G w ac_ hd hp hn ⟨hC, hB, hg⟩ hM
    have f1 : ac_.tmps[1]? = some (.pointer (some ⟨b1, 0, none⟩)) := hM.old0 rfl rfl
    have f34 := hM.eqv (s := 34) 6 rfl (hp 6 rfl) rfl rfl
    refine ⟨f34, ?_⟩
    have hF := (hM.fr.add f1)
    exact OpVal.draw hF (opLoadRow (cs := ((digI ((1 : UInt8)))).cells) rfl (hB.range (i := 6) (m := 32) rfl (by simp [Mark.cells, Stand.cells])) row28 (by simp [Mark.cells, Stand.cells])) ⟨G, fun _ _ h => h, ⟨hC, hB, hg⟩, rfl⟩
   refine dsOn (j := 9) rfl rfl ?_ ?_
   ·
    intro done G w ac_ hd hp hn ⟨hC, hB, hg⟩ hM
    have f35 := hM.eqv (s := 35) 7 rfl (hp 7 rfl) rfl rfl
    have f34 := hM.eqv (s := 34) 6 rfl (hp 6 rfl) rfl rfl
    refine ⟨f34, ?_⟩
    have hF := (hM.fr.add f35)
    exact drawCallG hF rfl co21 rfl (hasL_ret _ _ hC.holds 1 1 ((digI ((1 : UInt8)))) 0 true) (fun v G' w' hk hr => ⟨G', hk.gle, ⟨hC.trans hk, hB.ext hk, fun b o h => hk.gle b o (hg b o h)⟩, hr⟩)
   refine dsOn (j := 10) rfl rfl ?_ ?_
   ·
    intro done G w ac_ hd hp hn ⟨hC, hB, hg⟩ hM
    have f1 : ac_.tmps[1]? = some (.pointer (some ⟨b1, 0, none⟩)) := hM.old0 rfl rfl
    have f34 := hM.eqv (s := 34) 6 rfl (hp 6 rfl) rfl rfl
    refine ⟨f34, ?_⟩
    have hF := (hM.fr.add f1)
    exact OpVal.draw hF (opLoadRow (cs := ((digI ((1 : UInt8)))).cells) rfl (hB.range (i := 6) (m := 32) rfl (by simp [Mark.cells, Stand.cells])) row28 (by simp [Mark.cells, Stand.cells])) ⟨G, fun _ _ h => h, ⟨hC, hB, hg⟩, rfl⟩
   refine dsOn (j := 11) rfl rfl ?_ ?_
   ·
    intro done G w ac_ hd hp hn ⟨hC, hB, hg⟩ hM
    have f37 := hM.eqv (s := 37) 9 rfl (hp 9 rfl) rfl rfl
    have f34 := hM.eqv (s := 34) 6 rfl (hp 6 rfl) rfl rfl
    refine ⟨f34, ?_⟩
    have hF := (hM.fr.add f37)
    exact drawCallG hF rfl co21 rfl (hasL_ret _ _ hC.holds 2 1 ((digI ((1 : UInt8)))) 0 true) (fun v G' w' hk hr => ⟨G', hk.gle, ⟨hC.trans hk, hB.ext hk, fun b o h => hk.gle b o (hg b o h)⟩, hr⟩)
   refine dsOn (j := 12) rfl rfl ?_ ?_
   ·
    intro done G w ac_ hd hp hn ⟨hC, hB, hg⟩ hM
    have f34 := hM.eqv (s := 34) 6 rfl (hp 6 rfl) rfl rfl
    refine ⟨f34, ?_⟩
    have hF := hM.fr
    exact drawCallG hF rfl co18 rfl (plain_ret _ _ hC.holds 3) (fun v G' w' hk hr => ⟨G', hk.gle, ⟨hC.trans hk, hB.ext hk, fun b o h => hk.gle b o (hg b o h)⟩, hr⟩)
   refine dsOn (j := 13) rfl rfl ?_ ?_
   ·
    intro done G w ac_ hd hp hn ⟨hC, hB, hg⟩ hM
    obtain ⟨v_, f36, ⟨r794, rfl, hr795⟩⟩ := hM.new 8 _ _ rfl (hp 8 rfl) rfl
    obtain ⟨v797, v799, v801, rfl, hs798, hs800, hs802⟩ := Change.opIs hr795
    obtain ⟨A803, cap804, rfl⟩ := hs798.form
    obtain ⟨A805, cap806, rfl⟩ := hs800.form
    obtain ⟨A807, cap808, rfl⟩ := hs802.form
    obtain ⟨v_, f38, ⟨r809, rfl, hr810⟩⟩ := hM.new 10 _ _ rfl (hp 10 rfl) rfl
    obtain ⟨v812, v814, v816, rfl, hs813, hs815, hs817⟩ := Change.opIs hr810
    obtain ⟨A818, cap819, rfl⟩ := hs813.form
    obtain ⟨A820, cap821, rfl⟩ := hs815.form
    obtain ⟨A822, cap823, rfl⟩ := hs817.form
    obtain ⟨v_, f39, ⟨r824, rfl, hr825⟩⟩ := hM.new 11 _ _ rfl (hp 11 rfl) rfl
    obtain ⟨v827, v829, v831, rfl, hs828, hs830, hs832⟩ := Change.opIs hr825
    obtain ⟨A833, cap834, rfl⟩ := hs828.form
    obtain ⟨A835, cap836, rfl⟩ := hs830.form
    obtain ⟨A837, cap838, rfl⟩ := hs832.form
    have f34 := hM.eqv (s := 34) 6 rfl (hp 6 rfl) rfl rfl
    refine ⟨f34, ?_⟩
    have hF := (((hM.fr.add f36).add f38).add f39)
    exact drawBsl hF (α := Change) (ps := [(0, .tmp 36), (1, .tmp 38), (2, .tmp 39)]) (xs := [((hasI 1 1 ((digI ((1 : UInt8)))) 0 true)), ((hasI 2 1 ((digI ((1 : UInt8)))) 0 true)), ((plainI 3))]) (rows := [[(.int .i64 (((hasI 1 1 ((digI ((1 : UInt8)))) 0 true)).node)), (.int .i64 (((hasI 1 1 ((digI ((1 : UInt8)))) 0 true)).view)), (.int .i64 (((hasI 1 1 ((digI ((1 : UInt8)))) 0 true)).low)), (.slice A803 ((((hasI 1 1 ((digI ((1 : UInt8)))) 0 true)).marks).length) cap804), (.slice A805 ((((hasI 1 1 ((digI ((1 : UInt8)))) 0 true)).p).length) cap806), (.slice A807 ((((hasI 1 1 ((digI ((1 : UInt8)))) 0 true)).q).length) cap808)], [(.int .i64 (((hasI 2 1 ((digI ((1 : UInt8)))) 0 true)).node)), (.int .i64 (((hasI 2 1 ((digI ((1 : UInt8)))) 0 true)).view)), (.int .i64 (((hasI 2 1 ((digI ((1 : UInt8)))) 0 true)).low)), (.slice A818 ((((hasI 2 1 ((digI ((1 : UInt8)))) 0 true)).marks).length) cap819), (.slice A820 ((((hasI 2 1 ((digI ((1 : UInt8)))) 0 true)).p).length) cap821), (.slice A822 ((((hasI 2 1 ((digI ((1 : UInt8)))) 0 true)).q).length) cap823)], [(.int .i64 (((plainI 3)).node)), (.int .i64 (((plainI 3)).view)), (.int .i64 (((plainI 3)).low)), (.slice A833 ((((plainI 3)).marks).length) cap834), (.slice A835 ((((plainI 3)).p).length) cap836), (.slice A837 ((((plainI 3)).q).length) cap838)]]) elo25 rfl rfl hC.holds rfl rfl rfl ⟨(Change.mkIs (x := ((hasI 1 1 ((digI ((1 : UInt8)))) 0 true))) hs798 hs800 hs802), (Change.mkIs (x := ((hasI 2 1 ((digI ((1 : UInt8)))) 0 true))) hs813 hs815 hs817), (Change.mkIs (x := ((plainI 3))) hs828 hs830 hs832), trivial⟩ (fun b G' w' hk hr => ⟨G', hk.gle, ⟨hC.trans hk, hB.ext hk, fun b o h => hk.gle b o (hg b o h)⟩, ⟨b, rfl, hr⟩⟩)
   refine dsOn (j := 14) rfl rfl ?_ ?_
   ·
    intro done G w ac_ hd hp hn ⟨hC, hB, hg⟩ hM
    have f34 := hM.eqv (s := 34) 6 rfl (hp 6 rfl) rfl rfl
    refine ⟨f34, ?_⟩
    have hF := hM.fr
    exact drawCallS hF rfl co20 rfl (base_ret _ _ hC.holds ) (fun w' hk => ⟨G, fun _ _ h => h, ⟨hC.trans hk, hB.ext hk, hg⟩, rfl⟩)
   refine dsOn (j := 15) rfl rfl ?_ ?_
   ·
    intro done G w ac_ hd hp hn ⟨hC, hB, hg⟩ hM
    have f3 : ac_.tmps[3]? = some (.pointer (some ⟨b3, 0, none⟩)) := hM.old0 rfl rfl
    have f34 := hM.eqv (s := 34) 6 rfl (hp 6 rfl) rfl rfl
    refine ⟨f34, ?_⟩
    have hF := (hM.fr.add f3)
    exact OpVal.draw hF (opLoadRow (cs := ((.int .i64 1) :: (((digI ((1 : UInt8)))).cells ++ []))) rfl (hB.range (i := 4) (m := 33) rfl (by simp [Mark.cells, Stand.cells])) row30 (by simp [Mark.cells, Stand.cells])) ⟨G, fun _ _ h => h, ⟨hC, hB, hg⟩, rfl⟩
   refine dsOn (j := 16) rfl rfl ?_ ?_
   ·
    intro done G w ac_ hd hp hn ⟨hC, hB, hg⟩ hM
    have f42 := hM.eqv (s := 42) 14 rfl (hp 14 rfl) rfl rfl
    have f34 := hM.eqv (s := 34) 6 rfl (hp 6 rfl) rfl rfl
    refine ⟨f34, ?_⟩
    have hF := (hM.fr.add f42)
    exact drawBsl hF (α := Mark) (ps := [(0, .tmp 42)]) (xs := [(Mark.mk 1 ((digI ((1 : UInt8)))))]) (rows := [((.int .i64 1) :: (((digI ((1 : UInt8)))).cells ++ []))]) elo31 rfl rfl hC.holds rfl rfl rfl ⟨rfl, trivial⟩ (fun b G' w' hk hr => ⟨G', hk.gle, ⟨hC.trans hk, hB.ext hk, fun b o h => hk.gle b o (hg b o h)⟩, ⟨b, rfl, hr⟩⟩)
   refine dsOn (j := 17) rfl rfl ?_ ?_
   ·
    intro done G w ac_ hd hp hn ⟨hC, hB, hg⟩ hM
    obtain ⟨v_, f40, ⟨b839, rfl, hs840⟩⟩ := hM.new 12 _ _ rfl (hp 12 rfl) rfl
    have f41 := hM.eqv (s := 41) 13 rfl (hp 13 rfl) rfl rfl
    obtain ⟨v_, f43, ⟨b841, rfl, hs842⟩⟩ := hM.new 15 _ _ rfl (hp 15 rfl) rfl
    have f34 := hM.eqv (s := 34) 6 rfl (hp 6 rfl) rfl rfl
    refine ⟨f34, ?_⟩
    have hF := (((hM.fr.add f40).add f41).add f43)
    exact drawCallS hF rfl co22 rfl (RetS.cast (picks_ret _ _ hC.holds _ ([((hasI 1 1 ((digI ((1 : UInt8)))) 0 true)), ((hasI 2 1 ((digI ((1 : UInt8)))) 0 true)), ((plainI 3))]) hs840 baseI _ ([(Mark.mk 1 ((digI ((1 : UInt8)))))]) hs842 (by decide) (by decide)) (congrArg Value.bool cl14_136)) (fun w' hk => ⟨G, fun _ _ h => h, ⟨hC.trans hk, hB.ext hk, hg⟩, rfl⟩)
   refine dsNone (j := 18) rfl ?_ ?_
   ·
    intro done G w ac_ hd hp hn ⟨hC, hB, hg⟩ hM
    have f34 := hM.eqv (s := 34) 6 rfl (hp 6 rfl) rfl rfl
    have f44 := hM.eqv (s := 44) 16 rfl (hp 16 rfl) rfl rfl
    have hF := ((hM.fr.add f34).add f44)
    exact OpVal.draw hF (opPickT rfl rfl) ⟨G, fun _ _ h => h, ⟨hC, hB, hg⟩, rfl⟩
   refine dsNone (j := 19) rfl ?_ ?_
   ·
    intro done G w ac_ hd hp hn ⟨hC, hB, hg⟩ hM
    have f45 := hM.eqv (s := 45) 17 rfl (hp 17 rfl) rfl rfl
    have hF := (hM.fr.add f45)
    exact OpVal.draw hF (opMove rfl) ⟨G, fun _ _ h => h, ⟨hC, hB, hg⟩, rfl⟩
   refine dsOn (j := 20) rfl rfl ?_ ?_
   ·
    intro done G w ac_ hd hp hn ⟨hC, hB, hg⟩ hM
    have f1 : ac_.tmps[1]? = some (.pointer (some ⟨b1, 0, none⟩)) := hM.old0 rfl rfl
    have f46 := hM.eqv (s := 46) 18 rfl (hp 18 rfl) rfl rfl
    refine ⟨f46, ?_⟩
    have hF := (hM.fr.add f1)
    exact OpVal.draw hF (opLoadRow (cs := ((digI ((1 : UInt8)))).cells) rfl (hB.range (i := 6) (m := 32) rfl (by simp [Mark.cells, Stand.cells])) row28 (by simp [Mark.cells, Stand.cells])) ⟨G, fun _ _ h => h, ⟨hC, hB, hg⟩, rfl⟩
   refine dsOn (j := 21) rfl rfl ?_ ?_
   ·
    intro done G w ac_ hd hp hn ⟨hC, hB, hg⟩ hM
    have f47 := hM.eqv (s := 47) 19 rfl (hp 19 rfl) rfl rfl
    have f46 := hM.eqv (s := 46) 18 rfl (hp 18 rfl) rfl rfl
    refine ⟨f46, ?_⟩
    have hF := (hM.fr.add f47)
    exact drawCallG hF rfl co21 rfl (hasL_ret _ _ hC.holds 1 1 ((digI ((1 : UInt8)))) 0 true) (fun v G' w' hk hr => ⟨G', hk.gle, ⟨hC.trans hk, hB.ext hk, fun b o h => hk.gle b o (hg b o h)⟩, hr⟩)
   refine dsOn (j := 22) rfl rfl ?_ ?_
   ·
    intro done G w ac_ hd hp hn ⟨hC, hB, hg⟩ hM
    have f1 : ac_.tmps[1]? = some (.pointer (some ⟨b1, 0, none⟩)) := hM.old0 rfl rfl
    have f46 := hM.eqv (s := 46) 18 rfl (hp 18 rfl) rfl rfl
    refine ⟨f46, ?_⟩
    have hF := (hM.fr.add f1)
    exact OpVal.draw hF (opLoadRow (cs := ((digI ((1 : UInt8)))).cells) rfl (hB.range (i := 6) (m := 32) rfl (by simp [Mark.cells, Stand.cells])) row28 (by simp [Mark.cells, Stand.cells])) ⟨G, fun _ _ h => h, ⟨hC, hB, hg⟩, rfl⟩
   refine dsOn (j := 23) rfl rfl ?_ ?_
   ·
    intro done G w ac_ hd hp hn ⟨hC, hB, hg⟩ hM
    have f49 := hM.eqv (s := 49) 21 rfl (hp 21 rfl) rfl rfl
    have f46 := hM.eqv (s := 46) 18 rfl (hp 18 rfl) rfl rfl
    refine ⟨f46, ?_⟩
    have hF := (hM.fr.add f49)
    exact drawCallG hF rfl co21 rfl (hasL_ret _ _ hC.holds 2 1 ((digI ((1 : UInt8)))) 0 false) (fun v G' w' hk hr => ⟨G', hk.gle, ⟨hC.trans hk, hB.ext hk, fun b o h => hk.gle b o (hg b o h)⟩, hr⟩)
   refine dsOn (j := 24) rfl rfl ?_ ?_
   ·
    intro done G w ac_ hd hp hn ⟨hC, hB, hg⟩ hM
    have f1 : ac_.tmps[1]? = some (.pointer (some ⟨b1, 0, none⟩)) := hM.old0 rfl rfl
    have f46 := hM.eqv (s := 46) 18 rfl (hp 18 rfl) rfl rfl
    refine ⟨f46, ?_⟩
    have hF := (hM.fr.add f1)
    exact OpVal.draw hF (opLoadRow (cs := ((digI ((1 : UInt8)))).cells) rfl (hB.range (i := 6) (m := 32) rfl (by simp [Mark.cells, Stand.cells])) row28 (by simp [Mark.cells, Stand.cells])) ⟨G, fun _ _ h => h, ⟨hC, hB, hg⟩, rfl⟩
   refine dsOn (j := 25) rfl rfl ?_ ?_
   ·
    intro done G w ac_ hd hp hn ⟨hC, hB, hg⟩ hM
    have f51 := hM.eqv (s := 51) 23 rfl (hp 23 rfl) rfl rfl
    have f46 := hM.eqv (s := 46) 18 rfl (hp 18 rfl) rfl rfl
    refine ⟨f46, ?_⟩
    have hF := (hM.fr.add f51)
    exact drawCallG hF rfl co21 rfl (hasL_ret _ _ hC.holds 3 1 ((digI ((1 : UInt8)))) 0 false) (fun v G' w' hk hr => ⟨G', hk.gle, ⟨hC.trans hk, hB.ext hk, fun b o h => hk.gle b o (hg b o h)⟩, hr⟩)
   refine dsOn (j := 26) rfl rfl ?_ ?_
   ·
    intro done G w ac_ hd hp hn ⟨hC, hB, hg⟩ hM
    obtain ⟨v_, f48, ⟨r843, rfl, hr844⟩⟩ := hM.new 20 _ _ rfl (hp 20 rfl) rfl
    obtain ⟨v846, v848, v850, rfl, hs847, hs849, hs851⟩ := Change.opIs hr844
    obtain ⟨A852, cap853, rfl⟩ := hs847.form
    obtain ⟨A854, cap855, rfl⟩ := hs849.form
    obtain ⟨A856, cap857, rfl⟩ := hs851.form
    obtain ⟨v_, f50, ⟨r858, rfl, hr859⟩⟩ := hM.new 22 _ _ rfl (hp 22 rfl) rfl
    obtain ⟨v861, v863, v865, rfl, hs862, hs864, hs866⟩ := Change.opIs hr859
    obtain ⟨A867, cap868, rfl⟩ := hs862.form
    obtain ⟨A869, cap870, rfl⟩ := hs864.form
    obtain ⟨A871, cap872, rfl⟩ := hs866.form
    obtain ⟨v_, f52, ⟨r873, rfl, hr874⟩⟩ := hM.new 24 _ _ rfl (hp 24 rfl) rfl
    obtain ⟨v876, v878, v880, rfl, hs877, hs879, hs881⟩ := Change.opIs hr874
    obtain ⟨A882, cap883, rfl⟩ := hs877.form
    obtain ⟨A884, cap885, rfl⟩ := hs879.form
    obtain ⟨A886, cap887, rfl⟩ := hs881.form
    have f46 := hM.eqv (s := 46) 18 rfl (hp 18 rfl) rfl rfl
    refine ⟨f46, ?_⟩
    have hF := (((hM.fr.add f48).add f50).add f52)
    exact drawBsl hF (α := Change) (ps := [(0, .tmp 48), (1, .tmp 50), (2, .tmp 52)]) (xs := [((hasI 1 1 ((digI ((1 : UInt8)))) 0 true)), ((hasI 2 1 ((digI ((1 : UInt8)))) 0 false)), ((hasI 3 1 ((digI ((1 : UInt8)))) 0 false))]) (rows := [[(.int .i64 (((hasI 1 1 ((digI ((1 : UInt8)))) 0 true)).node)), (.int .i64 (((hasI 1 1 ((digI ((1 : UInt8)))) 0 true)).view)), (.int .i64 (((hasI 1 1 ((digI ((1 : UInt8)))) 0 true)).low)), (.slice A852 ((((hasI 1 1 ((digI ((1 : UInt8)))) 0 true)).marks).length) cap853), (.slice A854 ((((hasI 1 1 ((digI ((1 : UInt8)))) 0 true)).p).length) cap855), (.slice A856 ((((hasI 1 1 ((digI ((1 : UInt8)))) 0 true)).q).length) cap857)], [(.int .i64 (((hasI 2 1 ((digI ((1 : UInt8)))) 0 false)).node)), (.int .i64 (((hasI 2 1 ((digI ((1 : UInt8)))) 0 false)).view)), (.int .i64 (((hasI 2 1 ((digI ((1 : UInt8)))) 0 false)).low)), (.slice A867 ((((hasI 2 1 ((digI ((1 : UInt8)))) 0 false)).marks).length) cap868), (.slice A869 ((((hasI 2 1 ((digI ((1 : UInt8)))) 0 false)).p).length) cap870), (.slice A871 ((((hasI 2 1 ((digI ((1 : UInt8)))) 0 false)).q).length) cap872)], [(.int .i64 (((hasI 3 1 ((digI ((1 : UInt8)))) 0 false)).node)), (.int .i64 (((hasI 3 1 ((digI ((1 : UInt8)))) 0 false)).view)), (.int .i64 (((hasI 3 1 ((digI ((1 : UInt8)))) 0 false)).low)), (.slice A882 ((((hasI 3 1 ((digI ((1 : UInt8)))) 0 false)).marks).length) cap883), (.slice A884 ((((hasI 3 1 ((digI ((1 : UInt8)))) 0 false)).p).length) cap885), (.slice A886 ((((hasI 3 1 ((digI ((1 : UInt8)))) 0 false)).q).length) cap887)]]) elo25 rfl rfl hC.holds rfl rfl rfl ⟨(Change.mkIs (x := ((hasI 1 1 ((digI ((1 : UInt8)))) 0 true))) hs847 hs849 hs851), (Change.mkIs (x := ((hasI 2 1 ((digI ((1 : UInt8)))) 0 false))) hs862 hs864 hs866), (Change.mkIs (x := ((hasI 3 1 ((digI ((1 : UInt8)))) 0 false))) hs877 hs879 hs881), trivial⟩ (fun b G' w' hk hr => ⟨G', hk.gle, ⟨hC.trans hk, hB.ext hk, fun b o h => hk.gle b o (hg b o h)⟩, ⟨b, rfl, hr⟩⟩)
   refine dsOn (j := 27) rfl rfl ?_ ?_
   ·
    intro done G w ac_ hd hp hn ⟨hC, hB, hg⟩ hM
    have f46 := hM.eqv (s := 46) 18 rfl (hp 18 rfl) rfl rfl
    refine ⟨f46, ?_⟩
    have hF := hM.fr
    exact drawCallS hF rfl co20 rfl (base_ret _ _ hC.holds ) (fun w' hk => ⟨G, fun _ _ h => h, ⟨hC.trans hk, hB.ext hk, hg⟩, rfl⟩)
   refine dsOn (j := 28) rfl rfl ?_ ?_
   ·
    intro done G w ac_ hd hp hn ⟨hC, hB, hg⟩ hM
    have f3 : ac_.tmps[3]? = some (.pointer (some ⟨b3, 0, none⟩)) := hM.old0 rfl rfl
    have f46 := hM.eqv (s := 46) 18 rfl (hp 18 rfl) rfl rfl
    refine ⟨f46, ?_⟩
    have hF := (hM.fr.add f3)
    exact OpVal.draw hF (opLoadRow (cs := ((.int .i64 1) :: (((digI ((1 : UInt8)))).cells ++ []))) rfl (hB.range (i := 4) (m := 33) rfl (by simp [Mark.cells, Stand.cells])) row30 (by simp [Mark.cells, Stand.cells])) ⟨G, fun _ _ h => h, ⟨hC, hB, hg⟩, rfl⟩
   refine dsOn (j := 29) rfl rfl ?_ ?_
   ·
    intro done G w ac_ hd hp hn ⟨hC, hB, hg⟩ hM
    have f55 := hM.eqv (s := 55) 27 rfl (hp 27 rfl) rfl rfl
    have f46 := hM.eqv (s := 46) 18 rfl (hp 18 rfl) rfl rfl
    refine ⟨f46, ?_⟩
    have hF := (hM.fr.add f55)
    exact drawBsl hF (α := Mark) (ps := [(0, .tmp 55)]) (xs := [(Mark.mk 1 ((digI ((1 : UInt8)))))]) (rows := [((.int .i64 1) :: (((digI ((1 : UInt8)))).cells ++ []))]) elo31 rfl rfl hC.holds rfl rfl rfl ⟨rfl, trivial⟩ (fun b G' w' hk hr => ⟨G', hk.gle, ⟨hC.trans hk, hB.ext hk, fun b o h => hk.gle b o (hg b o h)⟩, ⟨b, rfl, hr⟩⟩)
   refine dsOn (j := 30) rfl rfl ?_ ?_
   ·
    intro done G w ac_ hd hp hn ⟨hC, hB, hg⟩ hM
    obtain ⟨v_, f53, ⟨b888, rfl, hs889⟩⟩ := hM.new 25 _ _ rfl (hp 25 rfl) rfl
    have f54 := hM.eqv (s := 54) 26 rfl (hp 26 rfl) rfl rfl
    obtain ⟨v_, f56, ⟨b890, rfl, hs891⟩⟩ := hM.new 28 _ _ rfl (hp 28 rfl) rfl
    have f46 := hM.eqv (s := 46) 18 rfl (hp 18 rfl) rfl rfl
    refine ⟨f46, ?_⟩
    have hF := (((hM.fr.add f53).add f54).add f56)
    exact drawCallS hF rfl co22 rfl (RetS.cast (picks_ret _ _ hC.holds _ ([((hasI 1 1 ((digI ((1 : UInt8)))) 0 true)), ((hasI 2 1 ((digI ((1 : UInt8)))) 0 false)), ((hasI 3 1 ((digI ((1 : UInt8)))) 0 false))]) hs889 baseI _ ([(Mark.mk 1 ((digI ((1 : UInt8)))))]) hs891 (by decide) (by decide)) (congrArg Value.bool cl14_137)) (fun w' hk => ⟨G, fun _ _ h => h, ⟨hC.trans hk, hB.ext hk, hg⟩, rfl⟩)
   refine dsNone (j := 31) rfl ?_ ?_
   ·
    intro done G w ac_ hd hp hn ⟨hC, hB, hg⟩ hM
    have f46 := hM.eqv (s := 46) 18 rfl (hp 18 rfl) rfl rfl
    have f57 := hM.eqv (s := 57) 29 rfl (hp 29 rfl) rfl rfl
    have hF := ((hM.fr.add f46).add f57)
    exact OpVal.draw hF (opPickT rfl rfl) ⟨G, fun _ _ h => h, ⟨hC, hB, hg⟩, rfl⟩
   refine dsNone (j := 32) rfl ?_ ?_
   ·
    intro done G w ac_ hd hp hn ⟨hC, hB, hg⟩ hM
    have f58 := hM.eqv (s := 58) 30 rfl (hp 30 rfl) rfl rfl
    have hF := (hM.fr.add f58)
    exact OpVal.draw hF (opMove rfl) ⟨G, fun _ _ h => h, ⟨hC, hB, hg⟩, rfl⟩
   refine dsOn (j := 33) rfl rfl ?_ ?_
   ·
    intro done G w ac_ hd hp hn ⟨hC, hB, hg⟩ hM
    have f4 : ac_.tmps[4]? = some (.pointer (some ⟨b19, 0, none⟩)) := hM.old0 rfl rfl
    have f59 := hM.eqv (s := 59) 31 rfl (hp 31 rfl) rfl rfl
    refine ⟨f59, ?_⟩
    have hF := (hM.fr.add f4)
    exact OpVal.draw hF (opLoadRow (cs := [(.int .i64 (((plainI 1)).node)), (.int .i64 (((plainI 1)).view)), (.int .i64 (((plainI 1)).low)), (.slice A13 ((((plainI 1)).marks).length) cap14), (.slice (some ⟨b20, 0, none⟩) 1 1), (.slice A17 ((((plainI 1)).q).length) cap18)]) rfl (hB.range (i := 3) (m := 6) rfl rfl) row49 rfl) ⟨G, fun _ _ h => h, ⟨hC, hB, hg⟩, rfl⟩
   refine dsOn (j := 34) rfl rfl ?_ ?_
   ·
    intro done G w ac_ hd hp hn ⟨hC, hB, hg⟩ hM
    have f59 := hM.eqv (s := 59) 31 rfl (hp 31 rfl) rfl rfl
    refine ⟨f59, ?_⟩
    have hF := hM.fr
    exact drawCallG hF rfl co18 rfl (plain_ret _ _ hC.holds 2) (fun v G' w' hk hr => ⟨G', hk.gle, ⟨hC.trans hk, hB.ext hk, fun b o h => hk.gle b o (hg b o h)⟩, hr⟩)
   refine dsOn (j := 35) rfl rfl ?_ ?_
   ·
    intro done G w ac_ hd hp hn ⟨hC, hB, hg⟩ hM
    have f59 := hM.eqv (s := 59) 31 rfl (hp 31 rfl) rfl rfl
    refine ⟨f59, ?_⟩
    have hF := hM.fr
    exact drawCallG hF rfl co18 rfl (plain_ret _ _ hC.holds 3) (fun v G' w' hk hr => ⟨G', hk.gle, ⟨hC.trans hk, hB.ext hk, fun b o h => hk.gle b o (hg b o h)⟩, hr⟩)
   refine dsOn (j := 36) rfl rfl ?_ ?_
   ·
    intro done G w ac_ hd hp hn ⟨hC, hB, hg⟩ hM
    replace hs8 := hs8.mono hg
    replace hs12 := hs12.mono hg
    replace hs21 := hs21.mono hg
    have f60 := hM.eqv (s := 60) 32 rfl (hp 32 rfl) rfl rfl
    obtain ⟨v_, f61, ⟨r892, rfl, hr893⟩⟩ := hM.new 33 _ _ rfl (hp 33 rfl) rfl
    obtain ⟨v895, v897, v899, rfl, hs896, hs898, hs900⟩ := Change.opIs hr893
    obtain ⟨A901, cap902, rfl⟩ := hs896.form
    obtain ⟨A903, cap904, rfl⟩ := hs898.form
    obtain ⟨A905, cap906, rfl⟩ := hs900.form
    obtain ⟨v_, f62, ⟨r907, rfl, hr908⟩⟩ := hM.new 34 _ _ rfl (hp 34 rfl) rfl
    obtain ⟨v910, v912, v914, rfl, hs911, hs913, hs915⟩ := Change.opIs hr908
    obtain ⟨A916, cap917, rfl⟩ := hs911.form
    obtain ⟨A918, cap919, rfl⟩ := hs913.form
    obtain ⟨A920, cap921, rfl⟩ := hs915.form
    have f59 := hM.eqv (s := 59) 31 rfl (hp 31 rfl) rfl rfl
    refine ⟨f59, ?_⟩
    have hF := (((hM.fr.add f60).add f61).add f62)
    exact drawBsl hF (α := Change) (ps := [(0, .tmp 60), (1, .tmp 61), (2, .tmp 62)]) (xs := [(Change.mk (((plainI 1)).node) (((plainI 1)).view) (((plainI 1)).low) (((plainI 1)).marks) ([(Stand.mk 1 ((digI ((2 : UInt8)))) 5)]) (((plainI 1)).q)), ((plainI 2)), ((plainI 3))]) (rows := [[(.int .i64 (((plainI 1)).node)), (.int .i64 (((plainI 1)).view)), (.int .i64 (((plainI 1)).low)), (.slice A13 ((((plainI 1)).marks).length) cap14), (.slice (some ⟨b20, 0, none⟩) 1 1), (.slice A17 ((((plainI 1)).q).length) cap18)], [(.int .i64 (((plainI 2)).node)), (.int .i64 (((plainI 2)).view)), (.int .i64 (((plainI 2)).low)), (.slice A901 ((((plainI 2)).marks).length) cap902), (.slice A903 ((((plainI 2)).p).length) cap904), (.slice A905 ((((plainI 2)).q).length) cap906)], [(.int .i64 (((plainI 3)).node)), (.int .i64 (((plainI 3)).view)), (.int .i64 (((plainI 3)).low)), (.slice A916 ((((plainI 3)).marks).length) cap917), (.slice A918 ((((plainI 3)).p).length) cap919), (.slice A920 ((((plainI 3)).q).length) cap921)]]) elo25 rfl rfl hC.holds rfl rfl rfl ⟨(Change.mkIs (x := (Change.mk (((plainI 1)).node) (((plainI 1)).view) (((plainI 1)).low) (((plainI 1)).marks) ([(Stand.mk 1 ((digI ((2 : UInt8)))) 5)]) (((plainI 1)).q))) hs8 hs21 hs12), (Change.mkIs (x := ((plainI 2))) hs896 hs898 hs900), (Change.mkIs (x := ((plainI 3))) hs911 hs913 hs915), trivial⟩ (fun b G' w' hk hr => ⟨G', hk.gle, ⟨hC.trans hk, hB.ext hk, fun b o h => hk.gle b o (hg b o h)⟩, ⟨b, rfl, hr⟩⟩)
   refine dsOn (j := 37) rfl rfl ?_ ?_
   ·
    intro done G w ac_ hd hp hn ⟨hC, hB, hg⟩ hM
    obtain ⟨v_, f63, ⟨b922, rfl, hs923⟩⟩ := hM.new 35 _ _ rfl (hp 35 rfl) rfl
    have f59 := hM.eqv (s := 59) 31 rfl (hp 31 rfl) rfl rfl
    refine ⟨f59, ?_⟩
    have hF := (hM.fr.add f63)
    exact drawCallS hF rfl co34 rfl (RetS.cast (fails_ret _ _ hC.holds _ ([(Change.mk (((plainI 1)).node) (((plainI 1)).view) (((plainI 1)).low) (((plainI 1)).marks) ([(Stand.mk 1 ((digI ((2 : UInt8)))) 5)]) (((plainI 1)).q)), ((plainI 2)), ((plainI 3))]) hs923 (by decide) (by decide)) (congrArg Value.bool cl14_139)) (fun w' hk => ⟨G, fun _ _ h => h, ⟨hC.trans hk, hB.ext hk, hg⟩, rfl⟩)
   refine dsNone (j := 38) rfl ?_ ?_
   ·
    intro done G w ac_ hd hp hn ⟨hC, hB, hg⟩ hM
    have f59 := hM.eqv (s := 59) 31 rfl (hp 31 rfl) rfl rfl
    have f64 := hM.eqv (s := 64) 36 rfl (hp 36 rfl) rfl rfl
    have hF := ((hM.fr.add f59).add f64)
    exact OpVal.draw hF (opPickT rfl rfl) ⟨G, fun _ _ h => h, ⟨hC, hB, hg⟩, rfl⟩
   refine dsNone (j := 39) rfl ?_ ?_
   ·
    intro done G w ac_ hd hp hn ⟨hC, hB, hg⟩ hM
    have f65 := hM.eqv (s := 65) 37 rfl (hp 37 rfl) rfl rfl
    have hF := (hM.fr.add f65)
    exact OpVal.draw hF (opMove rfl) ⟨G, fun _ _ h => h, ⟨hC, hB, hg⟩, rfl⟩
   refine dsOn (j := 40) rfl rfl ?_ ?_
   ·
    intro done G w ac_ hd hp hn ⟨hC, hB, hg⟩ hM
    have f4 : ac_.tmps[4]? = some (.pointer (some ⟨b19, 0, none⟩)) := hM.old0 rfl rfl
    have f66 := hM.eqv (s := 66) 38 rfl (hp 38 rfl) rfl rfl
    refine ⟨f66, ?_⟩
    have hF := (hM.fr.add f4)
    exact OpVal.draw hF (opLoadRow (cs := [(.int .i64 (((plainI 1)).node)), (.int .i64 (((plainI 1)).view)), (.int .i64 (((plainI 1)).low)), (.slice A13 ((((plainI 1)).marks).length) cap14), (.slice (some ⟨b20, 0, none⟩) 1 1), (.slice A17 ((((plainI 1)).q).length) cap18)]) rfl (hB.range (i := 3) (m := 6) rfl rfl) row49 rfl) ⟨G, fun _ _ h => h, ⟨hC, hB, hg⟩, rfl⟩
   refine dsOn (j := 41) rfl rfl ?_ ?_
   ·
    intro done G w ac_ hd hp hn ⟨hC, hB, hg⟩ hM
    have f66 := hM.eqv (s := 66) 38 rfl (hp 38 rfl) rfl rfl
    refine ⟨f66, ?_⟩
    have hF := hM.fr
    exact drawCallG hF rfl co18 rfl (plain_ret _ _ hC.holds 2) (fun v G' w' hk hr => ⟨G', hk.gle, ⟨hC.trans hk, hB.ext hk, fun b o h => hk.gle b o (hg b o h)⟩, hr⟩)
   refine dsOn (j := 42) rfl rfl ?_ ?_
   ·
    intro done G w ac_ hd hp hn ⟨hC, hB, hg⟩ hM
    have f66 := hM.eqv (s := 66) 38 rfl (hp 38 rfl) rfl rfl
    refine ⟨f66, ?_⟩
    have hF := hM.fr
    exact drawCallG hF rfl co18 rfl (plain_ret _ _ hC.holds 3) (fun v G' w' hk hr => ⟨G', hk.gle, ⟨hC.trans hk, hB.ext hk, fun b o h => hk.gle b o (hg b o h)⟩, hr⟩)
   refine dsOn (j := 43) rfl rfl ?_ ?_
   ·
    intro done G w ac_ hd hp hn ⟨hC, hB, hg⟩ hM
    have f66 := hM.eqv (s := 66) 38 rfl (hp 38 rfl) rfl rfl
    refine ⟨f66, ?_⟩
    have hF := hM.fr
    exact drawCallG hF rfl co18 rfl (plain_ret _ _ hC.holds 4) (fun v G' w' hk hr => ⟨G', hk.gle, ⟨hC.trans hk, hB.ext hk, fun b o h => hk.gle b o (hg b o h)⟩, hr⟩)
   refine dsOn (j := 44) rfl rfl ?_ ?_
   ·
    intro done G w ac_ hd hp hn ⟨hC, hB, hg⟩ hM
    replace hs8 := hs8.mono hg
    replace hs12 := hs12.mono hg
    replace hs21 := hs21.mono hg
    have f67 := hM.eqv (s := 67) 39 rfl (hp 39 rfl) rfl rfl
    obtain ⟨v_, f68, ⟨r924, rfl, hr925⟩⟩ := hM.new 40 _ _ rfl (hp 40 rfl) rfl
    obtain ⟨v927, v929, v931, rfl, hs928, hs930, hs932⟩ := Change.opIs hr925
    obtain ⟨A933, cap934, rfl⟩ := hs928.form
    obtain ⟨A935, cap936, rfl⟩ := hs930.form
    obtain ⟨A937, cap938, rfl⟩ := hs932.form
    obtain ⟨v_, f69, ⟨r939, rfl, hr940⟩⟩ := hM.new 41 _ _ rfl (hp 41 rfl) rfl
    obtain ⟨v942, v944, v946, rfl, hs943, hs945, hs947⟩ := Change.opIs hr940
    obtain ⟨A948, cap949, rfl⟩ := hs943.form
    obtain ⟨A950, cap951, rfl⟩ := hs945.form
    obtain ⟨A952, cap953, rfl⟩ := hs947.form
    obtain ⟨v_, f70, ⟨r954, rfl, hr955⟩⟩ := hM.new 42 _ _ rfl (hp 42 rfl) rfl
    obtain ⟨v957, v959, v961, rfl, hs958, hs960, hs962⟩ := Change.opIs hr955
    obtain ⟨A963, cap964, rfl⟩ := hs958.form
    obtain ⟨A965, cap966, rfl⟩ := hs960.form
    obtain ⟨A967, cap968, rfl⟩ := hs962.form
    have f66 := hM.eqv (s := 66) 38 rfl (hp 38 rfl) rfl rfl
    refine ⟨f66, ?_⟩
    have hF := ((((hM.fr.add f67).add f68).add f69).add f70)
    exact drawBsl hF (α := Change) (ps := [(0, .tmp 67), (1, .tmp 68), (2, .tmp 69), (3, .tmp 70)]) (xs := [(Change.mk (((plainI 1)).node) (((plainI 1)).view) (((plainI 1)).low) (((plainI 1)).marks) ([(Stand.mk 1 ((digI ((2 : UInt8)))) 5)]) (((plainI 1)).q)), ((plainI 2)), ((plainI 3)), ((plainI 4))]) (rows := [[(.int .i64 (((plainI 1)).node)), (.int .i64 (((plainI 1)).view)), (.int .i64 (((plainI 1)).low)), (.slice A13 ((((plainI 1)).marks).length) cap14), (.slice (some ⟨b20, 0, none⟩) 1 1), (.slice A17 ((((plainI 1)).q).length) cap18)], [(.int .i64 (((plainI 2)).node)), (.int .i64 (((plainI 2)).view)), (.int .i64 (((plainI 2)).low)), (.slice A933 ((((plainI 2)).marks).length) cap934), (.slice A935 ((((plainI 2)).p).length) cap936), (.slice A937 ((((plainI 2)).q).length) cap938)], [(.int .i64 (((plainI 3)).node)), (.int .i64 (((plainI 3)).view)), (.int .i64 (((plainI 3)).low)), (.slice A948 ((((plainI 3)).marks).length) cap949), (.slice A950 ((((plainI 3)).p).length) cap951), (.slice A952 ((((plainI 3)).q).length) cap953)], [(.int .i64 (((plainI 4)).node)), (.int .i64 (((plainI 4)).view)), (.int .i64 (((plainI 4)).low)), (.slice A963 ((((plainI 4)).marks).length) cap964), (.slice A965 ((((plainI 4)).p).length) cap966), (.slice A967 ((((plainI 4)).q).length) cap968)]]) elo25 rfl rfl hC.holds rfl rfl rfl ⟨(Change.mkIs (x := (Change.mk (((plainI 1)).node) (((plainI 1)).view) (((plainI 1)).low) (((plainI 1)).marks) ([(Stand.mk 1 ((digI ((2 : UInt8)))) 5)]) (((plainI 1)).q))) hs8 hs21 hs12), (Change.mkIs (x := ((plainI 2))) hs928 hs930 hs932), (Change.mkIs (x := ((plainI 3))) hs943 hs945 hs947), (Change.mkIs (x := ((plainI 4))) hs958 hs960 hs962), trivial⟩ (fun b G' w' hk hr => ⟨G', hk.gle, ⟨hC.trans hk, hB.ext hk, fun b o h => hk.gle b o (hg b o h)⟩, ⟨b, rfl, hr⟩⟩)
   refine dsOn (j := 45) rfl rfl ?_ ?_
   ·
    intro done G w ac_ hd hp hn ⟨hC, hB, hg⟩ hM
    have f66 := hM.eqv (s := 66) 38 rfl (hp 38 rfl) rfl rfl
    refine ⟨f66, ?_⟩
    have hF := hM.fr
    exact drawCallS hF rfl co20 rfl (base_ret _ _ hC.holds ) (fun w' hk => ⟨G, fun _ _ h => h, ⟨hC.trans hk, hB.ext hk, hg⟩, rfl⟩)
   refine dsOn (j := 46) rfl rfl ?_ ?_
   ·
    intro done G w ac_ hd hp hn ⟨hC, hB, hg⟩ hM
    obtain ⟨v_, f71, ⟨b969, rfl, hs970⟩⟩ := hM.new 43 _ _ rfl (hp 43 rfl) rfl
    have f72 := hM.eqv (s := 72) 44 rfl (hp 44 rfl) rfl rfl
    have f66 := hM.eqv (s := 66) 38 rfl (hp 38 rfl) rfl rfl
    refine ⟨f66, ?_⟩
    have hF := ((hM.fr.add f71).add f72)
    exact drawCallS hF rfl co22 rfl (RetS.cast (picks_ret _ _ hC.holds _ ([(Change.mk (((plainI 1)).node) (((plainI 1)).view) (((plainI 1)).low) (((plainI 1)).marks) ([(Stand.mk 1 ((digI ((2 : UInt8)))) 5)]) (((plainI 1)).q)), ((plainI 2)), ((plainI 3)), ((plainI 4))]) hs970 baseI _ ([]) (Sl.nil_ _) (by decide) (by decide)) (congrArg Value.bool cl14_140)) (fun w' hk => ⟨G, fun _ _ h => h, ⟨hC.trans hk, hB.ext hk, hg⟩, rfl⟩)
   refine dsNone (j := 47) rfl ?_ ?_
   ·
    intro done G w ac_ hd hp hn ⟨hC, hB, hg⟩ hM
    have f66 := hM.eqv (s := 66) 38 rfl (hp 38 rfl) rfl rfl
    have f73 := hM.eqv (s := 73) 45 rfl (hp 45 rfl) rfl rfl
    have hF := ((hM.fr.add f66).add f73)
    exact OpVal.draw hF (opPickT rfl rfl) ⟨G, fun _ _ h => h, ⟨hC, hB, hg⟩, rfl⟩
   refine dsNone (j := 48) rfl ?_ ?_
   ·
    intro done G w ac_ hd hp hn ⟨hC, hB, hg⟩ hM
    have f74 := hM.eqv (s := 74) 46 rfl (hp 46 rfl) rfl rfl
    have hF := (hM.fr.add f74)
    exact OpVal.draw hF (opMove rfl) ⟨G, fun _ _ h => h, ⟨hC, hB, hg⟩, rfl⟩
   refine dsOn (j := 49) rfl rfl ?_ ?_
   ·
    intro done G w ac_ hd hp hn ⟨hC, hB, hg⟩ hM
    have f6 : ac_.tmps[6]? = some (.pointer (some ⟨b53, 0, none⟩)) := hM.old0 rfl rfl
    have f75 := hM.eqv (s := 75) 47 rfl (hp 47 rfl) rfl rfl
    refine ⟨f75, ?_⟩
    have hF := (hM.fr.add f6)
    exact OpVal.draw hF (opLoadRow (cs := [(.int .i64 (((plainI 1)).node)), (.int .i64 (((plainI 1)).view)), (.int .i64 (((plainI 1)).low)), (.slice (some ⟨b57, 0, none⟩) 2 2), (.slice A34 ((((plainI 1)).p).length) cap35), (.slice A36 ((((plainI 1)).q).length) cap37)]) rfl (hB.range (i := 1) (m := 6) rfl rfl) row49 rfl) ⟨G, fun _ _ h => h, ⟨hC, hB, hg⟩, rfl⟩
   refine dsOn (j := 50) rfl rfl ?_ ?_
   ·
    intro done G w ac_ hd hp hn ⟨hC, hB, hg⟩ hM
    have f7 : ac_.tmps[7]? = some (.pointer (some ⟨b54, 0, none⟩)) := hM.old0 rfl rfl
    have f75 := hM.eqv (s := 75) 47 rfl (hp 47 rfl) rfl rfl
    refine ⟨f75, ?_⟩
    have hF := (hM.fr.add f7)
    exact OpVal.draw hF (opLoadRow (cs := [(.int .i64 (((plainI 2)).node)), (.int .i64 (((plainI 2)).view)), (.int .i64 (((plainI 2)).low)), (.slice (some ⟨b57, 0, none⟩) 2 2), (.slice A49 ((((plainI 2)).p).length) cap50), (.slice A51 ((((plainI 2)).q).length) cap52)]) rfl (hB.range (i := 0) (m := 6) rfl rfl) row49 rfl) ⟨G, fun _ _ h => h, ⟨hC, hB, hg⟩, rfl⟩
   refine dsOn (j := 51) rfl rfl ?_ ?_
   ·
    intro done G w ac_ hd hp hn ⟨hC, hB, hg⟩ hM
    have f75 := hM.eqv (s := 75) 47 rfl (hp 47 rfl) rfl rfl
    refine ⟨f75, ?_⟩
    have hF := hM.fr
    exact drawCallG hF rfl co18 rfl (plain_ret _ _ hC.holds 3) (fun v G' w' hk hr => ⟨G', hk.gle, ⟨hC.trans hk, hB.ext hk, fun b o h => hk.gle b o (hg b o h)⟩, hr⟩)
   refine dsOn (j := 52) rfl rfl ?_ ?_
   ·
    intro done G w ac_ hd hp hn ⟨hC, hB, hg⟩ hM
    replace hs29 := hs29.mono hg
    replace hs31 := hs31.mono hg
    replace hs44 := hs44.mono hg
    replace hs46 := hs46.mono hg
    replace hs56 := hs56.mono hg
    have f76 := hM.eqv (s := 76) 48 rfl (hp 48 rfl) rfl rfl
    have f77 := hM.eqv (s := 77) 49 rfl (hp 49 rfl) rfl rfl
    obtain ⟨v_, f78, ⟨r971, rfl, hr972⟩⟩ := hM.new 50 _ _ rfl (hp 50 rfl) rfl
    obtain ⟨v974, v976, v978, rfl, hs975, hs977, hs979⟩ := Change.opIs hr972
    obtain ⟨A980, cap981, rfl⟩ := hs975.form
    obtain ⟨A982, cap983, rfl⟩ := hs977.form
    obtain ⟨A984, cap985, rfl⟩ := hs979.form
    have f75 := hM.eqv (s := 75) 47 rfl (hp 47 rfl) rfl rfl
    refine ⟨f75, ?_⟩
    have hF := (((hM.fr.add f76).add f77).add f78)
    exact drawBsl hF (α := Change) (ps := [(0, .tmp 76), (1, .tmp 77), (2, .tmp 78)]) (xs := [(Change.mk (((plainI 1)).node) (((plainI 1)).view) (((plainI 1)).low) ([baseI, (Mark.mk 4 ((digI ((4 : UInt8)))))]) (((plainI 1)).p) (((plainI 1)).q)), (Change.mk (((plainI 2)).node) (((plainI 2)).view) (((plainI 2)).low) ([baseI, (Mark.mk 4 ((digI ((4 : UInt8)))))]) (((plainI 2)).p) (((plainI 2)).q)), ((plainI 3))]) (rows := [[(.int .i64 (((plainI 1)).node)), (.int .i64 (((plainI 1)).view)), (.int .i64 (((plainI 1)).low)), (.slice (some ⟨b57, 0, none⟩) 2 2), (.slice A34 ((((plainI 1)).p).length) cap35), (.slice A36 ((((plainI 1)).q).length) cap37)], [(.int .i64 (((plainI 2)).node)), (.int .i64 (((plainI 2)).view)), (.int .i64 (((plainI 2)).low)), (.slice (some ⟨b57, 0, none⟩) 2 2), (.slice A49 ((((plainI 2)).p).length) cap50), (.slice A51 ((((plainI 2)).q).length) cap52)], [(.int .i64 (((plainI 3)).node)), (.int .i64 (((plainI 3)).view)), (.int .i64 (((plainI 3)).low)), (.slice A980 ((((plainI 3)).marks).length) cap981), (.slice A982 ((((plainI 3)).p).length) cap983), (.slice A984 ((((plainI 3)).q).length) cap985)]]) elo25 rfl rfl hC.holds rfl rfl rfl ⟨(Change.mkIs (x := (Change.mk (((plainI 1)).node) (((plainI 1)).view) (((plainI 1)).low) ([baseI, (Mark.mk 4 ((digI ((4 : UInt8)))))]) (((plainI 1)).p) (((plainI 1)).q))) hs56 hs29 hs31), (Change.mkIs (x := (Change.mk (((plainI 2)).node) (((plainI 2)).view) (((plainI 2)).low) ([baseI, (Mark.mk 4 ((digI ((4 : UInt8)))))]) (((plainI 2)).p) (((plainI 2)).q))) hs56 hs44 hs46), (Change.mkIs (x := ((plainI 3))) hs975 hs977 hs979), trivial⟩ (fun b G' w' hk hr => ⟨G', hk.gle, ⟨hC.trans hk, hB.ext hk, fun b o h => hk.gle b o (hg b o h)⟩, ⟨b, rfl, hr⟩⟩)
   refine dsOn (j := 53) rfl rfl ?_ ?_
   ·
    intro done G w ac_ hd hp hn ⟨hC, hB, hg⟩ hM
    have f5 : ac_.tmps[5]? = some (.pointer (some ⟨b22, 0, none⟩)) := hM.old0 rfl rfl
    have f75 := hM.eqv (s := 75) 47 rfl (hp 47 rfl) rfl rfl
    refine ⟨f75, ?_⟩
    have hF := (hM.fr.add f5)
    exact OpVal.draw hF (opLoadRow (cs := ((.int .i64 4) :: (((digI ((4 : UInt8)))).cells ++ []))) rfl (hB.range (i := 2) (m := 33) rfl (by simp [Mark.cells, Stand.cells])) row30 (by simp [Mark.cells, Stand.cells])) ⟨G, fun _ _ h => h, ⟨hC, hB, hg⟩, rfl⟩
   refine dsOn (j := 54) rfl rfl ?_ ?_
   ·
    intro done G w ac_ hd hp hn ⟨hC, hB, hg⟩ hM
    obtain ⟨v_, f79, ⟨b986, rfl, hs987⟩⟩ := hM.new 51 _ _ rfl (hp 51 rfl) rfl
    have f80 := hM.eqv (s := 80) 52 rfl (hp 52 rfl) rfl rfl
    have f75 := hM.eqv (s := 75) 47 rfl (hp 47 rfl) rfl rfl
    refine ⟨f75, ?_⟩
    have hF := ((hM.fr.add f79).add f80)
    exact drawCallS hF rfl co22 rfl (picks_ret _ _ hC.holds _ ([(Change.mk (((plainI 1)).node) (((plainI 1)).view) (((plainI 1)).low) ([baseI, (Mark.mk 4 ((digI ((4 : UInt8)))))]) (((plainI 1)).p) (((plainI 1)).q)), (Change.mk (((plainI 2)).node) (((plainI 2)).view) (((plainI 2)).low) ([baseI, (Mark.mk 4 ((digI ((4 : UInt8)))))]) (((plainI 2)).p) (((plainI 2)).q)), ((plainI 3))]) hs987 ((Mark.mk 4 ((digI ((4 : UInt8)))))) _ ([]) (Sl.nil_ _) (by decide) (by decide)) (fun w' hk => ⟨G, fun _ _ h => h, ⟨hC.trans hk, hB.ext hk, hg⟩, rfl⟩)
   refine dsNone (j := 55) rfl ?_ ?_
   ·
    intro done G w ac_ hd hp hn ⟨hC, hB, hg⟩ hM
    have f75 := hM.eqv (s := 75) 47 rfl (hp 47 rfl) rfl rfl
    have f81 := hM.eqv (s := 81) 53 rfl (hp 53 rfl) rfl rfl
    have hF := ((hM.fr.add f75).add f81)
    exact OpVal.draw hF (opPickT rfl rfl) ⟨G, fun _ _ h => h, ⟨hC, hB, hg⟩, rfl⟩
   refine dsNone (j := 56) rfl ?_ ?_
   ·
    intro done G w ac_ hd hp hn ⟨hC, hB, hg⟩ hM
    have f82 := hM.eqv (s := 82) 54 rfl (hp 54 rfl) rfl rfl
    have hF := (hM.fr.add f82)
    exact OpVal.draw hF (opAssign rfl) ⟨G, fun _ _ h => h, ⟨hC, hB, hg⟩, rfl⟩
   exact dsNil
  ·
   intro done G w ac_ hall ⟨hC, hB, hg⟩ hM
   have f0 := hM.eqv (s := 0) 55 rfl (hall 55 (by decide)) rfl rfl
   refine ⟨(Env.nil.put 0 (.bool ((picksI ([(Change.mk (((plainI 1)).node) (((plainI 1)).view) (((plainI 1)).low) ([baseI, (Mark.mk 4 ((digI ((4 : UInt8)))))]) (((plainI 1)).p) (((plainI 1)).q)), (Change.mk (((plainI 2)).node) (((plainI 2)).view) (((plainI 2)).low) ([baseI, (Mark.mk 4 ((digI ((4 : UInt8)))))]) (((plainI 2)).p) (((plainI 2)).q)), ((plainI 3))]) ((Mark.mk 4 ((digI ((4 : UInt8)))))) ([]))))), (hM.fr.add f0), ?_⟩
   clear hM hall
   refine wcOf ?_
   refine wcRet ?_
   exact fun ac_ ha => hQ _ _ _ (results1 ha rfl rfl) ha.df (endS hC hw rfl)

end Go.Proofs.Ytbhkoipmojdkhaa
