/- What functions of the pick seat return, part 16. No condition. -/
import Derived.Test.YtbhkoipmojdkhaaPkG15
set_option linter.all false
namespace Go.Proofs.Ytbhkoipmojdkhaa
open Go Go.Gx Go.RowKit
theorem co18 : callOk Try.prog 18 = true := by kernel_rfl
theorem sz47 : (Try.prog.info? 47).map (·.size) = some 1 := by kernel_rfl
theorem hasL_ret (G0 : Gh) (w0 : World) (hw : Holds G0 w0) (n : Int) (sq : Int) (dg : Dig) (vw : Int) (pb : Bool) :
  RetG Try.prog 21 #[.int .i64 n, .int .i64 sq, .agg dg.cells.toArray, .int .i64 vw, .bool pb] G0 w0 (fun G v => ∃ c0, v = (.agg c0.toArray) ∧ Rp.Is G c0 ((hasI n sq dg vw pb))) := by
 have hC := Cx.refl hw
 have hB : Bxs G0 w0 w0.heap.size [] := Bxs.nil _ _ _
 refine callsOf Try.func21 rfl _ Try.ntmps21 rfl _ (argsCons (argsCons (argsCons (argsCons (argsCons argsNil (t := 0) rfl) (t := 1) rfl) (t := 2) rfl) (t := 3) rfl) (t := 4) rfl) ?_; intro Q0 hQ
 refine wcSeq (wcRegion ?_)
 refine wlBox (cs := dg.cells) hC hB rfl rfl rfl ?_; intro b1 w hk hC hB
 refine wlAlloc hC hB zero49 rfl ?_; intro b2 w hk hC hB
 refine wlThen (wcSeq (wcRegion ?_))
 refine wlVal (opMove rfl) rfl ?_
 refine wlCallG hC hB rfl co18 rfl rfl (plain_ret _ _ hC.holds n) ?_; rintro v5 G w hk hC hB ⟨r3, rfl, hr4⟩
 obtain ⟨v6, v8, v10, rfl, hs7, hs9, hs11⟩ := Change.opIs hr4
 obtain ⟨A12, cap13, rfl⟩ := hs7.form
 obtain ⟨A14, cap15, rfl⟩ := hs9.form
 obtain ⟨A16, cap17, rfl⟩ := hs11.form
 refine wlAlloc hC hB zero49 rfl ?_; intro b18 w hk hC hB
 refine wlStore 0 (vs := [(.int .i64 (((plainI n)).node)), (.int .i64 (((plainI n)).view)), (.int .i64 (((plainI n)).low)), (.slice A12 ((((plainI n)).marks).length) cap13), (.slice A14 ((((plainI n)).p).length) cap15), (.slice A16 ((((plainI n)).q).length) cap17)]) (cs := [(.int .i64 0), (.int .i64 0), (.int .i64 0), (.slice none 0 0), (.slice none 0 0), (.slice none 0 0)]) (cs' := [(.int .i64 (((plainI n)).node)), (.int .i64 (((plainI n)).view)), (.int .i64 (((plainI n)).low)), (.slice A12 ((((plainI n)).marks).length) cap13), (.slice A14 ((((plainI n)).p).length) cap15), (.slice A16 ((((plainI n)).q).length) cap17)]) hC hB rfl rfl rfl sz49 rfl rfl rfl (by simp [Mark.cells, Stand.cells]) rfl rfl ?_; intro w hC hB
 refine wlThen (wcSeq (wcRegion ?_))
 refine wlVal (opMove rfl) rfl ?_
 refine wlVal (opLoadRow (cs := dg.cells) rfl (hB.range (i := 2) (m := 32) rfl (by simp [Mark.cells, Stand.cells])) row28 (by simp [Mark.cells, Stand.cells])) rfl ?_
 refine wlVal (opMove rfl) rfl ?_
 refine wlVal (opBuild (ps := [(0, .tmp 14), (1, .tmp 15), (2, .tmp 16)]) (cs := ((.int .i64 sq) :: (dg.cells ++ ((.int .i64 vw) :: [])))) so58 zero58 rfl rfl (by simp [buildCells, Value.cells])) rfl ?_
 refine wlBuildSlice (α := Stand) (ps := [(0, .tmp 17)]) (xs := [(Stand.mk sq dg vw)]) (rows := [((.int .i64 sq) :: (dg.cells ++ ((.int .i64 vw) :: [])))]) elo47 rfl rfl hC hB rfl rfl rfl ⟨rfl, trivial⟩ rfl ?_; intro b19 G w hk hC hB hs20
 replace hs7 := hs7.mono hk.gle; replace hs9 := hs9.mono hk.gle
 refine wlVal (opFieldAddr rfl fo49_5) rfl ?_
 refine wlStore 0 (vs := [(.slice (some ⟨b19, 0, none⟩) 1 1)]) (cs := [(.int .i64 (((plainI n)).node)), (.int .i64 (((plainI n)).view)), (.int .i64 (((plainI n)).low)), (.slice A12 ((((plainI n)).marks).length) cap13), (.slice A14 ((((plainI n)).p).length) cap15), (.slice A16 ((((plainI n)).q).length) cap17)]) (cs' := [(.int .i64 (((plainI n)).node)), (.int .i64 (((plainI n)).view)), (.int .i64 (((plainI n)).low)), (.slice A12 ((((plainI n)).marks).length) cap13), (.slice A14 ((((plainI n)).p).length) cap15), (.slice (some ⟨b19, 0, none⟩) 1 1)]) hC hB rfl rfl rfl sz47 rfl rfl rfl (by simp [Mark.cells, Stand.cells]) rfl rfl ?_; intro w hC hB
 refine wlThen (wcSeq (wcSeq (wcRegion ?_)))
 refine wlVal (opMove rfl) rfl ?_
 refine wlThen ?_
 cases h21 : pb
 ·
  skip
  refine wcCondF rfl ?_
  refine wcSkip ?_
  refine wcOf ?_
  refine wcSeq (wcRegion ?_)
  refine wlVal (opLoadRow (cs := [(.int .i64 (((plainI n)).node)), (.int .i64 (((plainI n)).view)), (.int .i64 (((plainI n)).low)), (.slice A12 ((((plainI n)).marks).length) cap13), (.slice A14 ((((plainI n)).p).length) cap15), (.slice (some ⟨b19, 0, none⟩) 1 1)]) rfl (hB.range (i := 0) (m := 6) rfl rfl) row49 rfl) rfl ?_
  refine wlStore 1 (vs := [(.int .i64 (((plainI n)).node)), (.int .i64 (((plainI n)).view)), (.int .i64 (((plainI n)).low)), (.slice A12 ((((plainI n)).marks).length) cap13), (.slice A14 ((((plainI n)).p).length) cap15), (.slice (some ⟨b19, 0, none⟩) 1 1)]) (cs := [(.int .i64 0), (.int .i64 0), (.int .i64 0), (.slice none 0 0), (.slice none 0 0), (.slice none 0 0)]) (cs' := [(.int .i64 (((plainI n)).node)), (.int .i64 (((plainI n)).view)), (.int .i64 (((plainI n)).low)), (.slice A12 ((((plainI n)).marks).length) cap13), (.slice A14 ((((plainI n)).p).length) cap15), (.slice (some ⟨b19, 0, none⟩) 1 1)]) hC hB rfl rfl rfl sz49 rfl rfl rfl (by simp [Mark.cells, Stand.cells]) rfl rfl ?_; intro w hC hB
  refine wlThen ?_
  refine wcRet ?_
  exact fun ac_ ha => hQ _ _ _ (results1 ha rfl ⟨_, _, [(.int .i64 (((plainI n)).node)), (.int .i64 (((plainI n)).view)), (.int .i64 (((plainI n)).low)), (.slice A12 ((((plainI n)).marks).length) cap13), (.slice A14 ((((plainI n)).p).length) cap15), (.slice (some ⟨b19, 0, none⟩) 1 1)], rfl, row49, rfl, hB.range (i := 1) (m := 6) rfl rfl, rfl⟩) ha.df (endG hC (by simp only [hasI, h21, cond_true, cond_false]; exact ⟨_, rfl, (Change.mkIs (x := (Change.mk (((plainI n)).node) (((plainI n)).view) (((plainI n)).low) (((plainI n)).marks) (((plainI n)).p) ([(Stand.mk sq dg vw)]))) hs7 hs9 hs20)⟩))
 ·
  skip
  refine wcCondT rfl ?_
  refine wcRegion ?_
  refine wlVal (opFieldAddr rfl fo49_5) rfl ?_
  refine wlVal (opLoadOne (v := (.slice (some ⟨b19, 0, none⟩) 1 1)) rfl (hB.cell (i := 0) rfl rfl) one47) rfl ?_
  refine wlVal (opFieldAddr rfl fo49_4) rfl ?_
  refine wlStore 0 (vs := [(.slice (some ⟨b19, 0, none⟩) 1 1)]) (cs := [(.int .i64 (((plainI n)).node)), (.int .i64 (((plainI n)).view)), (.int .i64 (((plainI n)).low)), (.slice A12 ((((plainI n)).marks).length) cap13), (.slice A14 ((((plainI n)).p).length) cap15), (.slice (some ⟨b19, 0, none⟩) 1 1)]) (cs' := [(.int .i64 (((plainI n)).node)), (.int .i64 (((plainI n)).view)), (.int .i64 (((plainI n)).low)), (.slice A12 ((((plainI n)).marks).length) cap13), (.slice (some ⟨b19, 0, none⟩) 1 1), (.slice (some ⟨b19, 0, none⟩) 1 1)]) hC hB rfl rfl rfl sz47 rfl rfl rfl (by simp [Mark.cells, Stand.cells]) rfl rfl ?_; intro w hC hB
  refine wlThen (wcSeq (wcRegion ?_))
  refine wlVal (opLoadRow (cs := [(.int .i64 (((plainI n)).node)), (.int .i64 (((plainI n)).view)), (.int .i64 (((plainI n)).low)), (.slice A12 ((((plainI n)).marks).length) cap13), (.slice (some ⟨b19, 0, none⟩) 1 1), (.slice (some ⟨b19, 0, none⟩) 1 1)]) rfl (hB.range (i := 0) (m := 6) rfl rfl) row49 rfl) rfl ?_
  refine wlStore 1 (vs := [(.int .i64 (((plainI n)).node)), (.int .i64 (((plainI n)).view)), (.int .i64 (((plainI n)).low)), (.slice A12 ((((plainI n)).marks).length) cap13), (.slice (some ⟨b19, 0, none⟩) 1 1), (.slice (some ⟨b19, 0, none⟩) 1 1)]) (cs := [(.int .i64 0), (.int .i64 0), (.int .i64 0), (.slice none 0 0), (.slice none 0 0), (.slice none 0 0)]) (cs' := [(.int .i64 (((plainI n)).node)), (.int .i64 (((plainI n)).view)), (.int .i64 (((plainI n)).low)), (.slice A12 ((((plainI n)).marks).length) cap13), (.slice (some ⟨b19, 0, none⟩) 1 1), (.slice (some ⟨b19, 0, none⟩) 1 1)]) hC hB rfl rfl rfl sz49 rfl rfl rfl (by simp [Mark.cells, Stand.cells]) rfl rfl ?_; intro w hC hB
  refine wlThen ?_
  refine wcRet ?_
  exact fun ac_ ha => hQ _ _ _ (results1 ha rfl ⟨_, _, [(.int .i64 (((plainI n)).node)), (.int .i64 (((plainI n)).view)), (.int .i64 (((plainI n)).low)), (.slice A12 ((((plainI n)).marks).length) cap13), (.slice (some ⟨b19, 0, none⟩) 1 1), (.slice (some ⟨b19, 0, none⟩) 1 1)], rfl, row49, rfl, hB.range (i := 1) (m := 6) rfl rfl, rfl⟩) ha.df (endG hC (by simp only [hasI, h21, cond_true, cond_false]; exact ⟨_, rfl, (Change.mkIs (x := (Change.mk (((plainI n)).node) (((plainI n)).view) (((plainI n)).low) (((plainI n)).marks) ([(Stand.mk sq dg vw)]) ([(Stand.mk sq dg vw)]))) hs7 hs20 hs20)⟩))

end Go.Proofs.Ytbhkoipmojdkhaa
