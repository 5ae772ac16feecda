/- What functions of the pick seat return, part 15. No condition. -/
import Derived.Test.YtbhkoipmojdkhaaPkG14
set_option linter.all false
namespace Go.Proofs.Ytbhkoipmojdkhaa
open Go Go.Gx Go.RowKit
theorem zero24 : (Try.prog.info? 24).bind (fun i => i.zero.map Value.cells) = some ([(.int .i64 0), (.slice none 0 0)] : List Value).toArray := by kernel_rfl
theorem so24 : structOk Try.prog 24 [(0, 1), (1, 1)] = true := by kernel_rfl
theorem sz24 : (Try.prog.info? 24).map (·.size) = some 2 := by kernel_rfl
theorem sz22 : (Try.prog.info? 22).map (·.size) = some 1 := by kernel_rfl
theorem crewOf1_ret (G0 : Gh) (w0 : World) (hw : Holds G0 w0)  :
  RetG Try.prog 19 #[.int .i64 1] G0 w0 (fun G v => ∃ c0, v = (.agg c0.toArray) ∧ Rp.Is G c0 ((crewI 1))) := by
 have hC := Cx.refl hw
 have hB : Bxs G0 w0 w0.heap.size [] := Bxs.nil _ _ _
 refine callsOf Try.func19 rfl _ Try.ntmps19 rfl _ (argsCons argsNil (t := 0) rfl) ?_; intro Q0 hQ
 refine wcSeq (wcRegion ?_)
 refine wlAlloc hC hB zero24 rfl ?_; intro b1 w hk hC hB
 refine wlThen (wcSeq (wcRegion ?_))
 refine wlVal (opMove rfl) rfl ?_
 refine wlVal (opBuild (ps := [(0, .tmp 5)]) (cs := [(.int .i64 1), (.slice none 0 0)]) so24 zero24 rfl rfl (by simp [buildCells, Value.cells])) rfl ?_
 refine wlAlloc hC hB zero24 rfl ?_; intro b2 w hk hC hB
 refine wlStore 0 (vs := [(.int .i64 1), (.slice none 0 0)]) (cs := [(.int .i64 0), (.slice none 0 0)]) (cs' := [(.int .i64 1), (.slice none 0 0)]) hC hB rfl rfl rfl sz24 rfl rfl rfl (by simp [Mark.cells, Stand.cells]) rfl rfl ?_; intro w hC hB
 refine wlThen (wcSeq (wcSeq (wcRegion ?_)))
 refine wlVal (opAssign rfl) rfl ?_
 refine wlThen ?_
 refine wcBlock ?_
 refine wcLoop 5 ?_
 refine wrSucc ?_
 refine wcSeq (wcSeq (wcRegion ?_))
 refine wlVal (opMove rfl) rfl ?_
 refine wlVal (opMove rfl) rfl ?_
 refine wlVal (OpVal.cast (v' := .int .i64 3) (opMul rfl rfl) (congrArg (Value.int .i64) (by decide))) rfl ?_
 refine wlVal (OpVal.cast (v' := .int .i64 4) (opAdd rfl rfl) (congrArg (Value.int .i64) (by decide))) rfl ?_
 refine wlVal (opLeq rfl rfl) rfl ?_
 refine wlThen ?_
 refine wcCondT rfl ?_
 refine wcSkip ?_
 refine wcOf ?_
 refine wcSeq ?_
 refine wcBlock (wcRegion ?_)
 refine wlVal (opFieldAddr rfl fo24_1) rfl ?_
 refine wlVal (opLoadOne (v := (.slice none 0 0)) rfl (hB.cell (i := 0) rfl rfl) one22) rfl ?_
 refine wlVal (opMove rfl) rfl ?_
 refine wlBuildSlice (α := Int) (ps := [(0, .tmp 16)]) (xs := [1]) (rows := [[(.int .i64 1)]]) elo22 rfl rfl hC hB rfl rfl rfl ⟨rfl, trivial⟩ rfl ?_; intro b3 G w hk hC hB hs4
 refine wlAppend (α := Int) (bl := [(b2, 24, [(.int .i64 1), (.slice none 0 0)]), (b1, 24, [(.int .i64 0), (.slice none 0 0)])]) (o := none) (r := []) elo22 hC hB rfl rfl (Ow.nil_ _ 3) hs4 (by simp) rfl rfl ?_; intro A5 cap6 o7 w hC hB hO8
 refine wlVal (opFieldAddr rfl fo24_1) rfl ?_
 refine wlStore 0 (vs := [(.slice A5 ((([] ++ [1])).length) cap6)]) (cs := [(.int .i64 1), (.slice none 0 0)]) (cs' := [(.int .i64 1), (.slice A5 ((([] ++ [1])).length) cap6)]) hC hB rfl rfl rfl sz22 rfl rfl rfl (by simp [Mark.cells, Stand.cells]) rfl rfl ?_; intro w hC hB
 replace hB : Bxs G w w0.heap.size ([(b2, 24, [(.int .i64 1), (.slice A5 ((([] ++ [1])).length) cap6)]), (b1, 24, [(.int .i64 0), (.slice none 0 0)])] ++ (Option.toList o7 ++ [])) := hB
 refine wlNil ?_
 refine wcOf ?_
 refine wcRegion ?_
 refine wlVal (opMove rfl) rfl ?_
 refine wlVal (OpVal.cast (v' := .int .i64 2) (opAdd rfl rfl) (congrArg (Value.int .i64) (by decide))) rfl ?_
 refine wlVal (opAssign rfl) rfl ?_
 refine wlRound ?_
 refine wrSucc ?_
 refine wcSeq (wcSeq (wcRegion ?_))
 refine wlVal (opMove rfl) rfl ?_
 refine wlVal (opMove rfl) rfl ?_
 refine wlVal (OpVal.cast (v' := .int .i64 3) (opMul rfl rfl) (congrArg (Value.int .i64) (by decide))) rfl ?_
 refine wlVal (OpVal.cast (v' := .int .i64 4) (opAdd rfl rfl) (congrArg (Value.int .i64) (by decide))) rfl ?_
 refine wlVal (opLeq rfl rfl) rfl ?_
 refine wlThen ?_
 refine wcCondT rfl ?_
 refine wcSkip ?_
 refine wcOf ?_
 refine wcSeq ?_
 refine wcBlock (wcRegion ?_)
 refine wlVal (opFieldAddr rfl fo24_1) rfl ?_
 refine wlVal (opLoadOne (v := (.slice A5 ((([] ++ [1])).length) cap6)) rfl (hB.cell (i := 0) rfl rfl) one22) rfl ?_
 refine wlVal (opMove rfl) rfl ?_
 refine wlBuildSlice (α := Int) (ps := [(0, .tmp 16)]) (xs := [2]) (rows := [[(.int .i64 2)]]) elo22 rfl rfl hC hB rfl rfl rfl ⟨rfl, trivial⟩ rfl ?_; intro b9 G w hk hC hB hs10
 replace hO8 := hO8.mono hk.gle
 refine wlAppend (α := Int) (bl := [(b2, 24, [(.int .i64 1), (.slice A5 ((([] ++ [1])).length) cap6)]), (b1, 24, [(.int .i64 0), (.slice none 0 0)])]) (o := o7) (r := []) elo22 hC hB rfl rfl hO8 hs10 (by simp) rfl rfl ?_; intro A11 cap12 o13 w hC hB hO14
 refine wlVal (opFieldAddr rfl fo24_1) rfl ?_
 refine wlStore 0 (vs := [(.slice A11 (((([] ++ [1]) ++ [2])).length) cap12)]) (cs := [(.int .i64 1), (.slice A5 ((([] ++ [1])).length) cap6)]) (cs' := [(.int .i64 1), (.slice A11 (((([] ++ [1]) ++ [2])).length) cap12)]) hC hB rfl rfl rfl sz22 rfl rfl rfl (by simp [Mark.cells, Stand.cells]) rfl rfl ?_; intro w hC hB
 replace hB : Bxs G w w0.heap.size ([(b2, 24, [(.int .i64 1), (.slice A11 (((([] ++ [1]) ++ [2])).length) cap12)]), (b1, 24, [(.int .i64 0), (.slice none 0 0)])] ++ (Option.toList o13 ++ [])) := hB
 refine wlNil ?_
 refine wcOf ?_
 refine wcRegion ?_
 refine wlVal (opMove rfl) rfl ?_
 refine wlVal (OpVal.cast (v' := .int .i64 3) (opAdd rfl rfl) (congrArg (Value.int .i64) (by decide))) rfl ?_
 refine wlVal (opAssign rfl) rfl ?_
 refine wlRound ?_
 refine wrSucc ?_
 refine wcSeq (wcSeq (wcRegion ?_))
 refine wlVal (opMove rfl) rfl ?_
 refine wlVal (opMove rfl) rfl ?_
 refine wlVal (OpVal.cast (v' := .int .i64 3) (opMul rfl rfl) (congrArg (Value.int .i64) (by decide))) rfl ?_
 refine wlVal (OpVal.cast (v' := .int .i64 4) (opAdd rfl rfl) (congrArg (Value.int .i64) (by decide))) rfl ?_
 refine wlVal (opLeq rfl rfl) rfl ?_
 refine wlThen ?_
 refine wcCondT rfl ?_
 refine wcSkip ?_
 refine wcOf ?_
 refine wcSeq ?_
 refine wcBlock (wcRegion ?_)
 refine wlVal (opFieldAddr rfl fo24_1) rfl ?_
 refine wlVal (opLoadOne (v := (.slice A11 (((([] ++ [1]) ++ [2])).length) cap12)) rfl (hB.cell (i := 0) rfl rfl) one22) rfl ?_
 refine wlVal (opMove rfl) rfl ?_
 refine wlBuildSlice (α := Int) (ps := [(0, .tmp 16)]) (xs := [3]) (rows := [[(.int .i64 3)]]) elo22 rfl rfl hC hB rfl rfl rfl ⟨rfl, trivial⟩ rfl ?_; intro b15 G w hk hC hB hs16
 replace hO14 := hO14.mono hk.gle
 refine wlAppend (α := Int) (bl := [(b2, 24, [(.int .i64 1), (.slice A11 (((([] ++ [1]) ++ [2])).length) cap12)]), (b1, 24, [(.int .i64 0), (.slice none 0 0)])]) (o := o13) (r := []) elo22 hC hB rfl rfl hO14 hs16 (by simp) rfl rfl ?_; intro A17 cap18 o19 w hC hB hO20
 refine wlVal (opFieldAddr rfl fo24_1) rfl ?_
 refine wlStore 0 (vs := [(.slice A17 ((((([] ++ [1]) ++ [2]) ++ [3])).length) cap18)]) (cs := [(.int .i64 1), (.slice A11 (((([] ++ [1]) ++ [2])).length) cap12)]) (cs' := [(.int .i64 1), (.slice A17 ((((([] ++ [1]) ++ [2]) ++ [3])).length) cap18)]) hC hB rfl rfl rfl sz22 rfl rfl rfl (by simp [Mark.cells, Stand.cells]) rfl rfl ?_; intro w hC hB
 replace hB : Bxs G w w0.heap.size ([(b2, 24, [(.int .i64 1), (.slice A17 ((((([] ++ [1]) ++ [2]) ++ [3])).length) cap18)]), (b1, 24, [(.int .i64 0), (.slice none 0 0)])] ++ (Option.toList o19 ++ [])) := hB
 refine wlNil ?_
 refine wcOf ?_
 refine wcRegion ?_
 refine wlVal (opMove rfl) rfl ?_
 refine wlVal (OpVal.cast (v' := .int .i64 4) (opAdd rfl rfl) (congrArg (Value.int .i64) (by decide))) rfl ?_
 refine wlVal (opAssign rfl) rfl ?_
 refine wlRound ?_
 refine wrSucc ?_
 refine wcSeq (wcSeq (wcRegion ?_))
 refine wlVal (opMove rfl) rfl ?_
 refine wlVal (opMove rfl) rfl ?_
 refine wlVal (OpVal.cast (v' := .int .i64 3) (opMul rfl rfl) (congrArg (Value.int .i64) (by decide))) rfl ?_
 refine wlVal (OpVal.cast (v' := .int .i64 4) (opAdd rfl rfl) (congrArg (Value.int .i64) (by decide))) rfl ?_
 refine wlVal (opLeq rfl rfl) rfl ?_
 refine wlThen ?_
 refine wcCondT rfl ?_
 refine wcSkip ?_
 refine wcOf ?_
 refine wcSeq ?_
 refine wcBlock (wcRegion ?_)
 refine wlVal (opFieldAddr rfl fo24_1) rfl ?_
 refine wlVal (opLoadOne (v := (.slice A17 ((((([] ++ [1]) ++ [2]) ++ [3])).length) cap18)) rfl (hB.cell (i := 0) rfl rfl) one22) rfl ?_
 refine wlVal (opMove rfl) rfl ?_
 refine wlBuildSlice (α := Int) (ps := [(0, .tmp 16)]) (xs := [4]) (rows := [[(.int .i64 4)]]) elo22 rfl rfl hC hB rfl rfl rfl ⟨rfl, trivial⟩ rfl ?_; intro b21 G w hk hC hB hs22
 replace hO20 := hO20.mono hk.gle
 refine wlAppend (α := Int) (bl := [(b2, 24, [(.int .i64 1), (.slice A17 ((((([] ++ [1]) ++ [2]) ++ [3])).length) cap18)]), (b1, 24, [(.int .i64 0), (.slice none 0 0)])]) (o := o19) (r := []) elo22 hC hB rfl rfl hO20 hs22 (by simp) rfl rfl ?_; intro A23 cap24 o25 w hC hB hO26
 refine wlVal (opFieldAddr rfl fo24_1) rfl ?_
 refine wlStore 0 (vs := [(.slice A23 (((((([] ++ [1]) ++ [2]) ++ [3]) ++ [4])).length) cap24)]) (cs := [(.int .i64 1), (.slice A17 ((((([] ++ [1]) ++ [2]) ++ [3])).length) cap18)]) (cs' := [(.int .i64 1), (.slice A23 (((((([] ++ [1]) ++ [2]) ++ [3]) ++ [4])).length) cap24)]) hC hB rfl rfl rfl sz22 rfl rfl rfl (by simp [Mark.cells, Stand.cells]) rfl rfl ?_; intro w hC hB
 replace hB : Bxs G w w0.heap.size ([(b2, 24, [(.int .i64 1), (.slice A23 (((((([] ++ [1]) ++ [2]) ++ [3]) ++ [4])).length) cap24)]), (b1, 24, [(.int .i64 0), (.slice none 0 0)])] ++ (Option.toList o25 ++ [])) := hB
 refine wlNil ?_
 refine wcOf ?_
 refine wcRegion ?_
 refine wlVal (opMove rfl) rfl ?_
 refine wlVal (OpVal.cast (v' := .int .i64 5) (opAdd rfl rfl) (congrArg (Value.int .i64) (by decide))) rfl ?_
 refine wlVal (opAssign rfl) rfl ?_
 refine wlRound ?_
 refine wrSucc ?_
 refine wcSeq (wcSeq (wcRegion ?_))
 refine wlVal (opMove rfl) rfl ?_
 refine wlVal (opMove rfl) rfl ?_
 refine wlVal (OpVal.cast (v' := .int .i64 3) (opMul rfl rfl) (congrArg (Value.int .i64) (by decide))) rfl ?_
 refine wlVal (OpVal.cast (v' := .int .i64 4) (opAdd rfl rfl) (congrArg (Value.int .i64) (by decide))) rfl ?_
 refine wlVal (opLeq rfl rfl) rfl ?_
 refine wlThen ?_
 refine wcCondF rfl ?_
 refine wcExit ?_
 refine wcOf ?_
 refine wcSeq (wcRegion ?_)
 refine wlVal (opLoadRow (cs := [(.int .i64 1), (.slice A23 (((((([] ++ [1]) ++ [2]) ++ [3]) ++ [4])).length) cap24)]) rfl (hB.range (i := 0) (m := 2) rfl rfl) row24 rfl) rfl ?_
 refine wlStore 1 (vs := [(.int .i64 1), (.slice A23 (((((([] ++ [1]) ++ [2]) ++ [3]) ++ [4])).length) cap24)]) (cs := [(.int .i64 0), (.slice none 0 0)]) (cs' := [(.int .i64 1), (.slice A23 (((((([] ++ [1]) ++ [2]) ++ [3]) ++ [4])).length) cap24)]) hC hB rfl rfl rfl sz24 rfl rfl rfl (by simp [Mark.cells, Stand.cells]) rfl rfl ?_; intro w hC hB
 replace hB : Bxs G w w0.heap.size ([(b2, 24, [(.int .i64 1), (.slice A23 (((((([] ++ [1]) ++ [2]) ++ [3]) ++ [4])).length) cap24)]), (b1, 24, [(.int .i64 1), (.slice A23 (((((([] ++ [1]) ++ [2]) ++ [3]) ++ [4])).length) cap24)])] ++ (Option.toList o25 ++ [])) := hB
 refine wlThen ?_
 refine wcRet ?_
 obtain ⟨G, hg28, hC, hB, hs27⟩ := Ow.freeze' (bl := [(b2, 24, [(.int .i64 1), (.slice A23 (((((([] ++ [1]) ++ [2]) ++ [3]) ++ [4])).length) cap24)]), (b1, 24, [(.int .i64 1), (.slice A23 (((((([] ++ [1]) ++ [2]) ++ [3]) ++ [4])).length) cap24)])]) (r := []) hO26 hC (Nat.le_refl _) hB (by simp [maxL])
 exact fun ac_ ha => hQ _ _ _ (results1 ha rfl ⟨_, _, [(.int .i64 1), (.slice A23 (((((([] ++ [1]) ++ [2]) ++ [3]) ++ [4])).length) cap24)], rfl, row24, rfl, hB.range (i := 1) (m := 2) rfl rfl, rfl⟩) ha.df (endG hC ⟨_, rfl, (Crew.mkIs (x := (Crew.mk 1 ((((([] ++ [1]) ++ [2]) ++ [3]) ++ [4])))) hs27)⟩)

set_option maxRecDepth 4000 in
theorem crewOf2_ret (G0 : Gh) (w0 : World) (hw : Holds G0 w0)  :
  RetG Try.prog 19 #[.int .i64 2] G0 w0 (fun G v => ∃ c0, v = (.agg c0.toArray) ∧ Rp.Is G c0 ((crewI 2))) := by
 have hC := Cx.refl hw
 have hB : Bxs G0 w0 w0.heap.size [] := Bxs.nil _ _ _
 refine callsOf Try.func19 rfl _ Try.ntmps19 rfl _ (argsCons argsNil (t := 0) rfl) ?_; intro Q0 hQ
 refine wcSeq (wcRegion ?_)
 refine wlAlloc hC hB zero24 rfl ?_; intro b1 w hk hC hB
 refine wlThen (wcSeq (wcRegion ?_))
 refine wlVal (opMove rfl) rfl ?_
 refine wlVal (opBuild (ps := [(0, .tmp 5)]) (cs := [(.int .i64 2), (.slice none 0 0)]) so24 zero24 rfl rfl (by simp [buildCells, Value.cells])) rfl ?_
 refine wlAlloc hC hB zero24 rfl ?_; intro b2 w hk hC hB
 refine wlStore 0 (vs := [(.int .i64 2), (.slice none 0 0)]) (cs := [(.int .i64 0), (.slice none 0 0)]) (cs' := [(.int .i64 2), (.slice none 0 0)]) hC hB rfl rfl rfl sz24 rfl rfl rfl (by simp [Mark.cells, Stand.cells]) rfl rfl ?_; intro w hC hB
 refine wlThen (wcSeq (wcSeq (wcRegion ?_)))
 refine wlVal (opAssign rfl) rfl ?_
 refine wlThen ?_
 refine wcBlock ?_
 refine wcLoop 8 ?_
 refine wrSucc ?_
 refine wcSeq (wcSeq (wcRegion ?_))
 refine wlVal (opMove rfl) rfl ?_
 refine wlVal (opMove rfl) rfl ?_
 refine wlVal (OpVal.cast (v' := .int .i64 6) (opMul rfl rfl) (congrArg (Value.int .i64) (by decide))) rfl ?_
 refine wlVal (OpVal.cast (v' := .int .i64 7) (opAdd rfl rfl) (congrArg (Value.int .i64) (by decide))) rfl ?_
 refine wlVal (opLeq rfl rfl) rfl ?_
 refine wlThen ?_
 refine wcCondT rfl ?_
 refine wcSkip ?_
 refine wcOf ?_
 refine wcSeq ?_
 refine wcBlock (wcRegion ?_)
 refine wlVal (opFieldAddr rfl fo24_1) rfl ?_
 refine wlVal (opLoadOne (v := (.slice none 0 0)) rfl (hB.cell (i := 0) rfl rfl) one22) rfl ?_
 refine wlVal (opMove rfl) rfl ?_
 refine wlBuildSlice (α := Int) (ps := [(0, .tmp 16)]) (xs := [1]) (rows := [[(.int .i64 1)]]) elo22 rfl rfl hC hB rfl rfl rfl ⟨rfl, trivial⟩ rfl ?_; intro b3 G w hk hC hB hs4
 refine wlAppend (α := Int) (bl := [(b2, 24, [(.int .i64 2), (.slice none 0 0)]), (b1, 24, [(.int .i64 0), (.slice none 0 0)])]) (o := none) (r := []) elo22 hC hB rfl rfl (Ow.nil_ _ 3) hs4 (by simp) rfl rfl ?_; intro A5 cap6 o7 w hC hB hO8
 refine wlVal (opFieldAddr rfl fo24_1) rfl ?_
 refine wlStore 0 (vs := [(.slice A5 ((([] ++ [1])).length) cap6)]) (cs := [(.int .i64 2), (.slice none 0 0)]) (cs' := [(.int .i64 2), (.slice A5 ((([] ++ [1])).length) cap6)]) hC hB rfl rfl rfl sz22 rfl rfl rfl (by simp [Mark.cells, Stand.cells]) rfl rfl ?_; intro w hC hB
 replace hB : Bxs G w w0.heap.size ([(b2, 24, [(.int .i64 2), (.slice A5 ((([] ++ [1])).length) cap6)]), (b1, 24, [(.int .i64 0), (.slice none 0 0)])] ++ (Option.toList o7 ++ [])) := hB
 refine wlNil ?_
 refine wcOf ?_
 refine wcRegion ?_
 refine wlVal (opMove rfl) rfl ?_
 refine wlVal (OpVal.cast (v' := .int .i64 2) (opAdd rfl rfl) (congrArg (Value.int .i64) (by decide))) rfl ?_
 refine wlVal (opAssign rfl) rfl ?_
 refine wlRound ?_
 refine wrSucc ?_
 refine wcSeq (wcSeq (wcRegion ?_))
 refine wlVal (opMove rfl) rfl ?_
 refine wlVal (opMove rfl) rfl ?_
 refine wlVal (OpVal.cast (v' := .int .i64 6) (opMul rfl rfl) (congrArg (Value.int .i64) (by decide))) rfl ?_
 refine wlVal (OpVal.cast (v' := .int .i64 7) (opAdd rfl rfl) (congrArg (Value.int .i64) (by decide))) rfl ?_
 refine wlVal (opLeq rfl rfl) rfl ?_
 refine wlThen ?_
 refine wcCondT rfl ?_
 refine wcSkip ?_
 refine wcOf ?_
 refine wcSeq ?_
 refine wcBlock (wcRegion ?_)
 refine wlVal (opFieldAddr rfl fo24_1) rfl ?_
 refine wlVal (opLoadOne (v := (.slice A5 ((([] ++ [1])).length) cap6)) rfl (hB.cell (i := 0) rfl rfl) one22) rfl ?_
 refine wlVal (opMove rfl) rfl ?_
 refine wlBuildSlice (α := Int) (ps := [(0, .tmp 16)]) (xs := [2]) (rows := [[(.int .i64 2)]]) elo22 rfl rfl hC hB rfl rfl rfl ⟨rfl, trivial⟩ rfl ?_; intro b9 G w hk hC hB hs10
 replace hO8 := hO8.mono hk.gle
 refine wlAppend (α := Int) (bl := [(b2, 24, [(.int .i64 2), (.slice A5 ((([] ++ [1])).length) cap6)]), (b1, 24, [(.int .i64 0), (.slice none 0 0)])]) (o := o7) (r := []) elo22 hC hB rfl rfl hO8 hs10 (by simp) rfl rfl ?_; intro A11 cap12 o13 w hC hB hO14
 refine wlVal (opFieldAddr rfl fo24_1) rfl ?_
 refine wlStore 0 (vs := [(.slice A11 (((([] ++ [1]) ++ [2])).length) cap12)]) (cs := [(.int .i64 2), (.slice A5 ((([] ++ [1])).length) cap6)]) (cs' := [(.int .i64 2), (.slice A11 (((([] ++ [1]) ++ [2])).length) cap12)]) hC hB rfl rfl rfl sz22 rfl rfl rfl (by simp [Mark.cells, Stand.cells]) rfl rfl ?_; intro w hC hB
 replace hB : Bxs G w w0.heap.size ([(b2, 24, [(.int .i64 2), (.slice A11 (((([] ++ [1]) ++ [2])).length) cap12)]), (b1, 24, [(.int .i64 0), (.slice none 0 0)])] ++ (Option.toList o13 ++ [])) := hB
 refine wlNil ?_
 refine wcOf ?_
 refine wcRegion ?_
 refine wlVal (opMove rfl) rfl ?_
 refine wlVal (OpVal.cast (v' := .int .i64 3) (opAdd rfl rfl) (congrArg (Value.int .i64) (by decide))) rfl ?_
 refine wlVal (opAssign rfl) rfl ?_
 refine wlRound ?_
 refine wrSucc ?_
 refine wcSeq (wcSeq (wcRegion ?_))
 refine wlVal (opMove rfl) rfl ?_
 refine wlVal (opMove rfl) rfl ?_
 refine wlVal (OpVal.cast (v' := .int .i64 6) (opMul rfl rfl) (congrArg (Value.int .i64) (by decide))) rfl ?_
 refine wlVal (OpVal.cast (v' := .int .i64 7) (opAdd rfl rfl) (congrArg (Value.int .i64) (by decide))) rfl ?_
 refine wlVal (opLeq rfl rfl) rfl ?_
 refine wlThen ?_
 refine wcCondT rfl ?_
 refine wcSkip ?_
 refine wcOf ?_
 refine wcSeq ?_
 refine wcBlock (wcRegion ?_)
 refine wlVal (opFieldAddr rfl fo24_1) rfl ?_
 refine wlVal (opLoadOne (v := (.slice A11 (((([] ++ [1]) ++ [2])).length) cap12)) rfl (hB.cell (i := 0) rfl rfl) one22) rfl ?_
 refine wlVal (opMove rfl) rfl ?_
 refine wlBuildSlice (α := Int) (ps := [(0, .tmp 16)]) (xs := [3]) (rows := [[(.int .i64 3)]]) elo22 rfl rfl hC hB rfl rfl rfl ⟨rfl, trivial⟩ rfl ?_; intro b15 G w hk hC hB hs16
 replace hO14 := hO14.mono hk.gle
 refine wlAppend (α := Int) (bl := [(b2, 24, [(.int .i64 2), (.slice A11 (((([] ++ [1]) ++ [2])).length) cap12)]), (b1, 24, [(.int .i64 0), (.slice none 0 0)])]) (o := o13) (r := []) elo22 hC hB rfl rfl hO14 hs16 (by simp) rfl rfl ?_; intro A17 cap18 o19 w hC hB hO20
 refine wlVal (opFieldAddr rfl fo24_1) rfl ?_
 refine wlStore 0 (vs := [(.slice A17 ((((([] ++ [1]) ++ [2]) ++ [3])).length) cap18)]) (cs := [(.int .i64 2), (.slice A11 (((([] ++ [1]) ++ [2])).length) cap12)]) (cs' := [(.int .i64 2), (.slice A17 ((((([] ++ [1]) ++ [2]) ++ [3])).length) cap18)]) hC hB rfl rfl rfl sz22 rfl rfl rfl (by simp [Mark.cells, Stand.cells]) rfl rfl ?_; intro w hC hB
 replace hB : Bxs G w w0.heap.size ([(b2, 24, [(.int .i64 2), (.slice A17 ((((([] ++ [1]) ++ [2]) ++ [3])).length) cap18)]), (b1, 24, [(.int .i64 0), (.slice none 0 0)])] ++ (Option.toList o19 ++ [])) := hB
 refine wlNil ?_
 refine wcOf ?_
 refine wcRegion ?_
 refine wlVal (opMove rfl) rfl ?_
 refine wlVal (OpVal.cast (v' := .int .i64 4) (opAdd rfl rfl) (congrArg (Value.int .i64) (by decide))) rfl ?_
 refine wlVal (opAssign rfl) rfl ?_
 refine wlRound ?_
 refine wrSucc ?_
 refine wcSeq (wcSeq (wcRegion ?_))
 refine wlVal (opMove rfl) rfl ?_
 refine wlVal (opMove rfl) rfl ?_
 refine wlVal (OpVal.cast (v' := .int .i64 6) (opMul rfl rfl) (congrArg (Value.int .i64) (by decide))) rfl ?_
 refine wlVal (OpVal.cast (v' := .int .i64 7) (opAdd rfl rfl) (congrArg (Value.int .i64) (by decide))) rfl ?_
 refine wlVal (opLeq rfl rfl) rfl ?_
 refine wlThen ?_
 refine wcCondT rfl ?_
 refine wcSkip ?_
 refine wcOf ?_
 refine wcSeq ?_
 refine wcBlock (wcRegion ?_)
 refine wlVal (opFieldAddr rfl fo24_1) rfl ?_
 refine wlVal (opLoadOne (v := (.slice A17 ((((([] ++ [1]) ++ [2]) ++ [3])).length) cap18)) rfl (hB.cell (i := 0) rfl rfl) one22) rfl ?_
 refine wlVal (opMove rfl) rfl ?_
 refine wlBuildSlice (α := Int) (ps := [(0, .tmp 16)]) (xs := [4]) (rows := [[(.int .i64 4)]]) elo22 rfl rfl hC hB rfl rfl rfl ⟨rfl, trivial⟩ rfl ?_; intro b21 G w hk hC hB hs22
 replace hO20 := hO20.mono hk.gle
 refine wlAppend (α := Int) (bl := [(b2, 24, [(.int .i64 2), (.slice A17 ((((([] ++ [1]) ++ [2]) ++ [3])).length) cap18)]), (b1, 24, [(.int .i64 0), (.slice none 0 0)])]) (o := o19) (r := []) elo22 hC hB rfl rfl hO20 hs22 (by simp) rfl rfl ?_; intro A23 cap24 o25 w hC hB hO26
 refine wlVal (opFieldAddr rfl fo24_1) rfl ?_
 refine wlStore 0 (vs := [(.slice A23 (((((([] ++ [1]) ++ [2]) ++ [3]) ++ [4])).length) cap24)]) (cs := [(.int .i64 2), (.slice A17 ((((([] ++ [1]) ++ [2]) ++ [3])).length) cap18)]) (cs' := [(.int .i64 2), (.slice A23 (((((([] ++ [1]) ++ [2]) ++ [3]) ++ [4])).length) cap24)]) hC hB rfl rfl rfl sz22 rfl rfl rfl (by simp [Mark.cells, Stand.cells]) rfl rfl ?_; intro w hC hB
 replace hB : Bxs G w w0.heap.size ([(b2, 24, [(.int .i64 2), (.slice A23 (((((([] ++ [1]) ++ [2]) ++ [3]) ++ [4])).length) cap24)]), (b1, 24, [(.int .i64 0), (.slice none 0 0)])] ++ (Option.toList o25 ++ [])) := hB
 refine wlNil ?_
 refine wcOf ?_
 refine wcRegion ?_
 refine wlVal (opMove rfl) rfl ?_
 refine wlVal (OpVal.cast (v' := .int .i64 5) (opAdd rfl rfl) (congrArg (Value.int .i64) (by decide))) rfl ?_
 refine wlVal (opAssign rfl) rfl ?_
 refine wlRound ?_
 refine wrSucc ?_
 refine wcSeq (wcSeq (wcRegion ?_))
 refine wlVal (opMove rfl) rfl ?_
 refine wlVal (opMove rfl) rfl ?_
 refine wlVal (OpVal.cast (v' := .int .i64 6) (opMul rfl rfl) (congrArg (Value.int .i64) (by decide))) rfl ?_
 refine wlVal (OpVal.cast (v' := .int .i64 7) (opAdd rfl rfl) (congrArg (Value.int .i64) (by decide))) rfl ?_
 refine wlVal (opLeq rfl rfl) rfl ?_
 refine wlThen ?_
 refine wcCondT rfl ?_
 refine wcSkip ?_
 refine wcOf ?_
 refine wcSeq ?_
 refine wcBlock (wcRegion ?_)
 refine wlVal (opFieldAddr rfl fo24_1) rfl ?_
 refine wlVal (opLoadOne (v := (.slice A23 (((((([] ++ [1]) ++ [2]) ++ [3]) ++ [4])).length) cap24)) rfl (hB.cell (i := 0) rfl rfl) one22) rfl ?_
 refine wlVal (opMove rfl) rfl ?_
 refine wlBuildSlice (α := Int) (ps := [(0, .tmp 16)]) (xs := [5]) (rows := [[(.int .i64 5)]]) elo22 rfl rfl hC hB rfl rfl rfl ⟨rfl, trivial⟩ rfl ?_; intro b27 G w hk hC hB hs28
 replace hO26 := hO26.mono hk.gle
 refine wlAppend (α := Int) (bl := [(b2, 24, [(.int .i64 2), (.slice A23 (((((([] ++ [1]) ++ [2]) ++ [3]) ++ [4])).length) cap24)]), (b1, 24, [(.int .i64 0), (.slice none 0 0)])]) (o := o25) (r := []) elo22 hC hB rfl rfl hO26 hs28 (by simp) rfl rfl ?_; intro A29 cap30 o31 w hC hB hO32
 refine wlVal (opFieldAddr rfl fo24_1) rfl ?_
 refine wlStore 0 (vs := [(.slice A29 ((((((([] ++ [1]) ++ [2]) ++ [3]) ++ [4]) ++ [5])).length) cap30)]) (cs := [(.int .i64 2), (.slice A23 (((((([] ++ [1]) ++ [2]) ++ [3]) ++ [4])).length) cap24)]) (cs' := [(.int .i64 2), (.slice A29 ((((((([] ++ [1]) ++ [2]) ++ [3]) ++ [4]) ++ [5])).length) cap30)]) hC hB rfl rfl rfl sz22 rfl rfl rfl (by simp [Mark.cells, Stand.cells]) rfl rfl ?_; intro w hC hB
 replace hB : Bxs G w w0.heap.size ([(b2, 24, [(.int .i64 2), (.slice A29 ((((((([] ++ [1]) ++ [2]) ++ [3]) ++ [4]) ++ [5])).length) cap30)]), (b1, 24, [(.int .i64 0), (.slice none 0 0)])] ++ (Option.toList o31 ++ [])) := hB
 refine wlNil ?_
 refine wcOf ?_
 refine wcRegion ?_
 refine wlVal (opMove rfl) rfl ?_
 refine wlVal (OpVal.cast (v' := .int .i64 6) (opAdd rfl rfl) (congrArg (Value.int .i64) (by decide))) rfl ?_
 refine wlVal (opAssign rfl) rfl ?_
 refine wlRound ?_
 refine wrSucc ?_
 refine wcSeq (wcSeq (wcRegion ?_))
 refine wlVal (opMove rfl) rfl ?_
 refine wlVal (opMove rfl) rfl ?_
 refine wlVal (OpVal.cast (v' := .int .i64 6) (opMul rfl rfl) (congrArg (Value.int .i64) (by decide))) rfl ?_
 refine wlVal (OpVal.cast (v' := .int .i64 7) (opAdd rfl rfl) (congrArg (Value.int .i64) (by decide))) rfl ?_
 refine wlVal (opLeq rfl rfl) rfl ?_
 refine wlThen ?_
 refine wcCondT rfl ?_
 refine wcSkip ?_
 refine wcOf ?_
 refine wcSeq ?_
 refine wcBlock (wcRegion ?_)
 refine wlVal (opFieldAddr rfl fo24_1) rfl ?_
 refine wlVal (opLoadOne (v := (.slice A29 ((((((([] ++ [1]) ++ [2]) ++ [3]) ++ [4]) ++ [5])).length) cap30)) rfl (hB.cell (i := 0) rfl rfl) one22) rfl ?_
 refine wlVal (opMove rfl) rfl ?_
 refine wlBuildSlice (α := Int) (ps := [(0, .tmp 16)]) (xs := [6]) (rows := [[(.int .i64 6)]]) elo22 rfl rfl hC hB rfl rfl rfl ⟨rfl, trivial⟩ rfl ?_; intro b33 G w hk hC hB hs34
 replace hO32 := hO32.mono hk.gle
 refine wlAppend (α := Int) (bl := [(b2, 24, [(.int .i64 2), (.slice A29 ((((((([] ++ [1]) ++ [2]) ++ [3]) ++ [4]) ++ [5])).length) cap30)]), (b1, 24, [(.int .i64 0), (.slice none 0 0)])]) (o := o31) (r := []) elo22 hC hB rfl rfl hO32 hs34 (by simp) rfl rfl ?_; intro A35 cap36 o37 w hC hB hO38
 refine wlVal (opFieldAddr rfl fo24_1) rfl ?_
 refine wlStore 0 (vs := [(.slice A35 (((((((([] ++ [1]) ++ [2]) ++ [3]) ++ [4]) ++ [5]) ++ [6])).length) cap36)]) (cs := [(.int .i64 2), (.slice A29 ((((((([] ++ [1]) ++ [2]) ++ [3]) ++ [4]) ++ [5])).length) cap30)]) (cs' := [(.int .i64 2), (.slice A35 (((((((([] ++ [1]) ++ [2]) ++ [3]) ++ [4]) ++ [5]) ++ [6])).length) cap36)]) hC hB rfl rfl rfl sz22 rfl rfl rfl (by simp [Mark.cells, Stand.cells]) rfl rfl ?_; intro w hC hB
 replace hB : Bxs G w w0.heap.size ([(b2, 24, [(.int .i64 2), (.slice A35 (((((((([] ++ [1]) ++ [2]) ++ [3]) ++ [4]) ++ [5]) ++ [6])).length) cap36)]), (b1, 24, [(.int .i64 0), (.slice none 0 0)])] ++ (Option.toList o37 ++ [])) := hB
 refine wlNil ?_
 refine wcOf ?_
 refine wcRegion ?_
 refine wlVal (opMove rfl) rfl ?_
 refine wlVal (OpVal.cast (v' := .int .i64 7) (opAdd rfl rfl) (congrArg (Value.int .i64) (by decide))) rfl ?_
 refine wlVal (opAssign rfl) rfl ?_
 refine wlRound ?_
 refine wrSucc ?_
 refine wcSeq (wcSeq (wcRegion ?_))
 refine wlVal (opMove rfl) rfl ?_
 refine wlVal (opMove rfl) rfl ?_
 refine wlVal (OpVal.cast (v' := .int .i64 6) (opMul rfl rfl) (congrArg (Value.int .i64) (by decide))) rfl ?_
 refine wlVal (OpVal.cast (v' := .int .i64 7) (opAdd rfl rfl) (congrArg (Value.int .i64) (by decide))) rfl ?_
 refine wlVal (opLeq rfl rfl) rfl ?_
 refine wlThen ?_
 refine wcCondT rfl ?_
 refine wcSkip ?_
 refine wcOf ?_
 refine wcSeq ?_
 refine wcBlock (wcRegion ?_)
 refine wlVal (opFieldAddr rfl fo24_1) rfl ?_
 refine wlVal (opLoadOne (v := (.slice A35 (((((((([] ++ [1]) ++ [2]) ++ [3]) ++ [4]) ++ [5]) ++ [6])).length) cap36)) rfl (hB.cell (i := 0) rfl rfl) one22) rfl ?_
 refine wlVal (opMove rfl) rfl ?_
 refine wlBuildSlice (α := Int) (ps := [(0, .tmp 16)]) (xs := [7]) (rows := [[(.int .i64 7)]]) elo22 rfl rfl hC hB rfl rfl rfl ⟨rfl, trivial⟩ rfl ?_; intro b39 G w hk hC hB hs40
 replace hO38 := hO38.mono hk.gle
 refine wlAppend (α := Int) (bl := [(b2, 24, [(.int .i64 2), (.slice A35 (((((((([] ++ [1]) ++ [2]) ++ [3]) ++ [4]) ++ [5]) ++ [6])).length) cap36)]), (b1, 24, [(.int .i64 0), (.slice none 0 0)])]) (o := o37) (r := []) elo22 hC hB rfl rfl hO38 hs40 (by simp) rfl rfl ?_; intro A41 cap42 o43 w hC hB hO44
 refine wlVal (opFieldAddr rfl fo24_1) rfl ?_
 refine wlStore 0 (vs := [(.slice A41 ((((((((([] ++ [1]) ++ [2]) ++ [3]) ++ [4]) ++ [5]) ++ [6]) ++ [7])).length) cap42)]) (cs := [(.int .i64 2), (.slice A35 (((((((([] ++ [1]) ++ [2]) ++ [3]) ++ [4]) ++ [5]) ++ [6])).length) cap36)]) (cs' := [(.int .i64 2), (.slice A41 ((((((((([] ++ [1]) ++ [2]) ++ [3]) ++ [4]) ++ [5]) ++ [6]) ++ [7])).length) cap42)]) hC hB rfl rfl rfl sz22 rfl rfl rfl (by simp [Mark.cells, Stand.cells]) rfl rfl ?_; intro w hC hB
 replace hB : Bxs G w w0.heap.size ([(b2, 24, [(.int .i64 2), (.slice A41 ((((((((([] ++ [1]) ++ [2]) ++ [3]) ++ [4]) ++ [5]) ++ [6]) ++ [7])).length) cap42)]), (b1, 24, [(.int .i64 0), (.slice none 0 0)])] ++ (Option.toList o43 ++ [])) := hB
 refine wlNil ?_
 refine wcOf ?_
 refine wcRegion ?_
 refine wlVal (opMove rfl) rfl ?_
 refine wlVal (OpVal.cast (v' := .int .i64 8) (opAdd rfl rfl) (congrArg (Value.int .i64) (by decide))) rfl ?_
 refine wlVal (opAssign rfl) rfl ?_
 refine wlRound ?_
 refine wrSucc ?_
 refine wcSeq (wcSeq (wcRegion ?_))
 refine wlVal (opMove rfl) rfl ?_
 refine wlVal (opMove rfl) rfl ?_
 refine wlVal (OpVal.cast (v' := .int .i64 6) (opMul rfl rfl) (congrArg (Value.int .i64) (by decide))) rfl ?_
 refine wlVal (OpVal.cast (v' := .int .i64 7) (opAdd rfl rfl) (congrArg (Value.int .i64) (by decide))) rfl ?_
 refine wlVal (opLeq rfl rfl) rfl ?_
 refine wlThen ?_
 refine wcCondF rfl ?_
 refine wcExit ?_
 refine wcOf ?_
 refine wcSeq (wcRegion ?_)
 refine wlVal (opLoadRow (cs := [(.int .i64 2), (.slice A41 ((((((((([] ++ [1]) ++ [2]) ++ [3]) ++ [4]) ++ [5]) ++ [6]) ++ [7])).length) cap42)]) rfl (hB.range (i := 0) (m := 2) rfl rfl) row24 rfl) rfl ?_
 refine wlStore 1 (vs := [(.int .i64 2), (.slice A41 ((((((((([] ++ [1]) ++ [2]) ++ [3]) ++ [4]) ++ [5]) ++ [6]) ++ [7])).length) cap42)]) (cs := [(.int .i64 0), (.slice none 0 0)]) (cs' := [(.int .i64 2), (.slice A41 ((((((((([] ++ [1]) ++ [2]) ++ [3]) ++ [4]) ++ [5]) ++ [6]) ++ [7])).length) cap42)]) hC hB rfl rfl rfl sz24 rfl rfl rfl (by simp [Mark.cells, Stand.cells]) rfl rfl ?_; intro w hC hB
 replace hB : Bxs G w w0.heap.size ([(b2, 24, [(.int .i64 2), (.slice A41 ((((((((([] ++ [1]) ++ [2]) ++ [3]) ++ [4]) ++ [5]) ++ [6]) ++ [7])).length) cap42)]), (b1, 24, [(.int .i64 2), (.slice A41 ((((((((([] ++ [1]) ++ [2]) ++ [3]) ++ [4]) ++ [5]) ++ [6]) ++ [7])).length) cap42)])] ++ (Option.toList o43 ++ [])) := hB
 refine wlThen ?_
 refine wcRet ?_
 obtain ⟨G, hg46, hC, hB, hs45⟩ := Ow.freeze' (bl := [(b2, 24, [(.int .i64 2), (.slice A41 ((((((((([] ++ [1]) ++ [2]) ++ [3]) ++ [4]) ++ [5]) ++ [6]) ++ [7])).length) cap42)]), (b1, 24, [(.int .i64 2), (.slice A41 ((((((((([] ++ [1]) ++ [2]) ++ [3]) ++ [4]) ++ [5]) ++ [6]) ++ [7])).length) cap42)])]) (r := []) hO44 hC (Nat.le_refl _) hB (by simp [maxL])
 exact fun ac_ ha => hQ _ _ _ (results1 ha rfl ⟨_, _, [(.int .i64 2), (.slice A41 ((((((((([] ++ [1]) ++ [2]) ++ [3]) ++ [4]) ++ [5]) ++ [6]) ++ [7])).length) cap42)], rfl, row24, rfl, hB.range (i := 1) (m := 2) rfl rfl, rfl⟩) ha.df (endG hC ⟨_, rfl, (Crew.mkIs (x := (Crew.mk 2 (((((((([] ++ [1]) ++ [2]) ++ [3]) ++ [4]) ++ [5]) ++ [6]) ++ [7])))) hs45)⟩)

end Go.Proofs.Ytbhkoipmojdkhaa
