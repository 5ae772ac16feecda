/- What functions of the marks seat return, part 2. No condition. -/
import Derived.Test.YtbmanooiphghmaaMkG1
set_option linter.all false
namespace Go.Proofs.Ytbmanooiphghmaa
open Go Go.Gx Go.RowKit
theorem zero24 : (Try.prog.info? 24).bind (fun i => i.zero.map Value.cells) = some ([(.int .i64 0), (.slice none 0 0)] : List Value).toArray := by kernel_rfl
theorem so24 : structOk Try.prog 24 [(0, 1), (1, 1)] = true := by kernel_rfl
theorem sz24 : (Try.prog.info? 24).map (·.size) = some 2 := by kernel_rfl
theorem elo22 : elemOk Try.prog 22 3 1 8 = true := by kernel_rfl
theorem sz22 : (Try.prog.info? 22).map (·.size) = some 1 := by kernel_rfl
theorem zero28 : (Try.prog.info? 28).bind (fun i => i.zero.map Value.cells) = some (((.int .i64 0) :: (Dig.zero.cells ++ [])) : List Value).toArray := by kernel_rfl
theorem zero26 : (Try.prog.info? 26).bind (fun i => i.zero.map Value.cells) = some (Dig.zero.cells : List Value).toArray := by kernel_rfl
theorem so28 : structOk Try.prog 28 [(0, 1), (1, 32)] = true := by kernel_rfl
theorem sz28 : (Try.prog.info? 28).map (·.size) = some 33 := by kernel_rfl
theorem fo28_0 : fieldOk Try.prog 28 0 0 = true := by kernel_rfl
theorem co36 : callOk Try.prog 36 = true := by kernel_rfl
theorem crewOf1_ret (G0 : Gh) (w0 : World) (hw : Holds G0 w0)  :
    RetG Try.prog 26 #[.int .i64 1] G0 w0 (fun G v => ∃ c0, v = (.agg c0.toArray) ∧ Rp.Is G c0 ((crewI 1))) := by
  have hC := Cx.refl hw
  have hB : Bxs G0 w0 w0.heap.size [] := Bxs.nil _ _ _
  refine callsOf Try.func26 rfl _ Try.ntmps26 rfl _ (argsCons argsNil (t := 0) rfl) ?_; intro Q0 hQ
  refine wcSeq ?_
  refine wcRegion ?_
  refine wlAlloc hC hB zero24 rfl ?_; intro b1 w hk hC hB
  refine wlThen ?_
  refine wcSeq ?_
  refine wcRegion ?_
  refine wlVal (opMove rfl) rfl ?_
  refine wlVal (opBuild (ps := [(0, .tmp 5)]) (cs := [(.int .i64 1), (.slice none 0 0)]) so24 zero24 rfl rfl (by first | (simp [buildCells, Value.cells]; done) | simp [buildCells, Value.cells, Mark.cells, Do.cells, Word.cells])) rfl ?_
  refine wlAlloc hC hB zero24 rfl ?_; intro b2 w hk hC hB
  refine wlStore 0 (vs := [(.int .i64 1), (.slice none 0 0)]) (cs := [(.int .i64 0), (.slice none 0 0)]) (cs' := [(.int .i64 1), (.slice none 0 0)]) hC hB rfl rfl rfl sz24 rfl rfl rfl (by simp [Mark.cells, Do.cells, Word.cells]) rfl rfl ?_; intro w hC hB
  refine wlThen ?_
  refine wcSeq ?_
  refine wcSeq ?_
  refine wcRegion ?_
  refine wlVal (opAssign rfl) rfl ?_
  refine wlThen ?_
  refine wcBlock ?_
  refine wcLoop 5 ?_
  refine wrSucc ?_
  refine wcSeq ?_
  refine wcSeq ?_
  refine wcRegion ?_
  refine wlVal (opMove rfl) rfl ?_
  refine wlVal (opMove rfl) rfl ?_
  refine wlVal (OpVal.cast (v' := .int .i64 3) (opMul rfl rfl) (congrArg (Value.int .i64) (by decide))) rfl ?_
  refine wlVal (OpVal.cast (v' := .int .i64 4) (opAdd rfl rfl) (congrArg (Value.int .i64) (by decide))) rfl ?_
  refine wlVal (opLeq rfl rfl) rfl ?_
  refine wlThen ?_
  refine wcCondT rfl ?_
  refine wcSkip ?_
  refine wcOf ?_
  refine wcSeq ?_
  refine wcBlock ?_
  refine wcRegion ?_
  refine wlVal (opFieldAddr rfl fo24_1) rfl ?_
  refine wlVal (opLoadOne (v := (.slice none 0 0)) rfl (hB.cell (i := 0) rfl rfl) one22) rfl ?_
  refine wlVal (opMove rfl) rfl ?_
  refine wlBuildSlice (α := Int) (ps := [(0, .tmp 16)]) (xs := [1]) (rows := [[(.int .i64 1)]]) elo22 rfl rfl hC hB rfl rfl rfl ⟨rfl, trivial⟩ rfl ?_; intro b3 G w hk hC hB hs4
  refine wlAppend (α := Int) (bl := [(b2, 24, [(.int .i64 1), (.slice none 0 0)]), (b1, 24, [(.int .i64 0), (.slice none 0 0)])]) (o := none) (r := []) elo22 hC hB rfl rfl (Ow.nil_ _ 3) hs4 (by simp) rfl rfl ?_; intro A5 cap6 o7 w hC hB hO8
  refine wlVal (opFieldAddr rfl fo24_1) rfl ?_
  refine wlStore 0 (vs := [(.slice A5 ((([] ++ [1])).length) cap6)]) (cs := [(.int .i64 1), (.slice none 0 0)]) (cs' := [(.int .i64 1), (.slice A5 ((([] ++ [1])).length) cap6)]) hC hB rfl rfl rfl sz22 rfl rfl rfl (by simp [Mark.cells, Do.cells, Word.cells]) rfl rfl ?_; intro w hC hB
  replace hB : Bxs G w w0.heap.size ([(b2, 24, [(.int .i64 1), (.slice A5 ((([] ++ [1])).length) cap6)]), (b1, 24, [(.int .i64 0), (.slice none 0 0)])] ++ (Option.toList o7 ++ [])) := hB
  refine wlNil ?_
  refine wcOf ?_
  refine wcRegion ?_
  refine wlVal (opMove rfl) rfl ?_
  refine wlVal (OpVal.cast (v' := .int .i64 2) (opAdd rfl rfl) (congrArg (Value.int .i64) (by decide))) rfl ?_
  refine wlVal (opAssign rfl) rfl ?_
  refine wlRound ?_
  refine wrSucc ?_
  refine wcSeq ?_
  refine wcSeq ?_
  refine wcRegion ?_
  refine wlVal (opMove rfl) rfl ?_
  refine wlVal (opMove rfl) rfl ?_
  refine wlVal (OpVal.cast (v' := .int .i64 3) (opMul rfl rfl) (congrArg (Value.int .i64) (by decide))) rfl ?_
  refine wlVal (OpVal.cast (v' := .int .i64 4) (opAdd rfl rfl) (congrArg (Value.int .i64) (by decide))) rfl ?_
  refine wlVal (opLeq rfl rfl) rfl ?_
  refine wlThen ?_
  refine wcCondT rfl ?_
  refine wcSkip ?_
  refine wcOf ?_
  refine wcSeq ?_
  refine wcBlock ?_
  refine wcRegion ?_
  refine wlVal (opFieldAddr rfl fo24_1) rfl ?_
  refine wlVal (opLoadOne (v := (.slice A5 ((([] ++ [1])).length) cap6)) rfl (hB.cell (i := 0) rfl rfl) one22) rfl ?_
  refine wlVal (opMove rfl) rfl ?_
  refine wlBuildSlice (α := Int) (ps := [(0, .tmp 16)]) (xs := [2]) (rows := [[(.int .i64 2)]]) elo22 rfl rfl hC hB rfl rfl rfl ⟨rfl, trivial⟩ rfl ?_; intro b9 G w hk hC hB hs10
  replace hs4 := hs4.mono hk.gle; replace hO8 := hO8.mono hk.gle
  refine wlAppend (α := Int) (bl := [(b2, 24, [(.int .i64 1), (.slice A5 ((([] ++ [1])).length) cap6)]), (b1, 24, [(.int .i64 0), (.slice none 0 0)])]) (o := o7) (r := []) elo22 hC hB rfl rfl hO8 hs10 (by simp) rfl rfl ?_; intro A11 cap12 o13 w hC hB hO14
  refine wlVal (opFieldAddr rfl fo24_1) rfl ?_
  refine wlStore 0 (vs := [(.slice A11 (((([] ++ [1]) ++ [2])).length) cap12)]) (cs := [(.int .i64 1), (.slice A5 ((([] ++ [1])).length) cap6)]) (cs' := [(.int .i64 1), (.slice A11 (((([] ++ [1]) ++ [2])).length) cap12)]) hC hB rfl rfl rfl sz22 rfl rfl rfl (by simp [Mark.cells, Do.cells, Word.cells]) rfl rfl ?_; intro w hC hB
  replace hB : Bxs G w w0.heap.size ([(b2, 24, [(.int .i64 1), (.slice A11 (((([] ++ [1]) ++ [2])).length) cap12)]), (b1, 24, [(.int .i64 0), (.slice none 0 0)])] ++ (Option.toList o13 ++ [])) := hB
  refine wlNil ?_
  refine wcOf ?_
  refine wcRegion ?_
  refine wlVal (opMove rfl) rfl ?_
  refine wlVal (OpVal.cast (v' := .int .i64 3) (opAdd rfl rfl) (congrArg (Value.int .i64) (by decide))) rfl ?_
  refine wlVal (opAssign rfl) rfl ?_
  refine wlRound ?_
  refine wrSucc ?_
  refine wcSeq ?_
  refine wcSeq ?_
  refine wcRegion ?_
  refine wlVal (opMove rfl) rfl ?_
  refine wlVal (opMove rfl) rfl ?_
  refine wlVal (OpVal.cast (v' := .int .i64 3) (opMul rfl rfl) (congrArg (Value.int .i64) (by decide))) rfl ?_
  refine wlVal (OpVal.cast (v' := .int .i64 4) (opAdd rfl rfl) (congrArg (Value.int .i64) (by decide))) rfl ?_
  refine wlVal (opLeq rfl rfl) rfl ?_
  refine wlThen ?_
  refine wcCondT rfl ?_
  refine wcSkip ?_
  refine wcOf ?_
  refine wcSeq ?_
  refine wcBlock ?_
  refine wcRegion ?_
  refine wlVal (opFieldAddr rfl fo24_1) rfl ?_
  refine wlVal (opLoadOne (v := (.slice A11 (((([] ++ [1]) ++ [2])).length) cap12)) rfl (hB.cell (i := 0) rfl rfl) one22) rfl ?_
  refine wlVal (opMove rfl) rfl ?_
  refine wlBuildSlice (α := Int) (ps := [(0, .tmp 16)]) (xs := [3]) (rows := [[(.int .i64 3)]]) elo22 rfl rfl hC hB rfl rfl rfl ⟨rfl, trivial⟩ rfl ?_; intro b15 G w hk hC hB hs16
  replace hs4 := hs4.mono hk.gle; replace hs10 := hs10.mono hk.gle; replace hO14 := hO14.mono hk.gle
  refine wlAppend (α := Int) (bl := [(b2, 24, [(.int .i64 1), (.slice A11 (((([] ++ [1]) ++ [2])).length) cap12)]), (b1, 24, [(.int .i64 0), (.slice none 0 0)])]) (o := o13) (r := []) elo22 hC hB rfl rfl hO14 hs16 (by simp) rfl rfl ?_; intro A17 cap18 o19 w hC hB hO20
  refine wlVal (opFieldAddr rfl fo24_1) rfl ?_
  refine wlStore 0 (vs := [(.slice A17 ((((([] ++ [1]) ++ [2]) ++ [3])).length) cap18)]) (cs := [(.int .i64 1), (.slice A11 (((([] ++ [1]) ++ [2])).length) cap12)]) (cs' := [(.int .i64 1), (.slice A17 ((((([] ++ [1]) ++ [2]) ++ [3])).length) cap18)]) hC hB rfl rfl rfl sz22 rfl rfl rfl (by simp [Mark.cells, Do.cells, Word.cells]) rfl rfl ?_; intro w hC hB
  replace hB : Bxs G w w0.heap.size ([(b2, 24, [(.int .i64 1), (.slice A17 ((((([] ++ [1]) ++ [2]) ++ [3])).length) cap18)]), (b1, 24, [(.int .i64 0), (.slice none 0 0)])] ++ (Option.toList o19 ++ [])) := hB
  refine wlNil ?_
  refine wcOf ?_
  refine wcRegion ?_
  refine wlVal (opMove rfl) rfl ?_
  refine wlVal (OpVal.cast (v' := .int .i64 4) (opAdd rfl rfl) (congrArg (Value.int .i64) (by decide))) rfl ?_
  refine wlVal (opAssign rfl) rfl ?_
  refine wlRound ?_
  refine wrSucc ?_
  refine wcSeq ?_
  refine wcSeq ?_
  refine wcRegion ?_
  refine wlVal (opMove rfl) rfl ?_
  refine wlVal (opMove rfl) rfl ?_
  refine wlVal (OpVal.cast (v' := .int .i64 3) (opMul rfl rfl) (congrArg (Value.int .i64) (by decide))) rfl ?_
  refine wlVal (OpVal.cast (v' := .int .i64 4) (opAdd rfl rfl) (congrArg (Value.int .i64) (by decide))) rfl ?_
  refine wlVal (opLeq rfl rfl) rfl ?_
  refine wlThen ?_
  refine wcCondT rfl ?_
  refine wcSkip ?_
  refine wcOf ?_
  refine wcSeq ?_
  refine wcBlock ?_
  refine wcRegion ?_
  refine wlVal (opFieldAddr rfl fo24_1) rfl ?_
  refine wlVal (opLoadOne (v := (.slice A17 ((((([] ++ [1]) ++ [2]) ++ [3])).length) cap18)) rfl (hB.cell (i := 0) rfl rfl) one22) rfl ?_
  refine wlVal (opMove rfl) rfl ?_
  refine wlBuildSlice (α := Int) (ps := [(0, .tmp 16)]) (xs := [4]) (rows := [[(.int .i64 4)]]) elo22 rfl rfl hC hB rfl rfl rfl ⟨rfl, trivial⟩ rfl ?_; intro b21 G w hk hC hB hs22
  replace hs4 := hs4.mono hk.gle; replace hs10 := hs10.mono hk.gle; replace hs16 := hs16.mono hk.gle; replace hO20 := hO20.mono hk.gle
  refine wlAppend (α := Int) (bl := [(b2, 24, [(.int .i64 1), (.slice A17 ((((([] ++ [1]) ++ [2]) ++ [3])).length) cap18)]), (b1, 24, [(.int .i64 0), (.slice none 0 0)])]) (o := o19) (r := []) elo22 hC hB rfl rfl hO20 hs22 (by simp) rfl rfl ?_; intro A23 cap24 o25 w hC hB hO26
  refine wlVal (opFieldAddr rfl fo24_1) rfl ?_
  refine wlStore 0 (vs := [(.slice A23 (((((([] ++ [1]) ++ [2]) ++ [3]) ++ [4])).length) cap24)]) (cs := [(.int .i64 1), (.slice A17 ((((([] ++ [1]) ++ [2]) ++ [3])).length) cap18)]) (cs' := [(.int .i64 1), (.slice A23 (((((([] ++ [1]) ++ [2]) ++ [3]) ++ [4])).length) cap24)]) hC hB rfl rfl rfl sz22 rfl rfl rfl (by simp [Mark.cells, Do.cells, Word.cells]) rfl rfl ?_; intro w hC hB
  replace hB : Bxs G w w0.heap.size ([(b2, 24, [(.int .i64 1), (.slice A23 (((((([] ++ [1]) ++ [2]) ++ [3]) ++ [4])).length) cap24)]), (b1, 24, [(.int .i64 0), (.slice none 0 0)])] ++ (Option.toList o25 ++ [])) := hB
  refine wlNil ?_
  refine wcOf ?_
  refine wcRegion ?_
  refine wlVal (opMove rfl) rfl ?_
  refine wlVal (OpVal.cast (v' := .int .i64 5) (opAdd rfl rfl) (congrArg (Value.int .i64) (by decide))) rfl ?_
  refine wlVal (opAssign rfl) rfl ?_
  refine wlRound ?_
  refine wrSucc ?_
  refine wcSeq ?_
  refine wcSeq ?_
  refine wcRegion ?_
  refine wlVal (opMove rfl) rfl ?_
  refine wlVal (opMove rfl) rfl ?_
  refine wlVal (OpVal.cast (v' := .int .i64 3) (opMul rfl rfl) (congrArg (Value.int .i64) (by decide))) rfl ?_
  refine wlVal (OpVal.cast (v' := .int .i64 4) (opAdd rfl rfl) (congrArg (Value.int .i64) (by decide))) rfl ?_
  refine wlVal (opLeq rfl rfl) rfl ?_
  refine wlThen ?_
  refine wcCondF rfl ?_
  refine wcExit ?_
  refine wcOf ?_
  refine wcSeq ?_
  refine wcRegion ?_
  refine wlVal (opLoadRow (cs := [(.int .i64 1), (.slice A23 (((((([] ++ [1]) ++ [2]) ++ [3]) ++ [4])).length) cap24)]) rfl (hB.range (i := 0) (m := 2) rfl rfl) row24 rfl) rfl ?_
  refine wlStore 1 (vs := [(.int .i64 1), (.slice A23 (((((([] ++ [1]) ++ [2]) ++ [3]) ++ [4])).length) cap24)]) (cs := [(.int .i64 0), (.slice none 0 0)]) (cs' := [(.int .i64 1), (.slice A23 (((((([] ++ [1]) ++ [2]) ++ [3]) ++ [4])).length) cap24)]) hC hB rfl rfl rfl sz24 rfl rfl rfl (by simp [Mark.cells, Do.cells, Word.cells]) rfl rfl ?_; intro w hC hB
  replace hB : Bxs G w w0.heap.size ([(b2, 24, [(.int .i64 1), (.slice A23 (((((([] ++ [1]) ++ [2]) ++ [3]) ++ [4])).length) cap24)]), (b1, 24, [(.int .i64 1), (.slice A23 (((((([] ++ [1]) ++ [2]) ++ [3]) ++ [4])).length) cap24)])] ++ (Option.toList o25 ++ [])) := hB
  refine wlThen ?_
  refine wcRet ?_
  obtain ⟨G, hg28, hC, hB, hs27⟩ := Ow.freeze' (bl := [(b2, 24, [(.int .i64 1), (.slice A23 (((((([] ++ [1]) ++ [2]) ++ [3]) ++ [4])).length) cap24)]), (b1, 24, [(.int .i64 1), (.slice A23 (((((([] ++ [1]) ++ [2]) ++ [3]) ++ [4])).length) cap24)])]) (r := []) hO26 hC (Nat.le_refl _) hB (by simp [maxL])
  replace hs4 := hs4.mono hg28; replace hs10 := hs10.mono hg28; replace hs16 := hs16.mono hg28; replace hs22 := hs22.mono hg28
  exact fun ac_ ha => hQ _ _ _ (results1 ha rfl ⟨_, _, [(.int .i64 1), (.slice A23 (((((([] ++ [1]) ++ [2]) ++ [3]) ++ [4])).length) cap24)], rfl, row24, rfl, hB.range (i := 1) (m := 2) rfl rfl, rfl⟩) ha.df (endG hC ⟨_, rfl, (Crew.mkIs (x := (Crew.mk 1 ((((([] ++ [1]) ++ [2]) ++ [3]) ++ [4])))) hs27)⟩)

set_option maxRecDepth 4000 in
theorem crewOf2_ret (G0 : Gh) (w0 : World) (hw : Holds G0 w0)  :
    RetG Try.prog 26 #[.int .i64 2] G0 w0 (fun G v => ∃ c0, v = (.agg c0.toArray) ∧ Rp.Is G c0 ((crewI 2))) := by
  have hC := Cx.refl hw
  have hB : Bxs G0 w0 w0.heap.size [] := Bxs.nil _ _ _
  refine callsOf Try.func26 rfl _ Try.ntmps26 rfl _ (argsCons argsNil (t := 0) rfl) ?_; intro Q0 hQ
  refine wcSeq ?_
  refine wcRegion ?_
  refine wlAlloc hC hB zero24 rfl ?_; intro b1 w hk hC hB
  refine wlThen ?_
  refine wcSeq ?_
  refine wcRegion ?_
  refine wlVal (opMove rfl) rfl ?_
  refine wlVal (opBuild (ps := [(0, .tmp 5)]) (cs := [(.int .i64 2), (.slice none 0 0)]) so24 zero24 rfl rfl (by first | (simp [buildCells, Value.cells]; done) | simp [buildCells, Value.cells, Mark.cells, Do.cells, Word.cells])) rfl ?_
  refine wlAlloc hC hB zero24 rfl ?_; intro b2 w hk hC hB
  refine wlStore 0 (vs := [(.int .i64 2), (.slice none 0 0)]) (cs := [(.int .i64 0), (.slice none 0 0)]) (cs' := [(.int .i64 2), (.slice none 0 0)]) hC hB rfl rfl rfl sz24 rfl rfl rfl (by simp [Mark.cells, Do.cells, Word.cells]) rfl rfl ?_; intro w hC hB
  refine wlThen ?_
  refine wcSeq ?_
  refine wcSeq ?_
  refine wcRegion ?_
  refine wlVal (opAssign rfl) rfl ?_
  refine wlThen ?_
  refine wcBlock ?_
  refine wcLoop 8 ?_
  refine wrSucc ?_
  refine wcSeq ?_
  refine wcSeq ?_
  refine wcRegion ?_
  refine wlVal (opMove rfl) rfl ?_
  refine wlVal (opMove rfl) rfl ?_
  refine wlVal (OpVal.cast (v' := .int .i64 6) (opMul rfl rfl) (congrArg (Value.int .i64) (by decide))) rfl ?_
  refine wlVal (OpVal.cast (v' := .int .i64 7) (opAdd rfl rfl) (congrArg (Value.int .i64) (by decide))) rfl ?_
  refine wlVal (opLeq rfl rfl) rfl ?_
  refine wlThen ?_
  refine wcCondT rfl ?_
  refine wcSkip ?_
  refine wcOf ?_
  refine wcSeq ?_
  refine wcBlock ?_
  refine wcRegion ?_
  refine wlVal (opFieldAddr rfl fo24_1) rfl ?_
  refine wlVal (opLoadOne (v := (.slice none 0 0)) rfl (hB.cell (i := 0) rfl rfl) one22) rfl ?_
  refine wlVal (opMove rfl) rfl ?_
  refine wlBuildSlice (α := Int) (ps := [(0, .tmp 16)]) (xs := [1]) (rows := [[(.int .i64 1)]]) elo22 rfl rfl hC hB rfl rfl rfl ⟨rfl, trivial⟩ rfl ?_; intro b3 G w hk hC hB hs4
  refine wlAppend (α := Int) (bl := [(b2, 24, [(.int .i64 2), (.slice none 0 0)]), (b1, 24, [(.int .i64 0), (.slice none 0 0)])]) (o := none) (r := []) elo22 hC hB rfl rfl (Ow.nil_ _ 3) hs4 (by simp) rfl rfl ?_; intro A5 cap6 o7 w hC hB hO8
  refine wlVal (opFieldAddr rfl fo24_1) rfl ?_
  refine wlStore 0 (vs := [(.slice A5 ((([] ++ [1])).length) cap6)]) (cs := [(.int .i64 2), (.slice none 0 0)]) (cs' := [(.int .i64 2), (.slice A5 ((([] ++ [1])).length) cap6)]) hC hB rfl rfl rfl sz22 rfl rfl rfl (by simp [Mark.cells, Do.cells, Word.cells]) rfl rfl ?_; intro w hC hB
  replace hB : Bxs G w w0.heap.size ([(b2, 24, [(.int .i64 2), (.slice A5 ((([] ++ [1])).length) cap6)]), (b1, 24, [(.int .i64 0), (.slice none 0 0)])] ++ (Option.toList o7 ++ [])) := hB
  refine wlNil ?_
  refine wcOf ?_
  refine wcRegion ?_
  refine wlVal (opMove rfl) rfl ?_
  refine wlVal (OpVal.cast (v' := .int .i64 2) (opAdd rfl rfl) (congrArg (Value.int .i64) (by decide))) rfl ?_
  refine wlVal (opAssign rfl) rfl ?_
  refine wlRound ?_
  refine wrSucc ?_
  refine wcSeq ?_
  refine wcSeq ?_
  refine wcRegion ?_
  refine wlVal (opMove rfl) rfl ?_
  refine wlVal (opMove rfl) rfl ?_
  refine wlVal (OpVal.cast (v' := .int .i64 6) (opMul rfl rfl) (congrArg (Value.int .i64) (by decide))) rfl ?_
  refine wlVal (OpVal.cast (v' := .int .i64 7) (opAdd rfl rfl) (congrArg (Value.int .i64) (by decide))) rfl ?_
  refine wlVal (opLeq rfl rfl) rfl ?_
  refine wlThen ?_
  refine wcCondT rfl ?_
  refine wcSkip ?_
  refine wcOf ?_
  refine wcSeq ?_
  refine wcBlock ?_
  refine wcRegion ?_
  refine wlVal (opFieldAddr rfl fo24_1) rfl ?_
  refine wlVal (opLoadOne (v := (.slice A5 ((([] ++ [1])).length) cap6)) rfl (hB.cell (i := 0) rfl rfl) one22) rfl ?_
  refine wlVal (opMove rfl) rfl ?_
  refine wlBuildSlice (α := Int) (ps := [(0, .tmp 16)]) (xs := [2]) (rows := [[(.int .i64 2)]]) elo22 rfl rfl hC hB rfl rfl rfl ⟨rfl, trivial⟩ rfl ?_; intro b9 G w hk hC hB hs10
  replace hs4 := hs4.mono hk.gle; replace hO8 := hO8.mono hk.gle
  refine wlAppend (α := Int) (bl := [(b2, 24, [(.int .i64 2), (.slice A5 ((([] ++ [1])).length) cap6)]), (b1, 24, [(.int .i64 0), (.slice none 0 0)])]) (o := o7) (r := []) elo22 hC hB rfl rfl hO8 hs10 (by simp) rfl rfl ?_; intro A11 cap12 o13 w hC hB hO14
  refine wlVal (opFieldAddr rfl fo24_1) rfl ?_
  refine wlStore 0 (vs := [(.slice A11 (((([] ++ [1]) ++ [2])).length) cap12)]) (cs := [(.int .i64 2), (.slice A5 ((([] ++ [1])).length) cap6)]) (cs' := [(.int .i64 2), (.slice A11 (((([] ++ [1]) ++ [2])).length) cap12)]) hC hB rfl rfl rfl sz22 rfl rfl rfl (by simp [Mark.cells, Do.cells, Word.cells]) rfl rfl ?_; intro w hC hB
  replace hB : Bxs G w w0.heap.size ([(b2, 24, [(.int .i64 2), (.slice A11 (((([] ++ [1]) ++ [2])).length) cap12)]), (b1, 24, [(.int .i64 0), (.slice none 0 0)])] ++ (Option.toList o13 ++ [])) := hB
  refine wlNil ?_
  refine wcOf ?_
  refine wcRegion ?_
  refine wlVal (opMove rfl) rfl ?_
  refine wlVal (OpVal.cast (v' := .int .i64 3) (opAdd rfl rfl) (congrArg (Value.int .i64) (by decide))) rfl ?_
  refine wlVal (opAssign rfl) rfl ?_
  refine wlRound ?_
  refine wrSucc ?_
  refine wcSeq ?_
  refine wcSeq ?_
  refine wcRegion ?_
  refine wlVal (opMove rfl) rfl ?_
  refine wlVal (opMove rfl) rfl ?_
  refine wlVal (OpVal.cast (v' := .int .i64 6) (opMul rfl rfl) (congrArg (Value.int .i64) (by decide))) rfl ?_
  refine wlVal (OpVal.cast (v' := .int .i64 7) (opAdd rfl rfl) (congrArg (Value.int .i64) (by decide))) rfl ?_
  refine wlVal (opLeq rfl rfl) rfl ?_
  refine wlThen ?_
  refine wcCondT rfl ?_
  refine wcSkip ?_
  refine wcOf ?_
  refine wcSeq ?_
  refine wcBlock ?_
  refine wcRegion ?_
  refine wlVal (opFieldAddr rfl fo24_1) rfl ?_
  refine wlVal (opLoadOne (v := (.slice A11 (((([] ++ [1]) ++ [2])).length) cap12)) rfl (hB.cell (i := 0) rfl rfl) one22) rfl ?_
  refine wlVal (opMove rfl) rfl ?_
  refine wlBuildSlice (α := Int) (ps := [(0, .tmp 16)]) (xs := [3]) (rows := [[(.int .i64 3)]]) elo22 rfl rfl hC hB rfl rfl rfl ⟨rfl, trivial⟩ rfl ?_; intro b15 G w hk hC hB hs16
  replace hs4 := hs4.mono hk.gle; replace hs10 := hs10.mono hk.gle; replace hO14 := hO14.mono hk.gle
  refine wlAppend (α := Int) (bl := [(b2, 24, [(.int .i64 2), (.slice A11 (((([] ++ [1]) ++ [2])).length) cap12)]), (b1, 24, [(.int .i64 0), (.slice none 0 0)])]) (o := o13) (r := []) elo22 hC hB rfl rfl hO14 hs16 (by simp) rfl rfl ?_; intro A17 cap18 o19 w hC hB hO20
  refine wlVal (opFieldAddr rfl fo24_1) rfl ?_
  refine wlStore 0 (vs := [(.slice A17 ((((([] ++ [1]) ++ [2]) ++ [3])).length) cap18)]) (cs := [(.int .i64 2), (.slice A11 (((([] ++ [1]) ++ [2])).length) cap12)]) (cs' := [(.int .i64 2), (.slice A17 ((((([] ++ [1]) ++ [2]) ++ [3])).length) cap18)]) hC hB rfl rfl rfl sz22 rfl rfl rfl (by simp [Mark.cells, Do.cells, Word.cells]) rfl rfl ?_; intro w hC hB
  replace hB : Bxs G w w0.heap.size ([(b2, 24, [(.int .i64 2), (.slice A17 ((((([] ++ [1]) ++ [2]) ++ [3])).length) cap18)]), (b1, 24, [(.int .i64 0), (.slice none 0 0)])] ++ (Option.toList o19 ++ [])) := hB
  refine wlNil ?_
  refine wcOf ?_
  refine wcRegion ?_
  refine wlVal (opMove rfl) rfl ?_
  refine wlVal (OpVal.cast (v' := .int .i64 4) (opAdd rfl rfl) (congrArg (Value.int .i64) (by decide))) rfl ?_
  refine wlVal (opAssign rfl) rfl ?_
  refine wlRound ?_
  refine wrSucc ?_
  refine wcSeq ?_
  refine wcSeq ?_
  refine wcRegion ?_
  refine wlVal (opMove rfl) rfl ?_
  refine wlVal (opMove rfl) rfl ?_
  refine wlVal (OpVal.cast (v' := .int .i64 6) (opMul rfl rfl) (congrArg (Value.int .i64) (by decide))) rfl ?_
  refine wlVal (OpVal.cast (v' := .int .i64 7) (opAdd rfl rfl) (congrArg (Value.int .i64) (by decide))) rfl ?_
  refine wlVal (opLeq rfl rfl) rfl ?_
  refine wlThen ?_
  refine wcCondT rfl ?_
  refine wcSkip ?_
  refine wcOf ?_
  refine wcSeq ?_
  refine wcBlock ?_
  refine wcRegion ?_
  refine wlVal (opFieldAddr rfl fo24_1) rfl ?_
  refine wlVal (opLoadOne (v := (.slice A17 ((((([] ++ [1]) ++ [2]) ++ [3])).length) cap18)) rfl (hB.cell (i := 0) rfl rfl) one22) rfl ?_
  refine wlVal (opMove rfl) rfl ?_
  refine wlBuildSlice (α := Int) (ps := [(0, .tmp 16)]) (xs := [4]) (rows := [[(.int .i64 4)]]) elo22 rfl rfl hC hB rfl rfl rfl ⟨rfl, trivial⟩ rfl ?_; intro b21 G w hk hC hB hs22
  replace hs4 := hs4.mono hk.gle; replace hs10 := hs10.mono hk.gle; replace hs16 := hs16.mono hk.gle; replace hO20 := hO20.mono hk.gle
  refine wlAppend (α := Int) (bl := [(b2, 24, [(.int .i64 2), (.slice A17 ((((([] ++ [1]) ++ [2]) ++ [3])).length) cap18)]), (b1, 24, [(.int .i64 0), (.slice none 0 0)])]) (o := o19) (r := []) elo22 hC hB rfl rfl hO20 hs22 (by simp) rfl rfl ?_; intro A23 cap24 o25 w hC hB hO26
  refine wlVal (opFieldAddr rfl fo24_1) rfl ?_
  refine wlStore 0 (vs := [(.slice A23 (((((([] ++ [1]) ++ [2]) ++ [3]) ++ [4])).length) cap24)]) (cs := [(.int .i64 2), (.slice A17 ((((([] ++ [1]) ++ [2]) ++ [3])).length) cap18)]) (cs' := [(.int .i64 2), (.slice A23 (((((([] ++ [1]) ++ [2]) ++ [3]) ++ [4])).length) cap24)]) hC hB rfl rfl rfl sz22 rfl rfl rfl (by simp [Mark.cells, Do.cells, Word.cells]) rfl rfl ?_; intro w hC hB
  replace hB : Bxs G w w0.heap.size ([(b2, 24, [(.int .i64 2), (.slice A23 (((((([] ++ [1]) ++ [2]) ++ [3]) ++ [4])).length) cap24)]), (b1, 24, [(.int .i64 0), (.slice none 0 0)])] ++ (Option.toList o25 ++ [])) := hB
  refine wlNil ?_
  refine wcOf ?_
  refine wcRegion ?_
  refine wlVal (opMove rfl) rfl ?_
  refine wlVal (OpVal.cast (v' := .int .i64 5) (opAdd rfl rfl) (congrArg (Value.int .i64) (by decide))) rfl ?_
  refine wlVal (opAssign rfl) rfl ?_
  refine wlRound ?_
  refine wrSucc ?_
  refine wcSeq ?_
  refine wcSeq ?_
  refine wcRegion ?_
  refine wlVal (opMove rfl) rfl ?_
  refine wlVal (opMove rfl) rfl ?_
  refine wlVal (OpVal.cast (v' := .int .i64 6) (opMul rfl rfl) (congrArg (Value.int .i64) (by decide))) rfl ?_
  refine wlVal (OpVal.cast (v' := .int .i64 7) (opAdd rfl rfl) (congrArg (Value.int .i64) (by decide))) rfl ?_
  refine wlVal (opLeq rfl rfl) rfl ?_
  refine wlThen ?_
  refine wcCondT rfl ?_
  refine wcSkip ?_
  refine wcOf ?_
  refine wcSeq ?_
  refine wcBlock ?_
  refine wcRegion ?_
  refine wlVal (opFieldAddr rfl fo24_1) rfl ?_
  refine wlVal (opLoadOne (v := (.slice A23 (((((([] ++ [1]) ++ [2]) ++ [3]) ++ [4])).length) cap24)) rfl (hB.cell (i := 0) rfl rfl) one22) rfl ?_
  refine wlVal (opMove rfl) rfl ?_
  refine wlBuildSlice (α := Int) (ps := [(0, .tmp 16)]) (xs := [5]) (rows := [[(.int .i64 5)]]) elo22 rfl rfl hC hB rfl rfl rfl ⟨rfl, trivial⟩ rfl ?_; intro b27 G w hk hC hB hs28
  replace hs4 := hs4.mono hk.gle; replace hs10 := hs10.mono hk.gle; replace hs16 := hs16.mono hk.gle; replace hs22 := hs22.mono hk.gle; replace hO26 := hO26.mono hk.gle
  refine wlAppend (α := Int) (bl := [(b2, 24, [(.int .i64 2), (.slice A23 (((((([] ++ [1]) ++ [2]) ++ [3]) ++ [4])).length) cap24)]), (b1, 24, [(.int .i64 0), (.slice none 0 0)])]) (o := o25) (r := []) elo22 hC hB rfl rfl hO26 hs28 (by simp) rfl rfl ?_; intro A29 cap30 o31 w hC hB hO32
  refine wlVal (opFieldAddr rfl fo24_1) rfl ?_
  refine wlStore 0 (vs := [(.slice A29 ((((((([] ++ [1]) ++ [2]) ++ [3]) ++ [4]) ++ [5])).length) cap30)]) (cs := [(.int .i64 2), (.slice A23 (((((([] ++ [1]) ++ [2]) ++ [3]) ++ [4])).length) cap24)]) (cs' := [(.int .i64 2), (.slice A29 ((((((([] ++ [1]) ++ [2]) ++ [3]) ++ [4]) ++ [5])).length) cap30)]) hC hB rfl rfl rfl sz22 rfl rfl rfl (by simp [Mark.cells, Do.cells, Word.cells]) rfl rfl ?_; intro w hC hB
  replace hB : Bxs G w w0.heap.size ([(b2, 24, [(.int .i64 2), (.slice A29 ((((((([] ++ [1]) ++ [2]) ++ [3]) ++ [4]) ++ [5])).length) cap30)]), (b1, 24, [(.int .i64 0), (.slice none 0 0)])] ++ (Option.toList o31 ++ [])) := hB
  refine wlNil ?_
  refine wcOf ?_
  refine wcRegion ?_
  refine wlVal (opMove rfl) rfl ?_
  refine wlVal (OpVal.cast (v' := .int .i64 6) (opAdd rfl rfl) (congrArg (Value.int .i64) (by decide))) rfl ?_
  refine wlVal (opAssign rfl) rfl ?_
  refine wlRound ?_
  refine wrSucc ?_
  refine wcSeq ?_
  refine wcSeq ?_
  refine wcRegion ?_
  refine wlVal (opMove rfl) rfl ?_
  refine wlVal (opMove rfl) rfl ?_
  refine wlVal (OpVal.cast (v' := .int .i64 6) (opMul rfl rfl) (congrArg (Value.int .i64) (by decide))) rfl ?_
  refine wlVal (OpVal.cast (v' := .int .i64 7) (opAdd rfl rfl) (congrArg (Value.int .i64) (by decide))) rfl ?_
  refine wlVal (opLeq rfl rfl) rfl ?_
  refine wlThen ?_
  refine wcCondT rfl ?_
  refine wcSkip ?_
  refine wcOf ?_
  refine wcSeq ?_
  refine wcBlock ?_
  refine wcRegion ?_
  refine wlVal (opFieldAddr rfl fo24_1) rfl ?_
  refine wlVal (opLoadOne (v := (.slice A29 ((((((([] ++ [1]) ++ [2]) ++ [3]) ++ [4]) ++ [5])).length) cap30)) rfl (hB.cell (i := 0) rfl rfl) one22) rfl ?_
  refine wlVal (opMove rfl) rfl ?_
  refine wlBuildSlice (α := Int) (ps := [(0, .tmp 16)]) (xs := [6]) (rows := [[(.int .i64 6)]]) elo22 rfl rfl hC hB rfl rfl rfl ⟨rfl, trivial⟩ rfl ?_; intro b33 G w hk hC hB hs34
  replace hs4 := hs4.mono hk.gle; replace hs10 := hs10.mono hk.gle; replace hs16 := hs16.mono hk.gle; replace hs22 := hs22.mono hk.gle; replace hs28 := hs28.mono hk.gle; replace hO32 := hO32.mono hk.gle
  refine wlAppend (α := Int) (bl := [(b2, 24, [(.int .i64 2), (.slice A29 ((((((([] ++ [1]) ++ [2]) ++ [3]) ++ [4]) ++ [5])).length) cap30)]), (b1, 24, [(.int .i64 0), (.slice none 0 0)])]) (o := o31) (r := []) elo22 hC hB rfl rfl hO32 hs34 (by simp) rfl rfl ?_; intro A35 cap36 o37 w hC hB hO38
  refine wlVal (opFieldAddr rfl fo24_1) rfl ?_
  refine wlStore 0 (vs := [(.slice A35 (((((((([] ++ [1]) ++ [2]) ++ [3]) ++ [4]) ++ [5]) ++ [6])).length) cap36)]) (cs := [(.int .i64 2), (.slice A29 ((((((([] ++ [1]) ++ [2]) ++ [3]) ++ [4]) ++ [5])).length) cap30)]) (cs' := [(.int .i64 2), (.slice A35 (((((((([] ++ [1]) ++ [2]) ++ [3]) ++ [4]) ++ [5]) ++ [6])).length) cap36)]) hC hB rfl rfl rfl sz22 rfl rfl rfl (by simp [Mark.cells, Do.cells, Word.cells]) rfl rfl ?_; intro w hC hB
  replace hB : Bxs G w w0.heap.size ([(b2, 24, [(.int .i64 2), (.slice A35 (((((((([] ++ [1]) ++ [2]) ++ [3]) ++ [4]) ++ [5]) ++ [6])).length) cap36)]), (b1, 24, [(.int .i64 0), (.slice none 0 0)])] ++ (Option.toList o37 ++ [])) := hB
  refine wlNil ?_
  refine wcOf ?_
  refine wcRegion ?_
  refine wlVal (opMove rfl) rfl ?_
  refine wlVal (OpVal.cast (v' := .int .i64 7) (opAdd rfl rfl) (congrArg (Value.int .i64) (by decide))) rfl ?_
  refine wlVal (opAssign rfl) rfl ?_
  refine wlRound ?_
  refine wrSucc ?_
  refine wcSeq ?_
  refine wcSeq ?_
  refine wcRegion ?_
  refine wlVal (opMove rfl) rfl ?_
  refine wlVal (opMove rfl) rfl ?_
  refine wlVal (OpVal.cast (v' := .int .i64 6) (opMul rfl rfl) (congrArg (Value.int .i64) (by decide))) rfl ?_
  refine wlVal (OpVal.cast (v' := .int .i64 7) (opAdd rfl rfl) (congrArg (Value.int .i64) (by decide))) rfl ?_
  refine wlVal (opLeq rfl rfl) rfl ?_
  refine wlThen ?_
  refine wcCondT rfl ?_
  refine wcSkip ?_
  refine wcOf ?_
  refine wcSeq ?_
  refine wcBlock ?_
  refine wcRegion ?_
  refine wlVal (opFieldAddr rfl fo24_1) rfl ?_
  refine wlVal (opLoadOne (v := (.slice A35 (((((((([] ++ [1]) ++ [2]) ++ [3]) ++ [4]) ++ [5]) ++ [6])).length) cap36)) rfl (hB.cell (i := 0) rfl rfl) one22) rfl ?_
  refine wlVal (opMove rfl) rfl ?_
  refine wlBuildSlice (α := Int) (ps := [(0, .tmp 16)]) (xs := [7]) (rows := [[(.int .i64 7)]]) elo22 rfl rfl hC hB rfl rfl rfl ⟨rfl, trivial⟩ rfl ?_; intro b39 G w hk hC hB hs40
  replace hs4 := hs4.mono hk.gle; replace hs10 := hs10.mono hk.gle; replace hs16 := hs16.mono hk.gle; replace hs22 := hs22.mono hk.gle; replace hs28 := hs28.mono hk.gle; replace hs34 := hs34.mono hk.gle; replace hO38 := hO38.mono hk.gle
  refine wlAppend (α := Int) (bl := [(b2, 24, [(.int .i64 2), (.slice A35 (((((((([] ++ [1]) ++ [2]) ++ [3]) ++ [4]) ++ [5]) ++ [6])).length) cap36)]), (b1, 24, [(.int .i64 0), (.slice none 0 0)])]) (o := o37) (r := []) elo22 hC hB rfl rfl hO38 hs40 (by simp) rfl rfl ?_; intro A41 cap42 o43 w hC hB hO44
  refine wlVal (opFieldAddr rfl fo24_1) rfl ?_
  refine wlStore 0 (vs := [(.slice A41 ((((((((([] ++ [1]) ++ [2]) ++ [3]) ++ [4]) ++ [5]) ++ [6]) ++ [7])).length) cap42)]) (cs := [(.int .i64 2), (.slice A35 (((((((([] ++ [1]) ++ [2]) ++ [3]) ++ [4]) ++ [5]) ++ [6])).length) cap36)]) (cs' := [(.int .i64 2), (.slice A41 ((((((((([] ++ [1]) ++ [2]) ++ [3]) ++ [4]) ++ [5]) ++ [6]) ++ [7])).length) cap42)]) hC hB rfl rfl rfl sz22 rfl rfl rfl (by simp [Mark.cells, Do.cells, Word.cells]) rfl rfl ?_; intro w hC hB
  replace hB : Bxs G w w0.heap.size ([(b2, 24, [(.int .i64 2), (.slice A41 ((((((((([] ++ [1]) ++ [2]) ++ [3]) ++ [4]) ++ [5]) ++ [6]) ++ [7])).length) cap42)]), (b1, 24, [(.int .i64 0), (.slice none 0 0)])] ++ (Option.toList o43 ++ [])) := hB
  refine wlNil ?_
  refine wcOf ?_
  refine wcRegion ?_
  refine wlVal (opMove rfl) rfl ?_
  refine wlVal (OpVal.cast (v' := .int .i64 8) (opAdd rfl rfl) (congrArg (Value.int .i64) (by decide))) rfl ?_
  refine wlVal (opAssign rfl) rfl ?_
  refine wlRound ?_
  refine wrSucc ?_
  refine wcSeq ?_
  refine wcSeq ?_
  refine wcRegion ?_
  refine wlVal (opMove rfl) rfl ?_
  refine wlVal (opMove rfl) rfl ?_
  refine wlVal (OpVal.cast (v' := .int .i64 6) (opMul rfl rfl) (congrArg (Value.int .i64) (by decide))) rfl ?_
  refine wlVal (OpVal.cast (v' := .int .i64 7) (opAdd rfl rfl) (congrArg (Value.int .i64) (by decide))) rfl ?_
  refine wlVal (opLeq rfl rfl) rfl ?_
  refine wlThen ?_
  refine wcCondF rfl ?_
  refine wcExit ?_
  refine wcOf ?_
  refine wcSeq ?_
  refine wcRegion ?_
  refine wlVal (opLoadRow (cs := [(.int .i64 2), (.slice A41 ((((((((([] ++ [1]) ++ [2]) ++ [3]) ++ [4]) ++ [5]) ++ [6]) ++ [7])).length) cap42)]) rfl (hB.range (i := 0) (m := 2) rfl rfl) row24 rfl) rfl ?_
  refine wlStore 1 (vs := [(.int .i64 2), (.slice A41 ((((((((([] ++ [1]) ++ [2]) ++ [3]) ++ [4]) ++ [5]) ++ [6]) ++ [7])).length) cap42)]) (cs := [(.int .i64 0), (.slice none 0 0)]) (cs' := [(.int .i64 2), (.slice A41 ((((((((([] ++ [1]) ++ [2]) ++ [3]) ++ [4]) ++ [5]) ++ [6]) ++ [7])).length) cap42)]) hC hB rfl rfl rfl sz24 rfl rfl rfl (by simp [Mark.cells, Do.cells, Word.cells]) rfl rfl ?_; intro w hC hB
  replace hB : Bxs G w w0.heap.size ([(b2, 24, [(.int .i64 2), (.slice A41 ((((((((([] ++ [1]) ++ [2]) ++ [3]) ++ [4]) ++ [5]) ++ [6]) ++ [7])).length) cap42)]), (b1, 24, [(.int .i64 2), (.slice A41 ((((((((([] ++ [1]) ++ [2]) ++ [3]) ++ [4]) ++ [5]) ++ [6]) ++ [7])).length) cap42)])] ++ (Option.toList o43 ++ [])) := hB
  refine wlThen ?_
  refine wcRet ?_
  obtain ⟨G, hg46, hC, hB, hs45⟩ := Ow.freeze' (bl := [(b2, 24, [(.int .i64 2), (.slice A41 ((((((((([] ++ [1]) ++ [2]) ++ [3]) ++ [4]) ++ [5]) ++ [6]) ++ [7])).length) cap42)]), (b1, 24, [(.int .i64 2), (.slice A41 ((((((((([] ++ [1]) ++ [2]) ++ [3]) ++ [4]) ++ [5]) ++ [6]) ++ [7])).length) cap42)])]) (r := []) hO44 hC (Nat.le_refl _) hB (by simp [maxL])
  replace hs4 := hs4.mono hg46; replace hs10 := hs10.mono hg46; replace hs16 := hs16.mono hg46; replace hs22 := hs22.mono hg46; replace hs28 := hs28.mono hg46; replace hs34 := hs34.mono hg46; replace hs40 := hs40.mono hg46
  exact fun ac_ ha => hQ _ _ _ (results1 ha rfl ⟨_, _, [(.int .i64 2), (.slice A41 ((((((((([] ++ [1]) ++ [2]) ++ [3]) ++ [4]) ++ [5]) ++ [6]) ++ [7])).length) cap42)], rfl, row24, rfl, hB.range (i := 1) (m := 2) rfl rfl, rfl⟩) ha.df (endG hC ⟨_, rfl, (Crew.mkIs (x := (Crew.mk 2 (((((((([] ++ [1]) ++ [2]) ++ [3]) ++ [4]) ++ [5]) ++ [6]) ++ [7])))) hs45)⟩)

theorem bring_ret (G0 : Gh) (w0 : World) (hw : Holds G0 w0) (n : Int) (m : Int) :
    RetS Try.prog 11 #[.int .i64 n, .int .i64 m] G0 w0 (.int .i64 ((bringI n m))) := by
  have hC := Cx.refl hw
  have hB : Bxs G0 w0 w0.heap.size [] := Bxs.nil _ _ _
  refine callsOf Try.func11 rfl _ Try.ntmps11 rfl _ (argsCons (argsCons argsNil (t := 0) rfl) (t := 1) rfl) ?_; intro Q0 hQ
  refine wcSeq ?_
  refine wcRegion ?_
  refine wlVal (opAssign rfl) rfl ?_
  refine wlThen ?_
  refine wcSeq ?_
  refine wcSeq ?_
  refine wcRegion ?_
  refine wlVal (opMove rfl) rfl ?_
  refine wlVal (opLeq rfl rfl) rfl ?_
  refine wlThen ?_
  cases h1 : decide (m ≤ 0)
  · skip
    refine wcCondF rfl ?_
    refine wcSkip ?_
    refine wcOf ?_
    refine wcSeq ?_
    refine wcRegion ?_
    refine wlVal (opMove rfl) rfl ?_
    refine wlVal (opMove rfl) rfl ?_
    refine wlVal (opRem rfl rfl (by have := of_decide_eq_false h1; omega)) rfl ?_
    refine wlVal (opAssign rfl) rfl ?_
    refine wlThen ?_
    refine wcSeq ?_
    refine wcSeq ?_
    refine wcRegion ?_
    refine wlVal (opMove rfl) rfl ?_
    refine wlVal (opLss rfl rfl) rfl ?_
    refine wlThen ?_
    cases h2 : decide ((Int.tmod n m) < 0)
    · skip
      refine wcCondF rfl ?_
      refine wcSkip ?_
      refine wcOf ?_
      refine wcSeq ?_
      refine wcRegion ?_
      refine wlVal (opMove rfl) rfl ?_
      refine wlVal (opAssign rfl) rfl ?_
      refine wlThen ?_
      refine wcRet ?_
      exact fun ac_ ha => hQ _ _ _ (results1 ha rfl rfl) ha.df (endS hC hw (by simp only [bringI, h1, h2, cond_true, cond_false]))
    · skip
      refine wcCondT rfl ?_
      refine wcRegion ?_
      refine wlVal (opMove rfl) rfl ?_
      refine wlVal (opMove rfl) rfl ?_
      refine wlVal (opAdd rfl rfl) rfl ?_
      refine wlVal (opAssign rfl) rfl ?_
      refine wlThen ?_
      refine wcSeq ?_
      refine wcRegion ?_
      refine wlVal (opMove rfl) rfl ?_
      refine wlVal (opAssign rfl) rfl ?_
      refine wlThen ?_
      refine wcRet ?_
      exact fun ac_ ha => hQ _ _ _ (results1 ha rfl rfl) ha.df (endS hC hw (by simp only [bringI, h1, h2, cond_true, cond_false]))
  · skip
    refine wcCondT rfl ?_
    refine wcSeq ?_
    refine wcRegion ?_
    refine wlVal (opAssign rfl) rfl ?_
    refine wlThen ?_
    refine wcRet ?_
    exact fun ac_ ha => hQ _ _ _ (results1 ha rfl rfl) ha.df (endS hC hw (by simp only [bringI, h1, cond_true, cond_false]))

theorem may_ret (G0 : Gh) (w0 : World) (hw : Holds G0 w0) (n : Int) :
    RetS Try.prog 28 #[.int .i64 n] G0 w0 (.bool (mayB n)) := by
  have hC := Cx.refl hw
  have hB : Bxs G0 w0 w0.heap.size [] := Bxs.nil _ _ _
  refine callsOf Try.func28 rfl _ Try.ntmps28 rfl _ (argsCons argsNil (t := 0) rfl) ?_; intro Q0 hQ
  refine wcSeq ?_
  refine wcRegion ?_
  refine wlVal (opAssign rfl) rfl ?_
  refine wlThen ?_
  refine wcSeq ?_
  refine wcRegion ?_
  refine wlVal (opMove rfl) rfl ?_
  refine wlVal (opLeq rfl rfl) rfl ?_
  refine wlVal (opMove rfl) rfl ?_
  cases h1 : decide (0 ≤ n)
  · skip
    refine wlOff rfl rfl rfl rfl ?_
    refine wlOff rfl rfl rfl rfl ?_
    refine wlVal (opPickF rfl rfl) rfl ?_
    refine wlVal (opAssign rfl) rfl ?_
    refine wlThen ?_
    refine wcRet ?_
    exact fun ac_ ha => hQ _ _ _ (results1 ha rfl rfl) ha.df (endS hC hw (by simp [mayB, h1]))
  · skip
    refine wlOn rfl rfl ?_
    refine wlVal (opMove rfl) rfl ?_
    refine wlOn rfl rfl ?_
    refine wlVal (opLeq rfl rfl) rfl ?_
    refine wlVal (opPickT rfl rfl) rfl ?_
    refine wlVal (opAssign rfl) rfl ?_
    refine wlThen ?_
    refine wcRet ?_
    exact fun ac_ ha => hQ _ _ _ (results1 ha rfl rfl) ha.df (endS hC hw (by simp [mayB, h1]))

theorem rmay_ret (G0 : Gh) (w0 : World) (hw : Holds G0 w0) (n : Int) :
    RetS Try.prog 31 #[.int .i64 n] G0 w0 (.bool (mayB n)) := by
  have hC := Cx.refl hw
  have hB : Bxs G0 w0 w0.heap.size [] := Bxs.nil _ _ _
  refine callsOf Try.func31 rfl _ Try.ntmps31 rfl _ (argsCons argsNil (t := 0) rfl) ?_; intro Q0 hQ
  refine wcSeq ?_
  refine wcRegion ?_
  refine wlVal (opAssign rfl) rfl ?_
  refine wlThen ?_
  refine wcSeq ?_
  refine wcRegion ?_
  refine wlVal (opMove rfl) rfl ?_
  refine wlVal (opGeq rfl rfl) rfl ?_
  refine wlVal (opMove rfl) rfl ?_
  cases h1 : decide (0 ≤ n)
  · skip
    refine wlOff rfl rfl rfl rfl ?_
    refine wlOff rfl rfl rfl rfl ?_
    refine wlVal (opPickF rfl rfl) rfl ?_
    refine wlVal (opAssign rfl) rfl ?_
    refine wlThen ?_
    refine wcRet ?_
    exact fun ac_ ha => hQ _ _ _ (results1 ha rfl rfl) ha.df (endS hC hw (by simp [mayB, h1]))
  · skip
    refine wlOn rfl rfl ?_
    refine wlVal (opMove rfl) rfl ?_
    refine wlOn rfl rfl ?_
    refine wlVal (opLeq rfl rfl) rfl ?_
    refine wlVal (opPickT rfl rfl) rfl ?_
    refine wlVal (opAssign rfl) rfl ?_
    refine wlThen ?_
    refine wcRet ?_
    exact fun ac_ ha => hQ _ _ _ (results1 ha rfl rfl) ha.df (endS hC hw (by simp [mayB, h1]))

theorem mark_ret (G0 : Gh) (w0 : World) (hw : Holds G0 w0) (sq : Int) (b : UInt8) :
    RetS Try.prog 19 #[.int .i64 sq, .int .u8 (b.toNat : Int)] G0 w0 (.agg ((markI sq b)).cells.toArray) := by
  have hC := Cx.refl hw
  have hB : Bxs G0 w0 w0.heap.size [] := Bxs.nil _ _ _
  refine callsOf Try.func19 rfl _ Try.ntmps19 rfl _ (argsCons (argsCons argsNil (t := 0) rfl) (t := 1) rfl) ?_; intro Q0 hQ
  refine wcSeq ?_
  refine wcRegion ?_
  refine wlAlloc hC hB zero28 rfl ?_; intro b1 w hk hC hB
  refine wlThen ?_
  refine wcSeq ?_
  refine wcRegion ?_
  refine wlVal (opMove rfl) rfl ?_
  refine wlVal (opMove rfl) rfl ?_
  refine wlVal (opBuildArr (ps := [(0, .tmp 6), (1, .const (.int .u8 7))]) (cs := ((dig7 b)).cells) ar26 zero26 rfl rfl (by first | rfl | simp [buildA, Value.cells])) rfl ?_
  refine wlVal (opBuild (ps := [(0, .tmp 5), (1, .tmp 7)]) (cs := ((.int .i64 sq) :: (((dig7 b)).cells ++ []))) so28 zero28 rfl rfl (by first | (simp [buildCells, Value.cells]; done) | simp [buildCells, Value.cells, Mark.cells, Do.cells, Word.cells])) rfl ?_
  refine wlStore 0 (vs := ((.int .i64 sq) :: (((dig7 b)).cells ++ []))) (cs := ((.int .i64 0) :: (Dig.zero.cells ++ []))) (cs' := ((.int .i64 sq) :: (((dig7 b)).cells ++ []))) hC hB rfl rfl rfl sz28 rfl (by simp [Mark.cells, Do.cells, Word.cells]) (by simp [Mark.cells, Do.cells, Word.cells, Value.oneCell']) (by simp [Mark.cells, Do.cells, Word.cells]) (by simp [Mark.cells, Do.cells, Word.cells]) rfl ?_; intro w hC hB
  refine wlThen ?_
  refine wcRet ?_
  exact fun ac_ ha => hQ _ _ _ (results1 ha rfl ⟨_, _, ((.int .i64 sq) :: (((dig7 b)).cells ++ [])), rfl, row28, (by simp [Mark.cells, Do.cells, Word.cells]), hB.range (i := 0) (m := 33) rfl (by simp [Mark.cells, Do.cells, Word.cells]), rfl⟩) ha.df (endS hC hw rfl)

theorem is_ret (G0 : Gh) (w0 : World) (hw : Holds G0 w0) (x : Mark) (ok : Bool) (want : Mark) :
    RetS Try.prog 25 #[.agg x.cells.toArray, .bool ok, .agg want.cells.toArray] G0 w0 (.bool ((ok && decide (x = want)))) := by
  have hC := Cx.refl hw
  have hB : Bxs G0 w0 w0.heap.size [] := Bxs.nil _ _ _
  refine callsOf Try.func25 rfl _ Try.ntmps25 rfl _ (argsCons (argsCons (argsCons argsNil (t := 0) rfl) (t := 1) rfl) (t := 2) rfl) ?_; intro Q0 hQ
  refine wcSeq ?_
  refine wcRegion ?_
  refine wlBox (cs := x.cells) hC hB rfl rfl rfl ?_; intro b1 w hk hC hB
  refine wlBox (cs := want.cells) hC hB rfl rfl rfl ?_; intro b2 w hk hC hB
  refine wlVal (opAssign rfl) rfl ?_
  refine wlThen ?_
  refine wcSeq ?_
  refine wcRegion ?_
  refine wlVal (opMove rfl) rfl ?_
  refine wlVal (opMove rfl) rfl ?_
  cases h3 : ok
  · skip
    refine wlOff rfl rfl rfl rfl ?_
    refine wlOff rfl rfl rfl rfl ?_
    refine wlOff rfl rfl rfl rfl ?_
    refine wlVal (opPickF rfl rfl) rfl ?_
    refine wlVal (opAssign rfl) rfl ?_
    refine wlThen ?_
    refine wcRet ?_
    exact fun ac_ ha => hQ _ _ _ (results1 ha rfl rfl) ha.df (endS hC hw (by simp [h3]))
  · skip
    refine wlOn rfl rfl ?_
    refine wlVal (opLoadRow (cs := x.cells) rfl (hB.range (i := 1) (m := 33) rfl (by simp [Mark.cells, Do.cells, Word.cells])) row28 (by simp [Mark.cells, Do.cells, Word.cells])) rfl ?_
    refine wlOn rfl rfl ?_
    refine wlVal (opLoadRow (cs := want.cells) rfl (hB.range (i := 0) (m := 33) rfl (by simp [Mark.cells, Do.cells, Word.cells])) row28 (by simp [Mark.cells, Do.cells, Word.cells])) rfl ?_
    refine wlOn rfl rfl ?_
    refine wlVal (opEqRow (eq28 _ x want) eg28 rfl rfl) rfl ?_
    refine wlVal (opPickT rfl rfl) rfl ?_
    refine wlVal (opAssign rfl) rfl ?_
    refine wlThen ?_
    refine wcRet ?_
    exact fun ac_ ha => hQ _ _ _ (results1 ha rfl rfl) ha.df (endS hC hw (by simp [h3]))

theorem vote1_ret (G0 : Gh) (w0 : World) (hw : Holds G0 w0) (a : Mark) (sq : Int) :
    RetS Try.prog 35 #[.agg a.cells.toArray, .int .i64 sq] G0 w0 (.int .i64 (cmpI a.seq sq)) := by
  have hC := Cx.refl hw
  have hB : Bxs G0 w0 w0.heap.size [] := Bxs.nil _ _ _
  refine callsOf Try.func35 rfl _ Try.ntmps35 rfl _ (argsCons (argsCons argsNil (t := 0) rfl) (t := 1) rfl) ?_; intro Q0 hQ
  refine wcSeq ?_
  refine wcRegion ?_
  refine wlBox (cs := a.cells) hC hB rfl rfl rfl ?_; intro b1 w hk hC hB
  refine wlVal (opAssign rfl) rfl ?_
  refine wlThen ?_
  refine wcSeq ?_
  refine wcRegion ?_
  refine wlVal (opFieldAddr rfl fo28_0) rfl ?_
  refine wlVal (opLoadOne (v := (.int .i64 a.seq)) rfl (hB.cell (i := 0) rfl (by simp [Mark.cells, Do.cells, Word.cells])) one3) rfl ?_
  refine wlVal (opMove rfl) rfl ?_
  refine wlCallS hC hB rfl co36 rfl rfl (compare_ret _ _ hC.holds a.seq sq) ?_; intro w hk hC hB
  refine wlVal (opAssign rfl) rfl ?_
  refine wlThen ?_
  refine wcRet ?_
  exact fun ac_ ha => hQ _ _ _ (results1 ha rfl rfl) ha.df (endS hC hw rfl)

theorem raise1_ret (G0 : Gh) (w0 : World) (hw : Holds G0 w0) (a : Mark) (bx : Nat) (x : Mark) (hx : RowG G0 bx 0 x.cells) :
    RetS Try.prog 41 #[.agg a.cells.toArray, .pointer (some ⟨bx, 0, none⟩)] G0 w0 (.bool (decide (a.seq ≤ x.seq))) := by
  have hC := Cx.refl hw
  have hB : Bxs G0 w0 w0.heap.size [] := Bxs.nil _ _ _
  refine callsOf Try.func41 rfl _ Try.ntmps41 rfl _ (argsCons (argsCons argsNil (t := 0) rfl) (t := 1) rfl) ?_; intro Q0 hQ
  refine wcSeq ?_
  refine wcRegion ?_
  refine wlBox (cs := a.cells) hC hB rfl rfl rfl ?_; intro b1 w hk hC hB
  refine wlVal (opAssign rfl) rfl ?_
  refine wlThen ?_
  refine wcSeq ?_
  refine wcRegion ?_
  refine wlVal (opFieldAddr rfl fo28_0) rfl ?_
  refine wlVal (opLoadOne (v := (.int .i64 a.seq)) rfl (hB.cell (i := 0) rfl (by simp [Mark.cells, Do.cells, Word.cells])) one3) rfl ?_
  refine wlVal (opFieldAddr rfl fo28_0) rfl ?_
  refine wlVal (opLoadOne (v := (.int .i64 x.seq)) rfl (RowG.cell hC.holds hx (j := 0) (by simp [Mark.cells, Do.cells, Word.cells])) one3) rfl ?_
  refine wlVal (opLeq rfl rfl) rfl ?_
  refine wlVal (opAssign rfl) rfl ?_
  refine wlThen ?_
  refine wcRet ?_
  exact fun ac_ ha => hQ _ _ _ (results1 ha rfl rfl) ha.df (endS hC hw rfl)

end Go.Proofs.Ytbmanooiphghmaa
