/- What functions of the marks seat return, part 17. No condition. -/
import Derived.Test.YtbmanooiphghmaaMkG16
set_option linter.all false
namespace Go.Proofs.Ytbmanooiphghmaa
open Go Go.Gx Go.RowKit
theorem cl8_160 : (!(decide (((Mark.mk 0 Dig.zero)) = (Mark.mk 0 Dig.zero)))) = false := by kernel_rfl
theorem cl8_161 : ((((((([] : List Mark))).length : Nat) : Int)) != 0) = false := by kernel_rfl
theorem so39 : structOk Try.prog 39 [(0, 1), (1, 1), (2, 33)] = true := by kernel_rfl
theorem zero39 : (Try.prog.info? 39).bind (fun i => i.zero.map Value.cells) = some (((.int .i64 0) :: ((.int .i64 0) :: ((.int .i64 0) :: (Dig.zero.cells ++ [])))) : List Value).toArray := by kernel_rfl
theorem elo29 : elemOk Try.prog 29 39 35 56 = true := by kernel_rfl
theorem co3 : callOk Try.prog 3 = true := by kernel_rfl
theorem noneN_ret (G0 : Gh) (w0 : World) (hw : Holds G0 w0)  :
    RetS Try.prog 32 #[.pointer none] G0 w0 (.bool true) := by
  have hC := Cx.refl hw
  have hB : Bxs G0 w0 w0.heap.size [] := Bxs.nil _ _ _
  refine callsOf Try.func32 rfl _ Try.ntmps32 rfl _ (argsCons argsNil (t := 0) rfl) ?_; intro Q0 hQ
  refine wcSeq ?_
  refine wcRegion ?_
  refine wlVal (opAssign rfl) rfl ?_
  refine wlThen ?_
  refine wcSeq ?_
  refine wcRegion ?_
  refine wlVal (opMove rfl) rfl ?_
  refine wlVal (OpVal.cast (v' := .bool true) (opPtrNil ip30 rfl rfl) rfl) rfl ?_
  refine wlVal (opMove rfl) rfl ?_
  refine wlOff rfl rfl rfl rfl ?_
  refine wlOff rfl rfl rfl rfl ?_
  refine wlOff rfl rfl rfl rfl ?_
  refine wlOff rfl rfl rfl rfl ?_
  refine wlOff rfl rfl rfl rfl ?_
  refine wlVal (opPickT rfl rfl) rfl ?_
  refine wlVal (opAssign rfl) rfl ?_
  refine wlThen ?_
  refine wcRet ?_
  exact fun ac_ ha => hQ _ _ _ (results1 ha rfl rfl) ha.df (endS hC hw rfl)

theorem noneZ_ret (G0 : Gh) (w0 : World) (hw : Holds G0 w0) (bm : Nat) (hzm : RowG G0 bm 0 ((.int .i64 0) :: ((.slice none 0 0) :: ((.int .i64 0) :: (Dig.zero.cells ++ ((.map none) :: [])))))) :
    RetS Try.prog 32 #[.pointer (some ⟨bm, 0, none⟩)] G0 w0 (.bool true) := by
  have hC := Cx.refl hw
  have hB : Bxs G0 w0 w0.heap.size [] := Bxs.nil _ _ _
  refine callsOf Try.func32 rfl _ Try.ntmps32 rfl _ (argsCons argsNil (t := 0) rfl) ?_; intro Q0 hQ
  refine wcSeq ?_
  refine wcRegion ?_
  refine wlVal (opAssign rfl) rfl ?_
  refine wlThen ?_
  refine wcSeq ?_
  refine wcRegion ?_
  refine wlVal (opMove rfl) rfl ?_
  refine wlVal (OpVal.cast (v' := .bool false) (opPtrNil ip30 rfl rfl) rfl) rfl ?_
  refine wlVal (opMove rfl) rfl ?_
  refine wlOn rfl rfl ?_
  refine wlVal (opMove rfl) rfl ?_
  refine wlOn rfl rfl ?_
  refine wlVal (opNilCheck rfl) rfl ?_
  refine wlOn rfl rfl ?_
  refine wlVal (opFieldAddr rfl fo64_2) rfl ?_
  refine wlOn rfl rfl ?_
  refine wlVal (opLoadOne (v := (.map none)) rfl (RowG.cell hC.holds hzm (j := 35) (by simp [Mark.cells, Do.cells, Word.cells])) one62) rfl ?_
  refine wlOn rfl rfl ?_
  refine wlVal (opMapNil mk62 rfl rfl) rfl ?_
  refine wlVal (opPickF rfl rfl) rfl ?_
  refine wlVal (opAssign rfl) rfl ?_
  refine wlThen ?_
  refine wcRet ?_
  exact fun ac_ ha => hQ _ _ _ (results1 ha rfl rfl) ha.df (endS hC hw rfl)

theorem lowN_ret (G0 : Gh) (w0 : World) (hw : Holds G0 w0)  :
    RetS Try.prog 23 #[.pointer none] G0 w0 (.agg ((Mark.mk 0 Dig.zero)).cells.toArray) := by
  have hC := Cx.refl hw
  have hB : Bxs G0 w0 w0.heap.size [] := Bxs.nil _ _ _
  refine callsOf Try.func23 rfl _ Try.ntmps23 rfl _ (argsCons argsNil (t := 0) rfl) ?_; intro Q0 hQ
  refine wcSeq ?_
  refine wcRegion ?_
  refine wlAlloc hC hB zero28 rfl ?_; intro b1 w hk hC hB
  refine wlThen ?_
  refine wcSeq ?_
  refine wcSeq ?_
  refine wcRegion ?_
  refine wlVal (opMove rfl) rfl ?_
  refine wlCallS hC hB rfl co32 rfl rfl (noneN_ret _ _ hC.holds ) ?_; intro w hk hC hB
  refine wlThen ?_
  refine wcCondT rfl ?_
  refine wcSeq ?_
  refine wcRegion ?_
  refine wlVal (opBuild (ps := []) (cs := ((.int .i64 0) :: (Dig.zero.cells ++ []))) so28 zero28 rfl rfl (by first | (simp [buildCells, Value.cells]; done) | simp [buildCells, Value.cells, Mark.cells, Do.cells, Word.cells])) rfl ?_
  refine wlStore 0 (vs := ((.int .i64 0) :: (Dig.zero.cells ++ []))) (cs := ((.int .i64 0) :: (Dig.zero.cells ++ []))) (cs' := ((.int .i64 0) :: (Dig.zero.cells ++ []))) hC hB rfl rfl rfl sz28 rfl (by simp [Mark.cells, Do.cells, Word.cells]) (by simp [Mark.cells, Do.cells, Word.cells, Value.oneCell']) (by simp [Mark.cells, Do.cells, Word.cells]) (by simp [Mark.cells, Do.cells, Word.cells]) rfl ?_; intro w hC hB
  refine wlThen ?_
  refine wcRet ?_
  exact fun ac_ ha => hQ _ _ _ (results1 ha rfl ⟨_, _, ((.int .i64 0) :: (Dig.zero.cells ++ [])), rfl, row28, (by simp [Mark.cells, Do.cells, Word.cells]), hB.range (i := 0) (m := 33) rfl (by simp [Mark.cells, Do.cells, Word.cells]), rfl⟩) ha.df (endS hC hw rfl)

theorem lowZ_ret (G0 : Gh) (w0 : World) (hw : Holds G0 w0) (bm : Nat) (hzm : RowG G0 bm 0 ((.int .i64 0) :: ((.slice none 0 0) :: ((.int .i64 0) :: (Dig.zero.cells ++ ((.map none) :: [])))))) :
    RetS Try.prog 23 #[.pointer (some ⟨bm, 0, none⟩)] G0 w0 (.agg ((Mark.mk 0 Dig.zero)).cells.toArray) := by
  have hC := Cx.refl hw
  have hB : Bxs G0 w0 w0.heap.size [] := Bxs.nil _ _ _
  refine callsOf Try.func23 rfl _ Try.ntmps23 rfl _ (argsCons argsNil (t := 0) rfl) ?_; intro Q0 hQ
  refine wcSeq ?_
  refine wcRegion ?_
  refine wlAlloc hC hB zero28 rfl ?_; intro b1 w hk hC hB
  refine wlThen ?_
  refine wcSeq ?_
  refine wcSeq ?_
  refine wcRegion ?_
  refine wlVal (opMove rfl) rfl ?_
  refine wlCallS hC hB rfl co32 rfl rfl (noneZ_ret _ _ hC.holds _ hzm) ?_; intro w hk hC hB
  refine wlThen ?_
  refine wcCondT rfl ?_
  refine wcSeq ?_
  refine wcRegion ?_
  refine wlVal (opBuild (ps := []) (cs := ((.int .i64 0) :: (Dig.zero.cells ++ []))) so28 zero28 rfl rfl (by first | (simp [buildCells, Value.cells]; done) | simp [buildCells, Value.cells, Mark.cells, Do.cells, Word.cells])) rfl ?_
  refine wlStore 0 (vs := ((.int .i64 0) :: (Dig.zero.cells ++ []))) (cs := ((.int .i64 0) :: (Dig.zero.cells ++ []))) (cs' := ((.int .i64 0) :: (Dig.zero.cells ++ []))) hC hB rfl rfl rfl sz28 rfl (by simp [Mark.cells, Do.cells, Word.cells]) (by simp [Mark.cells, Do.cells, Word.cells, Value.oneCell']) (by simp [Mark.cells, Do.cells, Word.cells]) (by simp [Mark.cells, Do.cells, Word.cells]) rfl ?_; intro w hC hB
  refine wlThen ?_
  refine wcRet ?_
  exact fun ac_ ha => hQ _ _ _ (results1 ha rfl ⟨_, _, ((.int .i64 0) :: (Dig.zero.cells ++ [])), rfl, row28, (by simp [Mark.cells, Do.cells, Word.cells]), hB.range (i := 0) (m := 33) rfl (by simp [Mark.cells, Do.cells, Word.cells]), rfl⟩) ha.df (endS hC hw rfl)

theorem voteN_ret (G0 : Gh) (w0 : World) (hw : Holds G0 w0) (n : Int) (x : Mark) :
    RetS Try.prog 12 #[.pointer none, .int .i64 n, .agg x.cells.toArray] G0 w0 (.int .i64 1) := by
  have hC := Cx.refl hw
  have hB : Bxs G0 w0 w0.heap.size [] := Bxs.nil _ _ _
  refine callsOf Try.func12 rfl _ Try.ntmps12 rfl _ (argsCons (argsCons (argsCons argsNil (t := 0) rfl) (t := 1) rfl) (t := 2) rfl) ?_; intro Q0 hQ
  refine wcSeq ?_
  refine wcRegion ?_
  refine wlBox (cs := x.cells) hC hB rfl rfl rfl ?_; intro b1 w hk hC hB
  refine wlVal (opAssign rfl) rfl ?_
  refine wlThen ?_
  refine wcSeq ?_
  refine wcBlock ?_
  refine wcSeq ?_
  refine wcRegion ?_
  refine wlVal (opMove rfl) rfl ?_
  refine wlCallS hC hB rfl co32 rfl rfl (noneN_ret _ _ hC.holds ) ?_; intro w hk hC hB
  refine wlVal (opAssign rfl) rfl ?_
  refine wlThen ?_
  refine wcCondT rfl ?_
  refine wcSeq ?_
  refine wcRegion ?_
  refine wlVal (opAssign rfl) rfl ?_
  refine wlThen ?_
  refine wcRet ?_
  exact fun ac_ ha => hQ _ _ _ (results1 ha rfl rfl) ha.df (endS hC hw rfl)

theorem voteZ_ret (G0 : Gh) (w0 : World) (hw : Holds G0 w0) (bm : Nat) (hzm : RowG G0 bm 0 ((.int .i64 0) :: ((.slice none 0 0) :: ((.int .i64 0) :: (Dig.zero.cells ++ ((.map none) :: [])))))) (n : Int) (x : Mark) :
    RetS Try.prog 12 #[.pointer (some ⟨bm, 0, none⟩), .int .i64 n, .agg x.cells.toArray] G0 w0 (.int .i64 1) := by
  have hC := Cx.refl hw
  have hB : Bxs G0 w0 w0.heap.size [] := Bxs.nil _ _ _
  refine callsOf Try.func12 rfl _ Try.ntmps12 rfl _ (argsCons (argsCons (argsCons argsNil (t := 0) rfl) (t := 1) rfl) (t := 2) rfl) ?_; intro Q0 hQ
  refine wcSeq ?_
  refine wcRegion ?_
  refine wlBox (cs := x.cells) hC hB rfl rfl rfl ?_; intro b1 w hk hC hB
  refine wlVal (opAssign rfl) rfl ?_
  refine wlThen ?_
  refine wcSeq ?_
  refine wcBlock ?_
  refine wcSeq ?_
  refine wcRegion ?_
  refine wlVal (opMove rfl) rfl ?_
  refine wlCallS hC hB rfl co32 rfl rfl (noneZ_ret _ _ hC.holds _ hzm) ?_; intro w hk hC hB
  refine wlVal (opAssign rfl) rfl ?_
  refine wlThen ?_
  refine wcCondT rfl ?_
  refine wcSeq ?_
  refine wcRegion ?_
  refine wlVal (opAssign rfl) rfl ?_
  refine wlThen ?_
  refine wcRet ?_
  exact fun ac_ ha => hQ _ _ _ (results1 ha rfl rfl) ha.df (endS hC hw rfl)

theorem ofN_ret (G0 : Gh) (w0 : World) (hw : Holds G0 w0) (n : Int) :
    RetO Try.prog 22 #[.pointer none, .int .i64 n] G0 w0 (fun G o v => ∃ A cap, v = (.slice A (([] : List Mark)).length cap) ∧ Ow G o 28 (.slice A (([] : List Mark)).length cap) (([] : List Mark))) := by
  have hC := Cx.refl hw
  have hB : Bxs G0 w0 w0.heap.size [] := Bxs.nil _ _ _
  refine callsOf Try.func22 rfl _ Try.ntmps22 rfl _ (argsCons (argsCons argsNil (t := 0) rfl) (t := 1) rfl) ?_; intro Q0 hQ
  refine wcSeq ?_
  refine wcRegion ?_
  refine wlVal (opAssign rfl) rfl ?_
  refine wlThen ?_
  refine wcSeq ?_
  refine wcSeq ?_
  refine wcRegion ?_
  refine wlVal (opMove rfl) rfl ?_
  refine wlCallS hC hB rfl co32 rfl rfl (noneN_ret _ _ hC.holds ) ?_; intro w hk hC hB
  refine wlThen ?_
  refine wcCondT rfl ?_
  refine wcSeq ?_
  refine wcRegion ?_
  refine wlVal (opAssign rfl) rfl ?_
  refine wlThen ?_
  refine wcRet ?_
  exact fun ac_ ha => hQ _ _ _ (results1 ha rfl rfl) ha.df (endO (bl := []) (o := none) (r := []) hC hB ⟨_, _, rfl, (Ow.nil_ _ 28)⟩)

theorem ofZ_ret (G0 : Gh) (w0 : World) (hw : Holds G0 w0) (bm : Nat) (hzm : RowG G0 bm 0 ((.int .i64 0) :: ((.slice none 0 0) :: ((.int .i64 0) :: (Dig.zero.cells ++ ((.map none) :: [])))))) (n : Int) :
    RetO Try.prog 22 #[.pointer (some ⟨bm, 0, none⟩), .int .i64 n] G0 w0 (fun G o v => ∃ A cap, v = (.slice A (([] : List Mark)).length cap) ∧ Ow G o 28 (.slice A (([] : List Mark)).length cap) (([] : List Mark))) := by
  have hC := Cx.refl hw
  have hB : Bxs G0 w0 w0.heap.size [] := Bxs.nil _ _ _
  refine callsOf Try.func22 rfl _ Try.ntmps22 rfl _ (argsCons (argsCons argsNil (t := 0) rfl) (t := 1) rfl) ?_; intro Q0 hQ
  refine wcSeq ?_
  refine wcRegion ?_
  refine wlVal (opAssign rfl) rfl ?_
  refine wlThen ?_
  refine wcSeq ?_
  refine wcSeq ?_
  refine wcRegion ?_
  refine wlVal (opMove rfl) rfl ?_
  refine wlCallS hC hB rfl co32 rfl rfl (noneZ_ret _ _ hC.holds _ hzm) ?_; intro w hk hC hB
  refine wlThen ?_
  refine wcCondT rfl ?_
  refine wcSeq ?_
  refine wcRegion ?_
  refine wlVal (opAssign rfl) rfl ?_
  refine wlThen ?_
  refine wcRet ?_
  exact fun ac_ ha => hQ _ _ _ (results1 ha rfl rfl) ha.df (endO (bl := []) (o := none) (r := []) hC hB ⟨_, _, rfl, (Ow.nil_ _ 28)⟩)

theorem raiseN_ret (G0 : Gh) (w0 : World) (hw : Holds G0 w0) (x : Mark) :
    RetS Try.prog 14 #[.pointer none, .agg x.cells.toArray] G0 w0 (.int .i64 1) := by
  have hC := Cx.refl hw
  have hB : Bxs G0 w0 w0.heap.size [] := Bxs.nil _ _ _
  refine callsOf Try.func14 rfl _ Try.ntmps14 rfl _ (argsCons (argsCons argsNil (t := 0) rfl) (t := 1) rfl) ?_; intro Q0 hQ
  refine wcSeq ?_
  refine wcRegion ?_
  refine wlBox (cs := x.cells) hC hB rfl rfl rfl ?_; intro b1 w hk hC hB
  refine wlVal (opAssign rfl) rfl ?_
  refine wlThen ?_
  refine wcSeq ?_
  refine wcBlock ?_
  refine wcSeq ?_
  refine wcRegion ?_
  refine wlVal (opMove rfl) rfl ?_
  refine wlCallS hC hB rfl co32 rfl rfl (noneN_ret _ _ hC.holds ) ?_; intro w hk hC hB
  refine wlVal (opAssign rfl) rfl ?_
  refine wlThen ?_
  refine wcCondT rfl ?_
  refine wcSeq ?_
  refine wcRegion ?_
  refine wlVal (opAssign rfl) rfl ?_
  refine wlThen ?_
  refine wcRet ?_
  exact fun ac_ ha => hQ _ _ _ (results1 ha rfl rfl) ha.df (endS hC hw rfl)

theorem raiseZ_ret (G0 : Gh) (w0 : World) (hw : Holds G0 w0) (bm : Nat) (hzm : RowG G0 bm 0 ((.int .i64 0) :: ((.slice none 0 0) :: ((.int .i64 0) :: (Dig.zero.cells ++ ((.map none) :: [])))))) (x : Mark) :
    RetS Try.prog 14 #[.pointer (some ⟨bm, 0, none⟩), .agg x.cells.toArray] G0 w0 (.int .i64 1) := by
  have hC := Cx.refl hw
  have hB : Bxs G0 w0 w0.heap.size [] := Bxs.nil _ _ _
  refine callsOf Try.func14 rfl _ Try.ntmps14 rfl _ (argsCons (argsCons argsNil (t := 0) rfl) (t := 1) rfl) ?_; intro Q0 hQ
  refine wcSeq ?_
  refine wcRegion ?_
  refine wlBox (cs := x.cells) hC hB rfl rfl rfl ?_; intro b1 w hk hC hB
  refine wlVal (opAssign rfl) rfl ?_
  refine wlThen ?_
  refine wcSeq ?_
  refine wcBlock ?_
  refine wcSeq ?_
  refine wcRegion ?_
  refine wlVal (opMove rfl) rfl ?_
  refine wlCallS hC hB rfl co32 rfl rfl (noneZ_ret _ _ hC.holds _ hzm) ?_; intro w hk hC hB
  refine wlVal (opAssign rfl) rfl ?_
  refine wlThen ?_
  refine wcCondT rfl ?_
  refine wcSeq ?_
  refine wcRegion ?_
  refine wlVal (opAssign rfl) rfl ?_
  refine wlThen ?_
  refine wcRet ?_
  exact fun ac_ ha => hQ _ _ _ (results1 ha rfl rfl) ha.df (endS hC hw rfl)

theorem stableN_ret (G0 : Gh) (w0 : World) (hw : Holds G0 w0)  :
    RetS Try.prog 20 #[.pointer none] G0 w0 (.tuple #[(.agg ((Mark.mk 0 Dig.zero)).cells.toArray), (.bool false)]) := by
  have hC := Cx.refl hw
  have hB : Bxs G0 w0 w0.heap.size [] := Bxs.nil _ _ _
  refine callsOf Try.func20 rfl _ Try.ntmps20 rfl _ (argsCons argsNil (t := 0) rfl) ?_; intro Q0 hQ
  refine wcSeq ?_
  refine wcRegion ?_
  refine wlAlloc hC hB zero28 rfl ?_; intro b1 w hk hC hB
  refine wlVal (opAssign rfl) rfl ?_
  refine wlThen ?_
  refine wcSeq ?_
  refine wcSeq ?_
  refine wcRegion ?_
  refine wlVal (opMove rfl) rfl ?_
  refine wlCallS hC hB rfl co32 rfl rfl (noneN_ret _ _ hC.holds ) ?_; intro w hk hC hB
  refine wlThen ?_
  refine wcCondT rfl ?_
  refine wcSeq ?_
  refine wcRegion ?_
  refine wlVal (opBuild (ps := []) (cs := ((.int .i64 0) :: (Dig.zero.cells ++ []))) so28 zero28 rfl rfl (by first | (simp [buildCells, Value.cells]; done) | simp [buildCells, Value.cells, Mark.cells, Do.cells, Word.cells])) rfl ?_
  refine wlStore 0 (vs := ((.int .i64 0) :: (Dig.zero.cells ++ []))) (cs := ((.int .i64 0) :: (Dig.zero.cells ++ []))) (cs' := ((.int .i64 0) :: (Dig.zero.cells ++ []))) hC hB rfl rfl rfl sz28 rfl (by simp [Mark.cells, Do.cells, Word.cells]) (by simp [Mark.cells, Do.cells, Word.cells, Value.oneCell']) (by simp [Mark.cells, Do.cells, Word.cells]) (by simp [Mark.cells, Do.cells, Word.cells]) rfl ?_; intro w hC hB
  refine wlVal (opAssign rfl) rfl ?_
  refine wlThen ?_
  refine wcRet ?_
  exact fun ac_ ha => hQ _ _ _ (results2 ha rfl ⟨_, _, ((.int .i64 0) :: (Dig.zero.cells ++ [])), rfl, row28, (by simp [Mark.cells, Do.cells, Word.cells]), hB.range (i := 0) (m := 33) rfl (by simp [Mark.cells, Do.cells, Word.cells]), rfl⟩ rfl) ha.df (endS hC hw rfl)

theorem stableZ_ret (G0 : Gh) (w0 : World) (hw : Holds G0 w0) (bm : Nat) (hzm : RowG G0 bm 0 ((.int .i64 0) :: ((.slice none 0 0) :: ((.int .i64 0) :: (Dig.zero.cells ++ ((.map none) :: [])))))) :
    RetS Try.prog 20 #[.pointer (some ⟨bm, 0, none⟩)] G0 w0 (.tuple #[(.agg ((Mark.mk 0 Dig.zero)).cells.toArray), (.bool false)]) := by
  have hC := Cx.refl hw
  have hB : Bxs G0 w0 w0.heap.size [] := Bxs.nil _ _ _
  refine callsOf Try.func20 rfl _ Try.ntmps20 rfl _ (argsCons argsNil (t := 0) rfl) ?_; intro Q0 hQ
  refine wcSeq ?_
  refine wcRegion ?_
  refine wlAlloc hC hB zero28 rfl ?_; intro b1 w hk hC hB
  refine wlVal (opAssign rfl) rfl ?_
  refine wlThen ?_
  refine wcSeq ?_
  refine wcSeq ?_
  refine wcRegion ?_
  refine wlVal (opMove rfl) rfl ?_
  refine wlCallS hC hB rfl co32 rfl rfl (noneZ_ret _ _ hC.holds _ hzm) ?_; intro w hk hC hB
  refine wlThen ?_
  refine wcCondT rfl ?_
  refine wcSeq ?_
  refine wcRegion ?_
  refine wlVal (opBuild (ps := []) (cs := ((.int .i64 0) :: (Dig.zero.cells ++ []))) so28 zero28 rfl rfl (by first | (simp [buildCells, Value.cells]; done) | simp [buildCells, Value.cells, Mark.cells, Do.cells, Word.cells])) rfl ?_
  refine wlStore 0 (vs := ((.int .i64 0) :: (Dig.zero.cells ++ []))) (cs := ((.int .i64 0) :: (Dig.zero.cells ++ []))) (cs' := ((.int .i64 0) :: (Dig.zero.cells ++ []))) hC hB rfl rfl rfl sz28 rfl (by simp [Mark.cells, Do.cells, Word.cells]) (by simp [Mark.cells, Do.cells, Word.cells, Value.oneCell']) (by simp [Mark.cells, Do.cells, Word.cells]) (by simp [Mark.cells, Do.cells, Word.cells]) rfl ?_; intro w hC hB
  refine wlVal (opAssign rfl) rfl ?_
  refine wlThen ?_
  refine wcRet ?_
  exact fun ac_ ha => hQ _ _ _ (results2 ha rfl ⟨_, _, ((.int .i64 0) :: (Dig.zero.cells ++ [])), rfl, row28, (by simp [Mark.cells, Do.cells, Word.cells]), hB.range (i := 0) (m := 33) rfl (by simp [Mark.cells, Do.cells, Word.cells]), rfl⟩ rfl) ha.df (endS hC hw rfl)

theorem knownN_ret (G0 : Gh) (w0 : World) (hw : Holds G0 w0)  :
    RetS Try.prog 21 #[.pointer none] G0 w0 (.tuple #[(.agg ((Mark.mk 0 Dig.zero)).cells.toArray), (.bool false)]) := by
  have hC := Cx.refl hw
  have hB : Bxs G0 w0 w0.heap.size [] := Bxs.nil _ _ _
  refine callsOf Try.func21 rfl _ Try.ntmps21 rfl _ (argsCons argsNil (t := 0) rfl) ?_; intro Q0 hQ
  refine wcSeq ?_
  refine wcRegion ?_
  refine wlAlloc hC hB zero28 rfl ?_; intro b1 w hk hC hB
  refine wlVal (opAssign rfl) rfl ?_
  refine wlThen ?_
  refine wcSeq ?_
  refine wcSeq ?_
  refine wcRegion ?_
  refine wlVal (opMove rfl) rfl ?_
  refine wlCallS hC hB rfl co32 rfl rfl (noneN_ret _ _ hC.holds ) ?_; intro w hk hC hB
  refine wlThen ?_
  refine wcCondT rfl ?_
  refine wcSeq ?_
  refine wcRegion ?_
  refine wlVal (opBuild (ps := []) (cs := ((.int .i64 0) :: (Dig.zero.cells ++ []))) so28 zero28 rfl rfl (by first | (simp [buildCells, Value.cells]; done) | simp [buildCells, Value.cells, Mark.cells, Do.cells, Word.cells])) rfl ?_
  refine wlStore 0 (vs := ((.int .i64 0) :: (Dig.zero.cells ++ []))) (cs := ((.int .i64 0) :: (Dig.zero.cells ++ []))) (cs' := ((.int .i64 0) :: (Dig.zero.cells ++ []))) hC hB rfl rfl rfl sz28 rfl (by simp [Mark.cells, Do.cells, Word.cells]) (by simp [Mark.cells, Do.cells, Word.cells, Value.oneCell']) (by simp [Mark.cells, Do.cells, Word.cells]) (by simp [Mark.cells, Do.cells, Word.cells]) rfl ?_; intro w hC hB
  refine wlVal (opAssign rfl) rfl ?_
  refine wlThen ?_
  refine wcRet ?_
  exact fun ac_ ha => hQ _ _ _ (results2 ha rfl ⟨_, _, ((.int .i64 0) :: (Dig.zero.cells ++ [])), rfl, row28, (by simp [Mark.cells, Do.cells, Word.cells]), hB.range (i := 0) (m := 33) rfl (by simp [Mark.cells, Do.cells, Word.cells]), rfl⟩ rfl) ha.df (endS hC hw rfl)

theorem knownZ_ret (G0 : Gh) (w0 : World) (hw : Holds G0 w0) (bm : Nat) (hzm : RowG G0 bm 0 ((.int .i64 0) :: ((.slice none 0 0) :: ((.int .i64 0) :: (Dig.zero.cells ++ ((.map none) :: [])))))) :
    RetS Try.prog 21 #[.pointer (some ⟨bm, 0, none⟩)] G0 w0 (.tuple #[(.agg ((Mark.mk 0 Dig.zero)).cells.toArray), (.bool false)]) := by
  have hC := Cx.refl hw
  have hB : Bxs G0 w0 w0.heap.size [] := Bxs.nil _ _ _
  refine callsOf Try.func21 rfl _ Try.ntmps21 rfl _ (argsCons argsNil (t := 0) rfl) ?_; intro Q0 hQ
  refine wcSeq ?_
  refine wcRegion ?_
  refine wlAlloc hC hB zero28 rfl ?_; intro b1 w hk hC hB
  refine wlVal (opAssign rfl) rfl ?_
  refine wlThen ?_
  refine wcSeq ?_
  refine wcSeq ?_
  refine wcRegion ?_
  refine wlVal (opMove rfl) rfl ?_
  refine wlCallS hC hB rfl co32 rfl rfl (noneZ_ret _ _ hC.holds _ hzm) ?_; intro w hk hC hB
  refine wlThen ?_
  refine wcCondT rfl ?_
  refine wcSeq ?_
  refine wcRegion ?_
  refine wlVal (opBuild (ps := []) (cs := ((.int .i64 0) :: (Dig.zero.cells ++ []))) so28 zero28 rfl rfl (by first | (simp [buildCells, Value.cells]; done) | simp [buildCells, Value.cells, Mark.cells, Do.cells, Word.cells])) rfl ?_
  refine wlStore 0 (vs := ((.int .i64 0) :: (Dig.zero.cells ++ []))) (cs := ((.int .i64 0) :: (Dig.zero.cells ++ []))) (cs' := ((.int .i64 0) :: (Dig.zero.cells ++ []))) hC hB rfl rfl rfl sz28 rfl (by simp [Mark.cells, Do.cells, Word.cells]) (by simp [Mark.cells, Do.cells, Word.cells, Value.oneCell']) (by simp [Mark.cells, Do.cells, Word.cells]) (by simp [Mark.cells, Do.cells, Word.cells]) rfl ?_; intro w hC hB
  refine wlVal (opAssign rfl) rfl ?_
  refine wlThen ?_
  refine wcRet ?_
  exact fun ac_ ha => hQ _ _ _ (results2 ha rfl ⟨_, _, ((.int .i64 0) :: (Dig.zero.cells ++ [])), rfl, row28, (by simp [Mark.cells, Do.cells, Word.cells]), hB.range (i := 0) (m := 33) rfl (by simp [Mark.cells, Do.cells, Word.cells]), rfl⟩ rfl) ha.df (endS hC hw rfl)

theorem names_ret (G0 : Gh) (w0 : World) (hw : Holds G0 w0)  :
    RetS Try.prog 8 #[] G0 w0 (.bool true) := by
  have hC := Cx.refl hw
  have hB : Bxs G0 w0 w0.heap.size [] := Bxs.nil _ _ _
  refine callsOf Try.func8 rfl _ Try.ntmps8 rfl _ argsNil ?_; intro Q0 hQ
  refine wcSeq ?_
  refine wcRegion ?_
  refine wlVal (opAssign rfl) rfl ?_
  refine wlThen ?_
  refine wcSeq ?_
  refine wcRegion ?_
  refine wlVal (opAssign rfl) rfl ?_
  refine wlThen ?_
  refine wcSeq ?_
  refine wcSeq ?_
  refine wcRegion ?_
  refine wlVal (opAssign rfl) rfl ?_
  refine wlThen ?_
  refine wcBlock ?_
  refine wcLoop 3 ?_
  refine wrSucc ?_
  refine wcSeq ?_
  refine wcSeq ?_
  refine wcRegion ?_
  refine wlVal (opMove rfl) rfl ?_
  refine wlVal (opLss rfl rfl) rfl ?_
  refine wlThen ?_
  refine wcCondT rfl ?_
  refine wcSkip ?_
  refine wcOf ?_
  refine wcSeq ?_
  refine wcBlock ?_
  refine wcSeq ?_
  refine wcRegion ?_
  refine wlVal (opMove rfl) rfl ?_
  refine wlCallS hC hB rfl co20 rfl rfl (stableN_ret _ _ hC.holds ) ?_; intro w hk hC hB
  refine wlVal (opMove rfl) rfl ?_
  refine wlVal (opExtract rfl rfl) rfl ?_
  refine wlVal (opExtract rfl rfl) rfl ?_
  refine wlAlloc hC hB zero28 rfl ?_; intro b1 w hk hC hB
  refine wlStore 0 (vs := (((Mark.mk 0 Dig.zero))).cells) (cs := ((.int .i64 0) :: (Dig.zero.cells ++ []))) (cs' := (((Mark.mk 0 Dig.zero))).cells) hC hB rfl rfl rfl sz28 rfl (by simp [Mark.cells, Do.cells, Word.cells]) (by simp [Mark.cells, Do.cells, Word.cells, Value.oneCell']) (by simp [Mark.cells, Do.cells, Word.cells]) (by simp [Mark.cells, Do.cells, Word.cells]) rfl ?_; intro w hC hB
  refine wlVal (opAssign rfl) rfl ?_
  refine wlThen ?_
  refine wcSeq ?_
  refine wcRegion ?_
  refine wlVal (opMove rfl) rfl ?_
  refine wlCallS hC hB rfl co21 rfl rfl (knownN_ret _ _ hC.holds ) ?_; intro w hk hC hB
  refine wlVal (opMove rfl) rfl ?_
  refine wlVal (opExtract rfl rfl) rfl ?_
  refine wlVal (opExtract rfl rfl) rfl ?_
  refine wlAlloc hC hB zero28 rfl ?_; intro b2 w hk hC hB
  refine wlStore 0 (vs := (((Mark.mk 0 Dig.zero))).cells) (cs := ((.int .i64 0) :: (Dig.zero.cells ++ []))) (cs' := (((Mark.mk 0 Dig.zero))).cells) hC hB rfl rfl rfl sz28 rfl (by simp [Mark.cells, Do.cells, Word.cells]) (by simp [Mark.cells, Do.cells, Word.cells, Value.oneCell']) (by simp [Mark.cells, Do.cells, Word.cells]) (by simp [Mark.cells, Do.cells, Word.cells]) rfl ?_; intro w hC hB
  refine wlVal (opAssign rfl) rfl ?_
  refine wlThen ?_
  refine wcSeq ?_
  refine wcSeq ?_
  refine wcRegion ?_
  refine wlVal (opMove rfl) rfl ?_
  refine wlVal (opMove rfl) rfl ?_
  refine wlOn rfl rfl ?_
  refine wlVal (opMove rfl) rfl ?_
  refine wlVal (opPickF rfl rfl) rfl ?_
  refine wlVal (opMove rfl) rfl ?_
  refine wlOn rfl rfl ?_
  refine wlVal (opMove rfl) rfl ?_
  refine wlOn rfl rfl ?_
  refine wlCallS hC hB rfl co23 rfl rfl (lowN_ret _ _ hC.holds ) ?_; intro w hk hC hB
  refine wlOn rfl rfl ?_
  refine wlVal (opBuild (ps := []) (cs := ((.int .i64 0) :: (Dig.zero.cells ++ []))) so28 zero28 rfl rfl (by first | (simp [buildCells, Value.cells]; done) | simp [buildCells, Value.cells, Mark.cells, Do.cells, Word.cells])) rfl ?_
  refine wlOn rfl rfl ?_
  refine wlVal (OpVal.cast (opNeRow (eq28 _ (((Mark.mk 0 Dig.zero))) ((Mark.mk 0 Dig.zero))) eg28 rfl rfl) (congrArg Value.bool cl8_160)) rfl ?_
  refine wlVal (opPickF rfl rfl) rfl ?_
  refine wlVal (opMove rfl) rfl ?_
  refine wlOn rfl rfl ?_
  refine wlVal (opMove rfl) rfl ?_
  refine wlOn rfl rfl ?_
  refine wlVal (opBuild (ps := []) (cs := ((.int .i64 0) :: (Dig.zero.cells ++ []))) so28 zero28 rfl rfl (by first | (simp [buildCells, Value.cells]; done) | simp [buildCells, Value.cells, Mark.cells, Do.cells, Word.cells])) rfl ?_
  refine wlOn rfl rfl ?_
  refine wlCallS hC hB rfl co12 rfl rfl (voteN_ret _ _ hC.holds 0 ((Mark.mk 0 Dig.zero))) ?_; intro w hk hC hB
  refine wlOn rfl rfl ?_
  refine wlVal (opNeq rfl rfl) rfl ?_
  refine wlVal (opPickF rfl rfl) rfl ?_
  refine wlVal (opMove rfl) rfl ?_
  refine wlOn rfl rfl ?_
  refine wlVal (opMove rfl) rfl ?_
  refine wlOn rfl rfl ?_
  refine wlCallO (bl := [(b2, 28, (((Mark.mk 0 Dig.zero))).cells), (b1, 28, (((Mark.mk 0 Dig.zero))).cells)]) (r := []) hC hB rfl co22 rfl rfl (ofN_ret _ _ hC.holds 1) ?_; rintro v7 G o5 w hk hC hB ⟨A3, cap4, rfl, hO6⟩
  refine wlOn rfl rfl ?_
  refine wlVal (opLen rfl isl54) rfl ?_
  refine wlOn rfl rfl ?_
  refine wlVal (OpVal.cast (opNeq rfl rfl) (congrArg Value.bool cl8_161)) rfl ?_
  refine wlVal (opPickF rfl rfl) rfl ?_
  refine wlVal (opMove rfl) rfl ?_
  refine wlOn rfl rfl ?_
  refine wlVal (opMove rfl) rfl ?_
  refine wlOn rfl rfl ?_
  refine wlVal (opBuild (ps := [(0, .const (.int .i64 (-1)))]) (cs := ((.int .i64 ((-1))) :: (Dig.zero.cells ++ []))) so28 zero28 rfl rfl (by first | (simp [buildCells, Value.cells]; done) | simp [buildCells, Value.cells, Mark.cells, Do.cells, Word.cells])) rfl ?_
  refine wlOn rfl rfl ?_
  refine wlCallS hC hB rfl co14 rfl rfl (raiseN_ret _ _ hC.holds ((Mark.mk ((-1)) Dig.zero))) ?_; intro w hk hC hB
  refine wlOn rfl rfl ?_
  refine wlVal (opNeq rfl rfl) rfl ?_
  refine wlVal (opPickF rfl rfl) rfl ?_
  refine wlThen ?_
  refine wcCondF rfl ?_
  refine wcSkip ?_
  refine wcOf ?_
  refine wcRegion ?_
  refine wlVal (opBuild (ps := []) (cs := ((.int .i64 0) :: ((.slice none 0 0) :: ((.int .i64 0) :: (Dig.zero.cells ++ ((.map none) :: [])))))) so64 zero64 rfl rfl (by first | (simp [buildCells, Value.cells]; done) | simp [buildCells, Value.cells, Mark.cells, Do.cells, Word.cells])) rfl ?_
  refine wlBox (cs := ((.int .i64 0) :: ((.slice none 0 0) :: ((.int .i64 0) :: (Dig.zero.cells ++ ((.map none) :: [])))))) hC hB rfl rfl rfl ?_; intro b8 w hk hC hB
  replace hB : Bxs G w w0.heap.size ([(b8, 64, ((.int .i64 0) :: ((.slice none 0 0) :: ((.int .i64 0) :: (Dig.zero.cells ++ ((.map none) :: [])))))), (b2, 28, (((Mark.mk 0 Dig.zero))).cells), (b1, 28, (((Mark.mk 0 Dig.zero))).cells)] ++ (Option.toList o5 ++ [])) := hB
  refine wlVal (opAssign rfl) rfl ?_
  refine wlNil ?_
  refine wcOf ?_
  refine wcRegion ?_
  refine wlVal (opMove rfl) rfl ?_
  refine wlVal (OpVal.cast (v' := .int .i64 1) (opAdd rfl rfl) (congrArg (Value.int .i64) (by decide))) rfl ?_
  refine wlVal (opAssign rfl) rfl ?_
  refine wlRound ?_
  refine wrSucc ?_
  refine wcSeq ?_
  refine wcSeq ?_
  refine wcRegion ?_
  refine wlVal (opMove rfl) rfl ?_
  refine wlVal (opLss rfl rfl) rfl ?_
  refine wlThen ?_
  refine wcCondT rfl ?_
  refine wcSkip ?_
  refine wcOf ?_
  refine wcSeq ?_
  refine wcBlock ?_
  refine wcSeq ?_
  refine wcRegion ?_
  refine wlVal (opMove rfl) rfl ?_
  obtain ⟨G, hg10, hC, hB, hF9⟩ := freezeBox (cs := ((.int .i64 0) :: ((.slice none 0 0) :: ((.int .i64 0) :: (Dig.zero.cells ++ ((.map none) :: [])))))) hC (Nat.le_refl _) hB (i := 0) rfl
  replace hO6 := hO6.mono hg10
  refine wlCallS hC hB rfl co20 rfl rfl (stableZ_ret _ _ hC.holds _ hF9) ?_; intro w hk hC hB
  refine wlVal (opMove rfl) rfl ?_
  refine wlVal (opExtract rfl rfl) rfl ?_
  refine wlVal (opExtract rfl rfl) rfl ?_
  refine wlAlloc hC hB zero28 rfl ?_; intro b11 w hk hC hB
  replace hB : Bxs G w w0.heap.size ([(b11, 28, ((.int .i64 0) :: (Dig.zero.cells ++ []))), (b2, 28, (((Mark.mk 0 Dig.zero))).cells), (b1, 28, (((Mark.mk 0 Dig.zero))).cells)] ++ (Option.toList o5 ++ [])) := hB
  refine wlStore 0 (vs := (((Mark.mk 0 Dig.zero))).cells) (cs := ((.int .i64 0) :: (Dig.zero.cells ++ []))) (cs' := (((Mark.mk 0 Dig.zero))).cells) hC hB rfl rfl rfl sz28 rfl (by simp [Mark.cells, Do.cells, Word.cells]) (by simp [Mark.cells, Do.cells, Word.cells, Value.oneCell']) (by simp [Mark.cells, Do.cells, Word.cells]) (by simp [Mark.cells, Do.cells, Word.cells]) rfl ?_; intro w hC hB
  replace hB : Bxs G w w0.heap.size ([(b11, 28, (((Mark.mk 0 Dig.zero))).cells), (b2, 28, (((Mark.mk 0 Dig.zero))).cells), (b1, 28, (((Mark.mk 0 Dig.zero))).cells)] ++ (Option.toList o5 ++ [])) := hB
  refine wlVal (opAssign rfl) rfl ?_
  refine wlThen ?_
  refine wcSeq ?_
  refine wcRegion ?_
  refine wlVal (opMove rfl) rfl ?_
  refine wlCallS hC hB rfl co21 rfl rfl (knownZ_ret _ _ hC.holds _ hF9) ?_; intro w hk hC hB
  refine wlVal (opMove rfl) rfl ?_
  refine wlVal (opExtract rfl rfl) rfl ?_
  refine wlVal (opExtract rfl rfl) rfl ?_
  refine wlAlloc hC hB zero28 rfl ?_; intro b12 w hk hC hB
  replace hB : Bxs G w w0.heap.size ([(b12, 28, ((.int .i64 0) :: (Dig.zero.cells ++ []))), (b11, 28, (((Mark.mk 0 Dig.zero))).cells), (b2, 28, (((Mark.mk 0 Dig.zero))).cells), (b1, 28, (((Mark.mk 0 Dig.zero))).cells)] ++ (Option.toList o5 ++ [])) := hB
  refine wlStore 0 (vs := (((Mark.mk 0 Dig.zero))).cells) (cs := ((.int .i64 0) :: (Dig.zero.cells ++ []))) (cs' := (((Mark.mk 0 Dig.zero))).cells) hC hB rfl rfl rfl sz28 rfl (by simp [Mark.cells, Do.cells, Word.cells]) (by simp [Mark.cells, Do.cells, Word.cells, Value.oneCell']) (by simp [Mark.cells, Do.cells, Word.cells]) (by simp [Mark.cells, Do.cells, Word.cells]) rfl ?_; intro w hC hB
  replace hB : Bxs G w w0.heap.size ([(b12, 28, (((Mark.mk 0 Dig.zero))).cells), (b11, 28, (((Mark.mk 0 Dig.zero))).cells), (b2, 28, (((Mark.mk 0 Dig.zero))).cells), (b1, 28, (((Mark.mk 0 Dig.zero))).cells)] ++ (Option.toList o5 ++ [])) := hB
  refine wlVal (opAssign rfl) rfl ?_
  refine wlThen ?_
  refine wcSeq ?_
  refine wcSeq ?_
  refine wcRegion ?_
  refine wlVal (opMove rfl) rfl ?_
  refine wlVal (opMove rfl) rfl ?_
  refine wlOn rfl rfl ?_
  refine wlVal (opMove rfl) rfl ?_
  refine wlVal (opPickF rfl rfl) rfl ?_
  refine wlVal (opMove rfl) rfl ?_
  refine wlOn rfl rfl ?_
  refine wlVal (opMove rfl) rfl ?_
  refine wlOn rfl rfl ?_
  refine wlCallS hC hB rfl co23 rfl rfl (lowZ_ret _ _ hC.holds _ hF9) ?_; intro w hk hC hB
  refine wlOn rfl rfl ?_
  refine wlVal (opBuild (ps := []) (cs := ((.int .i64 0) :: (Dig.zero.cells ++ []))) so28 zero28 rfl rfl (by first | (simp [buildCells, Value.cells]; done) | simp [buildCells, Value.cells, Mark.cells, Do.cells, Word.cells])) rfl ?_
  refine wlOn rfl rfl ?_
  refine wlVal (OpVal.cast (opNeRow (eq28 _ (((Mark.mk 0 Dig.zero))) ((Mark.mk 0 Dig.zero))) eg28 rfl rfl) (congrArg Value.bool cl8_160)) rfl ?_
  refine wlVal (opPickF rfl rfl) rfl ?_
  refine wlVal (opMove rfl) rfl ?_
  refine wlOn rfl rfl ?_
  refine wlVal (opMove rfl) rfl ?_
  refine wlOn rfl rfl ?_
  refine wlVal (opBuild (ps := []) (cs := ((.int .i64 0) :: (Dig.zero.cells ++ []))) so28 zero28 rfl rfl (by first | (simp [buildCells, Value.cells]; done) | simp [buildCells, Value.cells, Mark.cells, Do.cells, Word.cells])) rfl ?_
  refine wlOn rfl rfl ?_
  refine wlCallS hC hB rfl co12 rfl rfl (voteZ_ret _ _ hC.holds _ hF9 0 ((Mark.mk 0 Dig.zero))) ?_; intro w hk hC hB
  refine wlOn rfl rfl ?_
  refine wlVal (opNeq rfl rfl) rfl ?_
  refine wlVal (opPickF rfl rfl) rfl ?_
  refine wlVal (opMove rfl) rfl ?_
  refine wlOn rfl rfl ?_
  refine wlVal (opMove rfl) rfl ?_
  refine wlOn rfl rfl ?_
  refine wlCallO (bl := [(b12, 28, (((Mark.mk 0 Dig.zero))).cells), (b11, 28, (((Mark.mk 0 Dig.zero))).cells), (b2, 28, (((Mark.mk 0 Dig.zero))).cells), (b1, 28, (((Mark.mk 0 Dig.zero))).cells)]) (r := (Option.toList o5 ++ [])) hC hB rfl co22 rfl rfl (ofZ_ret _ _ hC.holds _ hF9 1) ?_; rintro v17 G o15 w hk hC hB ⟨A13, cap14, rfl, hO16⟩
  replace hO6 := hO6.mono hk.gle
  replace hF9 := hF9.mono hk.gle
  refine wlOn rfl rfl ?_
  refine wlVal (opLen rfl isl54) rfl ?_
  refine wlOn rfl rfl ?_
  refine wlVal (OpVal.cast (opNeq rfl rfl) (congrArg Value.bool cl8_161)) rfl ?_
  refine wlVal (opPickF rfl rfl) rfl ?_
  refine wlVal (opMove rfl) rfl ?_
  refine wlOn rfl rfl ?_
  refine wlVal (opMove rfl) rfl ?_
  refine wlOn rfl rfl ?_
  refine wlVal (opBuild (ps := [(0, .const (.int .i64 (-1)))]) (cs := ((.int .i64 ((-1))) :: (Dig.zero.cells ++ []))) so28 zero28 rfl rfl (by first | (simp [buildCells, Value.cells]; done) | simp [buildCells, Value.cells, Mark.cells, Do.cells, Word.cells])) rfl ?_
  refine wlOn rfl rfl ?_
  refine wlCallS hC hB rfl co14 rfl rfl (raiseZ_ret _ _ hC.holds _ hF9 ((Mark.mk ((-1)) Dig.zero))) ?_; intro w hk hC hB
  refine wlOn rfl rfl ?_
  refine wlVal (opNeq rfl rfl) rfl ?_
  refine wlVal (opPickF rfl rfl) rfl ?_
  refine wlThen ?_
  refine wcCondF rfl ?_
  refine wcSkip ?_
  refine wcOf ?_
  refine wcRegion ?_
  refine wlVal (opBuild (ps := []) (cs := ((.int .i64 0) :: ((.slice none 0 0) :: ((.int .i64 0) :: (Dig.zero.cells ++ ((.map none) :: [])))))) so64 zero64 rfl rfl (by first | (simp [buildCells, Value.cells]; done) | simp [buildCells, Value.cells, Mark.cells, Do.cells, Word.cells])) rfl ?_
  refine wlBox (cs := ((.int .i64 0) :: ((.slice none 0 0) :: ((.int .i64 0) :: (Dig.zero.cells ++ ((.map none) :: [])))))) hC hB rfl rfl rfl ?_; intro b18 w hk hC hB
  replace hB : Bxs G w w0.heap.size ([(b18, 64, ((.int .i64 0) :: ((.slice none 0 0) :: ((.int .i64 0) :: (Dig.zero.cells ++ ((.map none) :: [])))))), (b12, 28, (((Mark.mk 0 Dig.zero))).cells), (b11, 28, (((Mark.mk 0 Dig.zero))).cells), (b2, 28, (((Mark.mk 0 Dig.zero))).cells), (b1, 28, (((Mark.mk 0 Dig.zero))).cells)] ++ (Option.toList o15 ++ (Option.toList o5 ++ []))) := hB
  refine wlVal (opAssign rfl) rfl ?_
  refine wlNil ?_
  refine wcOf ?_
  refine wcRegion ?_
  refine wlVal (opMove rfl) rfl ?_
  refine wlVal (OpVal.cast (v' := .int .i64 2) (opAdd rfl rfl) (congrArg (Value.int .i64) (by decide))) rfl ?_
  refine wlVal (opAssign rfl) rfl ?_
  refine wlRound ?_
  refine wrSucc ?_
  refine wcSeq ?_
  refine wcSeq ?_
  refine wcRegion ?_
  refine wlVal (opMove rfl) rfl ?_
  refine wlVal (opLss rfl rfl) rfl ?_
  refine wlThen ?_
  refine wcCondF rfl ?_
  refine wcExit ?_
  refine wcOf ?_
  refine wcSeq ?_
  refine wcRegion ?_
  refine wlCallS hC hB rfl co19 rfl rfl (mark_ret _ _ hC.holds 4 ((1 : UInt8))) ?_; intro w hk hC hB
  refine wlVal (opBuild (ps := [(0, .const (.int .i64 0)), (1, .const (.int .i64 9)), (2, .tmp 52)]) (cs := ((.int .i64 0) :: ((.int .i64 9) :: ((.int .i64 (((markI 4 ((1 : UInt8)))).seq)) :: ((((markI 4 ((1 : UInt8)))).dig).cells ++ []))))) so39 zero39 rfl rfl (by first | (simp [buildCells, Value.cells]; done) | simp [buildCells, Value.cells, Mark.cells, Do.cells, Word.cells])) rfl ?_
  refine wlCallS hC hB rfl co19 rfl rfl (mark_ret _ _ hC.holds 4 ((1 : UInt8))) ?_; intro w hk hC hB
  refine wlVal (opBuild (ps := [(0, .const (.int .i64 0)), (1, .const (.int .i64 0)), (2, .tmp 54)]) (cs := ((.int .i64 0) :: ((.int .i64 0) :: ((.int .i64 (((markI 4 ((1 : UInt8)))).seq)) :: ((((markI 4 ((1 : UInt8)))).dig).cells ++ []))))) so39 zero39 rfl rfl (by first | (simp [buildCells, Value.cells]; done) | simp [buildCells, Value.cells, Mark.cells, Do.cells, Word.cells])) rfl ?_
  refine wlCallS hC hB rfl co19 rfl rfl (mark_ret _ _ hC.holds 0 ((1 : UInt8))) ?_; intro w hk hC hB
  refine wlVal (opBuild (ps := [(0, .const (.int .i64 0)), (1, .const (.int .i64 1)), (2, .tmp 56)]) (cs := ((.int .i64 0) :: ((.int .i64 1) :: ((.int .i64 (((markI 0 ((1 : UInt8)))).seq)) :: ((((markI 0 ((1 : UInt8)))).dig).cells ++ []))))) so39 zero39 rfl rfl (by first | (simp [buildCells, Value.cells]; done) | simp [buildCells, Value.cells, Mark.cells, Do.cells, Word.cells])) rfl ?_
  refine wlCallS hC hB rfl co19 rfl rfl (mark_ret _ _ hC.holds ((-1)) ((1 : UInt8))) ?_; intro w hk hC hB
  refine wlVal (opBuild (ps := [(0, .const (.int .i64 0)), (1, .const (.int .i64 1)), (2, .tmp 58)]) (cs := ((.int .i64 0) :: ((.int .i64 1) :: ((.int .i64 (((markI ((-1)) ((1 : UInt8)))).seq)) :: ((((markI ((-1)) ((1 : UInt8)))).dig).cells ++ []))))) so39 zero39 rfl rfl (by first | (simp [buildCells, Value.cells]; done) | simp [buildCells, Value.cells, Mark.cells, Do.cells, Word.cells])) rfl ?_
  refine wlCallS hC hB rfl co19 rfl rfl (mark_ret _ _ hC.holds 9007199254740991 ((1 : UInt8))) ?_; intro w hk hC hB
  refine wlVal (opBuild (ps := [(0, .const (.int .i64 0)), (1, .const (.int .i64 1)), (2, .tmp 60)]) (cs := ((.int .i64 0) :: ((.int .i64 1) :: ((.int .i64 (((markI 9007199254740991 ((1 : UInt8)))).seq)) :: ((((markI 9007199254740991 ((1 : UInt8)))).dig).cells ++ []))))) so39 zero39 rfl rfl (by first | (simp [buildCells, Value.cells]; done) | simp [buildCells, Value.cells, Mark.cells, Do.cells, Word.cells])) rfl ?_
  refine wlCallS hC hB rfl co19 rfl rfl (mark_ret _ _ hC.holds 9007199254740992 ((1 : UInt8))) ?_; intro w hk hC hB
  refine wlVal (opBuild (ps := [(0, .const (.int .i64 0)), (1, .const (.int .i64 1)), (2, .tmp 62)]) (cs := ((.int .i64 0) :: ((.int .i64 1) :: ((.int .i64 (((markI 9007199254740992 ((1 : UInt8)))).seq)) :: ((((markI 9007199254740992 ((1 : UInt8)))).dig).cells ++ []))))) so39 zero39 rfl rfl (by first | (simp [buildCells, Value.cells]; done) | simp [buildCells, Value.cells, Mark.cells, Do.cells, Word.cells])) rfl ?_
  refine wlCallS hC hB rfl co19 rfl rfl (mark_ret _ _ hC.holds 9007199254740991 ((1 : UInt8))) ?_; intro w hk hC hB
  refine wlVal (opBuild (ps := [(0, .const (.int .i64 0)), (1, .const (.int .i64 2)), (2, .tmp 64)]) (cs := ((.int .i64 0) :: ((.int .i64 2) :: ((.int .i64 (((markI 9007199254740991 ((1 : UInt8)))).seq)) :: ((((markI 9007199254740991 ((1 : UInt8)))).dig).cells ++ []))))) so39 zero39 rfl rfl (by first | (simp [buildCells, Value.cells]; done) | simp [buildCells, Value.cells, Mark.cells, Do.cells, Word.cells])) rfl ?_
  refine wlCallS hC hB rfl co19 rfl rfl (mark_ret _ _ hC.holds 9007199254740991 ((2 : UInt8))) ?_; intro w hk hC hB
  refine wlVal (opBuild (ps := [(0, .const (.int .i64 0)), (1, .const (.int .i64 3)), (2, .tmp 66)]) (cs := ((.int .i64 0) :: ((.int .i64 3) :: ((.int .i64 (((markI 9007199254740991 ((2 : UInt8)))).seq)) :: ((((markI 9007199254740991 ((2 : UInt8)))).dig).cells ++ []))))) so39 zero39 rfl rfl (by first | (simp [buildCells, Value.cells]; done) | simp [buildCells, Value.cells, Mark.cells, Do.cells, Word.cells])) rfl ?_
  refine wlCallS hC hB rfl co19 rfl rfl (mark_ret _ _ hC.holds 9007199254740991 ((2 : UInt8))) ?_; intro w hk hC hB
  refine wlVal (opBuild (ps := [(0, .const (.int .i64 0)), (1, .const (.int .i64 4)), (2, .tmp 68)]) (cs := ((.int .i64 0) :: ((.int .i64 4) :: ((.int .i64 (((markI 9007199254740991 ((2 : UInt8)))).seq)) :: ((((markI 9007199254740991 ((2 : UInt8)))).dig).cells ++ []))))) so39 zero39 rfl rfl (by first | (simp [buildCells, Value.cells]; done) | simp [buildCells, Value.cells, Mark.cells, Do.cells, Word.cells])) rfl ?_
  refine wlCallS hC hB rfl co19 rfl rfl (mark_ret _ _ hC.holds 5 ((1 : UInt8))) ?_; intro w hk hC hB
  refine wlVal (opBuild (ps := [(0, .const (.int .i64 0)), (1, .const (.int .i64 1)), (2, .tmp 70)]) (cs := ((.int .i64 0) :: ((.int .i64 1) :: ((.int .i64 (((markI 5 ((1 : UInt8)))).seq)) :: ((((markI 5 ((1 : UInt8)))).dig).cells ++ []))))) so39 zero39 rfl rfl (by first | (simp [buildCells, Value.cells]; done) | simp [buildCells, Value.cells, Mark.cells, Do.cells, Word.cells])) rfl ?_
  refine wlCallS hC hB rfl co19 rfl rfl (mark_ret _ _ hC.holds 3 ((1 : UInt8))) ?_; intro w hk hC hB
  refine wlVal (opBuild (ps := [(0, .const (.int .i64 0)), (1, .const (.int .i64 1)), (2, .tmp 72)]) (cs := ((.int .i64 0) :: ((.int .i64 1) :: ((.int .i64 (((markI 3 ((1 : UInt8)))).seq)) :: ((((markI 3 ((1 : UInt8)))).dig).cells ++ []))))) so39 zero39 rfl rfl (by first | (simp [buildCells, Value.cells]; done) | simp [buildCells, Value.cells, Mark.cells, Do.cells, Word.cells])) rfl ?_
  refine wlCallS hC hB rfl co19 rfl rfl (mark_ret _ _ hC.holds 4 ((1 : UInt8))) ?_; intro w hk hC hB
  refine wlVal (opBuild (ps := [(0, .const (.int .i64 0)), (1, .const (.int .i64 1)), (2, .tmp 74)]) (cs := ((.int .i64 0) :: ((.int .i64 1) :: ((.int .i64 (((markI 4 ((1 : UInt8)))).seq)) :: ((((markI 4 ((1 : UInt8)))).dig).cells ++ []))))) so39 zero39 rfl rfl (by first | (simp [buildCells, Value.cells]; done) | simp [buildCells, Value.cells, Mark.cells, Do.cells, Word.cells])) rfl ?_
  refine wlCallS hC hB rfl co19 rfl rfl (mark_ret _ _ hC.holds 1 ((1 : UInt8))) ?_; intro w hk hC hB
  refine wlVal (opBuild (ps := [(0, .const (.int .i64 0)), (1, .const (.int .i64 1)), (2, .tmp 76)]) (cs := ((.int .i64 0) :: ((.int .i64 1) :: ((.int .i64 (((markI 1 ((1 : UInt8)))).seq)) :: ((((markI 1 ((1 : UInt8)))).dig).cells ++ []))))) so39 zero39 rfl rfl (by first | (simp [buildCells, Value.cells]; done) | simp [buildCells, Value.cells, Mark.cells, Do.cells, Word.cells])) rfl ?_
  refine wlCallS hC hB rfl co19 rfl rfl (mark_ret _ _ hC.holds 2 ((1 : UInt8))) ?_; intro w hk hC hB
  refine wlVal (opBuild (ps := [(0, .const (.int .i64 0)), (1, .const (.int .i64 1)), (2, .tmp 78)]) (cs := ((.int .i64 0) :: ((.int .i64 1) :: ((.int .i64 (((markI 2 ((1 : UInt8)))).seq)) :: ((((markI 2 ((1 : UInt8)))).dig).cells ++ []))))) so39 zero39 rfl rfl (by first | (simp [buildCells, Value.cells]; done) | simp [buildCells, Value.cells, Mark.cells, Do.cells, Word.cells])) rfl ?_
  refine wlCallS hC hB rfl co19 rfl rfl (mark_ret _ _ hC.holds ((-1)) ((0 : UInt8))) ?_; intro w hk hC hB
  refine wlVal (opBuild (ps := [(0, .const (.int .i64 1)), (1, .const (.int .i64 0)), (2, .tmp 80)]) (cs := ((.int .i64 1) :: ((.int .i64 0) :: ((.int .i64 (((markI ((-1)) ((0 : UInt8)))).seq)) :: ((((markI ((-1)) ((0 : UInt8)))).dig).cells ++ []))))) so39 zero39 rfl rfl (by first | (simp [buildCells, Value.cells]; done) | simp [buildCells, Value.cells, Mark.cells, Do.cells, Word.cells])) rfl ?_
  refine wlCallS hC hB rfl co19 rfl rfl (mark_ret _ _ hC.holds 3 ((4 : UInt8))) ?_; intro w hk hC hB
  refine wlVal (opBuild (ps := [(0, .const (.int .i64 1)), (1, .const (.int .i64 0)), (2, .tmp 82)]) (cs := ((.int .i64 1) :: ((.int .i64 0) :: ((.int .i64 (((markI 3 ((4 : UInt8)))).seq)) :: ((((markI 3 ((4 : UInt8)))).dig).cells ++ []))))) so39 zero39 rfl rfl (by first | (simp [buildCells, Value.cells]; done) | simp [buildCells, Value.cells, Mark.cells, Do.cells, Word.cells])) rfl ?_
  refine wlCallS hC hB rfl co19 rfl rfl (mark_ret _ _ hC.holds 2 ((4 : UInt8))) ?_; intro w hk hC hB
  refine wlVal (opBuild (ps := [(0, .const (.int .i64 1)), (1, .const (.int .i64 0)), (2, .tmp 84)]) (cs := ((.int .i64 1) :: ((.int .i64 0) :: ((.int .i64 (((markI 2 ((4 : UInt8)))).seq)) :: ((((markI 2 ((4 : UInt8)))).dig).cells ++ []))))) so39 zero39 rfl rfl (by first | (simp [buildCells, Value.cells]; done) | simp [buildCells, Value.cells, Mark.cells, Do.cells, Word.cells])) rfl ?_
  refine wlCallS hC hB rfl co19 rfl rfl (mark_ret _ _ hC.holds 3 ((5 : UInt8))) ?_; intro w hk hC hB
  refine wlVal (opBuild (ps := [(0, .const (.int .i64 1)), (1, .const (.int .i64 0)), (2, .tmp 86)]) (cs := ((.int .i64 1) :: ((.int .i64 0) :: ((.int .i64 (((markI 3 ((5 : UInt8)))).seq)) :: ((((markI 3 ((5 : UInt8)))).dig).cells ++ []))))) so39 zero39 rfl rfl (by first | (simp [buildCells, Value.cells]; done) | simp [buildCells, Value.cells, Mark.cells, Do.cells, Word.cells])) rfl ?_
  refine wlCallS hC hB rfl co19 rfl rfl (mark_ret _ _ hC.holds 9007199254740992 ((5 : UInt8))) ?_; intro w hk hC hB
  refine wlVal (opBuild (ps := [(0, .const (.int .i64 1)), (1, .const (.int .i64 0)), (2, .tmp 88)]) (cs := ((.int .i64 1) :: ((.int .i64 0) :: ((.int .i64 (((markI 9007199254740992 ((5 : UInt8)))).seq)) :: ((((markI 9007199254740992 ((5 : UInt8)))).dig).cells ++ []))))) so39 zero39 rfl rfl (by first | (simp [buildCells, Value.cells]; done) | simp [buildCells, Value.cells, Mark.cells, Do.cells, Word.cells])) rfl ?_
  refine wlCallS hC hB rfl co19 rfl rfl (mark_ret _ _ hC.holds 9007199254740991 ((5 : UInt8))) ?_; intro w hk hC hB
  refine wlVal (opBuild (ps := [(0, .const (.int .i64 1)), (1, .const (.int .i64 0)), (2, .tmp 90)]) (cs := ((.int .i64 1) :: ((.int .i64 0) :: ((.int .i64 (((markI 9007199254740991 ((5 : UInt8)))).seq)) :: ((((markI 9007199254740991 ((5 : UInt8)))).dig).cells ++ []))))) so39 zero39 rfl rfl (by first | (simp [buildCells, Value.cells]; done) | simp [buildCells, Value.cells, Mark.cells, Do.cells, Word.cells])) rfl ?_
  refine wlCallS hC hB rfl co19 rfl rfl (mark_ret _ _ hC.holds 9007199254740991 ((5 : UInt8))) ?_; intro w hk hC hB
  refine wlVal (opBuild (ps := [(0, .const (.int .i64 0)), (1, .const (.int .i64 1)), (2, .tmp 92)]) (cs := ((.int .i64 0) :: ((.int .i64 1) :: ((.int .i64 (((markI 9007199254740991 ((5 : UInt8)))).seq)) :: ((((markI 9007199254740991 ((5 : UInt8)))).dig).cells ++ []))))) so39 zero39 rfl rfl (by first | (simp [buildCells, Value.cells]; done) | simp [buildCells, Value.cells, Mark.cells, Do.cells, Word.cells])) rfl ?_
  refine wlBuildSlice (α := Do) (ps := [(0, .tmp 53), (1, .tmp 55), (2, .tmp 57), (3, .tmp 59), (4, .tmp 61), (5, .tmp 63), (6, .tmp 65), (7, .tmp 67), (8, .tmp 69), (9, .tmp 71), (10, .tmp 73), (11, .tmp 75), (12, .tmp 77), (13, .tmp 79), (14, .tmp 81), (15, .tmp 83), (16, .tmp 85), (17, .tmp 87), (18, .tmp 89), (19, .tmp 91), (20, .tmp 93)]) (xs := [(Do.mk 0 9 (((markI 4 ((1 : UInt8)))))), (Do.mk 0 0 (((markI 4 ((1 : UInt8)))))), (Do.mk 0 1 (((markI 0 ((1 : UInt8)))))), (Do.mk 0 1 (((markI ((-1)) ((1 : UInt8)))))), (Do.mk 0 1 (((markI 9007199254740991 ((1 : UInt8)))))), (Do.mk 0 1 (((markI 9007199254740992 ((1 : UInt8)))))), (Do.mk 0 2 (((markI 9007199254740991 ((1 : UInt8)))))), (Do.mk 0 3 (((markI 9007199254740991 ((2 : UInt8)))))), (Do.mk 0 4 (((markI 9007199254740991 ((2 : UInt8)))))), (Do.mk 0 1 (((markI 5 ((1 : UInt8)))))), (Do.mk 0 1 (((markI 3 ((1 : UInt8)))))), (Do.mk 0 1 (((markI 4 ((1 : UInt8)))))), (Do.mk 0 1 (((markI 1 ((1 : UInt8)))))), (Do.mk 0 1 (((markI 2 ((1 : UInt8)))))), (Do.mk 1 0 (((markI ((-1)) ((0 : UInt8)))))), (Do.mk 1 0 (((markI 3 ((4 : UInt8)))))), (Do.mk 1 0 (((markI 2 ((4 : UInt8)))))), (Do.mk 1 0 (((markI 3 ((5 : UInt8)))))), (Do.mk 1 0 (((markI 9007199254740992 ((5 : UInt8)))))), (Do.mk 1 0 (((markI 9007199254740991 ((5 : UInt8)))))), (Do.mk 0 1 (((markI 9007199254740991 ((5 : UInt8))))))]) (rows := [((.int .i64 0) :: ((.int .i64 9) :: ((.int .i64 (((markI 4 ((1 : UInt8)))).seq)) :: ((((markI 4 ((1 : UInt8)))).dig).cells ++ [])))), ((.int .i64 0) :: ((.int .i64 0) :: ((.int .i64 (((markI 4 ((1 : UInt8)))).seq)) :: ((((markI 4 ((1 : UInt8)))).dig).cells ++ [])))), ((.int .i64 0) :: ((.int .i64 1) :: ((.int .i64 (((markI 0 ((1 : UInt8)))).seq)) :: ((((markI 0 ((1 : UInt8)))).dig).cells ++ [])))), ((.int .i64 0) :: ((.int .i64 1) :: ((.int .i64 (((markI ((-1)) ((1 : UInt8)))).seq)) :: ((((markI ((-1)) ((1 : UInt8)))).dig).cells ++ [])))), ((.int .i64 0) :: ((.int .i64 1) :: ((.int .i64 (((markI 9007199254740991 ((1 : UInt8)))).seq)) :: ((((markI 9007199254740991 ((1 : UInt8)))).dig).cells ++ [])))), ((.int .i64 0) :: ((.int .i64 1) :: ((.int .i64 (((markI 9007199254740992 ((1 : UInt8)))).seq)) :: ((((markI 9007199254740992 ((1 : UInt8)))).dig).cells ++ [])))), ((.int .i64 0) :: ((.int .i64 2) :: ((.int .i64 (((markI 9007199254740991 ((1 : UInt8)))).seq)) :: ((((markI 9007199254740991 ((1 : UInt8)))).dig).cells ++ [])))), ((.int .i64 0) :: ((.int .i64 3) :: ((.int .i64 (((markI 9007199254740991 ((2 : UInt8)))).seq)) :: ((((markI 9007199254740991 ((2 : UInt8)))).dig).cells ++ [])))), ((.int .i64 0) :: ((.int .i64 4) :: ((.int .i64 (((markI 9007199254740991 ((2 : UInt8)))).seq)) :: ((((markI 9007199254740991 ((2 : UInt8)))).dig).cells ++ [])))), ((.int .i64 0) :: ((.int .i64 1) :: ((.int .i64 (((markI 5 ((1 : UInt8)))).seq)) :: ((((markI 5 ((1 : UInt8)))).dig).cells ++ [])))), ((.int .i64 0) :: ((.int .i64 1) :: ((.int .i64 (((markI 3 ((1 : UInt8)))).seq)) :: ((((markI 3 ((1 : UInt8)))).dig).cells ++ [])))), ((.int .i64 0) :: ((.int .i64 1) :: ((.int .i64 (((markI 4 ((1 : UInt8)))).seq)) :: ((((markI 4 ((1 : UInt8)))).dig).cells ++ [])))), ((.int .i64 0) :: ((.int .i64 1) :: ((.int .i64 (((markI 1 ((1 : UInt8)))).seq)) :: ((((markI 1 ((1 : UInt8)))).dig).cells ++ [])))), ((.int .i64 0) :: ((.int .i64 1) :: ((.int .i64 (((markI 2 ((1 : UInt8)))).seq)) :: ((((markI 2 ((1 : UInt8)))).dig).cells ++ [])))), ((.int .i64 1) :: ((.int .i64 0) :: ((.int .i64 (((markI ((-1)) ((0 : UInt8)))).seq)) :: ((((markI ((-1)) ((0 : UInt8)))).dig).cells ++ [])))), ((.int .i64 1) :: ((.int .i64 0) :: ((.int .i64 (((markI 3 ((4 : UInt8)))).seq)) :: ((((markI 3 ((4 : UInt8)))).dig).cells ++ [])))), ((.int .i64 1) :: ((.int .i64 0) :: ((.int .i64 (((markI 2 ((4 : UInt8)))).seq)) :: ((((markI 2 ((4 : UInt8)))).dig).cells ++ [])))), ((.int .i64 1) :: ((.int .i64 0) :: ((.int .i64 (((markI 3 ((5 : UInt8)))).seq)) :: ((((markI 3 ((5 : UInt8)))).dig).cells ++ [])))), ((.int .i64 1) :: ((.int .i64 0) :: ((.int .i64 (((markI 9007199254740992 ((5 : UInt8)))).seq)) :: ((((markI 9007199254740992 ((5 : UInt8)))).dig).cells ++ [])))), ((.int .i64 1) :: ((.int .i64 0) :: ((.int .i64 (((markI 9007199254740991 ((5 : UInt8)))).seq)) :: ((((markI 9007199254740991 ((5 : UInt8)))).dig).cells ++ [])))), ((.int .i64 0) :: ((.int .i64 1) :: ((.int .i64 (((markI 9007199254740991 ((5 : UInt8)))).seq)) :: ((((markI 9007199254740991 ((5 : UInt8)))).dig).cells ++ []))))]) elo29 rfl rfl hC hB rfl rfl rfl ⟨rfl, rfl, rfl, rfl, rfl, rfl, rfl, rfl, rfl, rfl, rfl, rfl, rfl, rfl, rfl, rfl, rfl, rfl, rfl, rfl, rfl, trivial⟩ rfl ?_; intro b19 G w hk hC hB hs20
  replace hO6 := hO6.mono hk.gle; replace hO16 := hO16.mono hk.gle
  replace hF9 := hF9.mono hk.gle
  refine wlVal (opAssign rfl) rfl ?_
  refine wlThen ?_
  refine wcSeq ?_
  refine wcRegion ?_
  refine wlVal (opMove rfl) rfl ?_
  refine wlOn rfl rfl ?_
  refine wlCallS hC hB rfl co17 rfl rfl (awake_ret _ _ hC.holds ) ?_; intro w hk hC hB
  refine wlVal (opPickT rfl rfl) rfl ?_
  refine wlVal (opMove rfl) rfl ?_
  refine wlOn rfl rfl ?_
  refine wlCallG hC hB rfl co26 rfl rfl (crewOf1_ret _ _ hC.holds ) ?_; rintro v23 G w hk hC hB ⟨r21, rfl, hr22⟩
  replace hO6 := hO6.mono hk.gle; replace hO16 := hO16.mono hk.gle; replace hs20 := hs20.mono hk.gle
  replace hF9 := hF9.mono hk.gle
  obtain ⟨v24, rfl, hs25⟩ := Crew.opIs hr22
  obtain ⟨A26, cap27, rfl⟩ := hs25.form
  refine wlOn rfl rfl ?_
  refine wlVal (opBuild (ps := []) (cs := ((.int .i64 0) :: (Dig.zero.cells ++ []))) so28 zero28 rfl rfl (by first | (simp [buildCells, Value.cells]; done) | simp [buildCells, Value.cells, Mark.cells, Do.cells, Word.cells])) rfl ?_
  refine wlOn rfl rfl ?_
  refine wlVal (opMove rfl) rfl ?_
  refine wlOn rfl rfl ?_
  refine wlCallS hC hB rfl co3 rfl rfl (plays_ret _ _ hC.holds _ (((crewI 1))) (Crew.mkIs (x := ((crewI 1))) hs25) ((Mark.mk 0 Dig.zero)) _ ([(Do.mk 0 9 (((markI 4 ((1 : UInt8)))))), (Do.mk 0 0 (((markI 4 ((1 : UInt8)))))), (Do.mk 0 1 (((markI 0 ((1 : UInt8)))))), (Do.mk 0 1 (((markI ((-1)) ((1 : UInt8)))))), (Do.mk 0 1 (((markI 9007199254740991 ((1 : UInt8)))))), (Do.mk 0 1 (((markI 9007199254740992 ((1 : UInt8)))))), (Do.mk 0 2 (((markI 9007199254740991 ((1 : UInt8)))))), (Do.mk 0 3 (((markI 9007199254740991 ((2 : UInt8)))))), (Do.mk 0 4 (((markI 9007199254740991 ((2 : UInt8)))))), (Do.mk 0 1 (((markI 5 ((1 : UInt8)))))), (Do.mk 0 1 (((markI 3 ((1 : UInt8)))))), (Do.mk 0 1 (((markI 4 ((1 : UInt8)))))), (Do.mk 0 1 (((markI 1 ((1 : UInt8)))))), (Do.mk 0 1 (((markI 2 ((1 : UInt8)))))), (Do.mk 1 0 (((markI ((-1)) ((0 : UInt8)))))), (Do.mk 1 0 (((markI 3 ((4 : UInt8)))))), (Do.mk 1 0 (((markI 2 ((4 : UInt8)))))), (Do.mk 1 0 (((markI 3 ((5 : UInt8)))))), (Do.mk 1 0 (((markI 9007199254740992 ((5 : UInt8)))))), (Do.mk 1 0 (((markI 9007199254740991 ((5 : UInt8)))))), (Do.mk 0 1 (((markI 9007199254740991 ((5 : UInt8))))))]) hs20) ?_; intro w hk hC hB
  refine wlVal (opPickT rfl rfl) rfl ?_
  refine wlVal (opMove rfl) rfl ?_
  refine wlOn rfl rfl ?_
  refine wlCallG hC hB rfl co26 rfl rfl (crewOf2_ret _ _ hC.holds ) ?_; rintro v30 G w hk hC hB ⟨r28, rfl, hr29⟩
  replace hO6 := hO6.mono hk.gle; replace hO16 := hO16.mono hk.gle; replace hs20 := hs20.mono hk.gle; replace hs25 := hs25.mono hk.gle
  replace hF9 := hF9.mono hk.gle
  obtain ⟨v31, rfl, hs32⟩ := Crew.opIs hr29
  obtain ⟨A33, cap34, rfl⟩ := hs32.form
  refine wlOn rfl rfl ?_
  refine wlCallS hC hB rfl co19 rfl rfl (mark_ret _ _ hC.holds 0 ((5 : UInt8))) ?_; intro w hk hC hB
  refine wlOn rfl rfl ?_
  refine wlVal (opMove rfl) rfl ?_
  refine wlOn rfl rfl ?_
  refine wlCallS hC hB rfl co3 rfl rfl (plays_ret _ _ hC.holds _ (((crewI 2))) (Crew.mkIs (x := ((crewI 2))) hs32) (((markI 0 ((5 : UInt8))))) _ ([(Do.mk 0 9 (((markI 4 ((1 : UInt8)))))), (Do.mk 0 0 (((markI 4 ((1 : UInt8)))))), (Do.mk 0 1 (((markI 0 ((1 : UInt8)))))), (Do.mk 0 1 (((markI ((-1)) ((1 : UInt8)))))), (Do.mk 0 1 (((markI 9007199254740991 ((1 : UInt8)))))), (Do.mk 0 1 (((markI 9007199254740992 ((1 : UInt8)))))), (Do.mk 0 2 (((markI 9007199254740991 ((1 : UInt8)))))), (Do.mk 0 3 (((markI 9007199254740991 ((2 : UInt8)))))), (Do.mk 0 4 (((markI 9007199254740991 ((2 : UInt8)))))), (Do.mk 0 1 (((markI 5 ((1 : UInt8)))))), (Do.mk 0 1 (((markI 3 ((1 : UInt8)))))), (Do.mk 0 1 (((markI 4 ((1 : UInt8)))))), (Do.mk 0 1 (((markI 1 ((1 : UInt8)))))), (Do.mk 0 1 (((markI 2 ((1 : UInt8)))))), (Do.mk 1 0 (((markI ((-1)) ((0 : UInt8)))))), (Do.mk 1 0 (((markI 3 ((4 : UInt8)))))), (Do.mk 1 0 (((markI 2 ((4 : UInt8)))))), (Do.mk 1 0 (((markI 3 ((5 : UInt8)))))), (Do.mk 1 0 (((markI 9007199254740992 ((5 : UInt8)))))), (Do.mk 1 0 (((markI 9007199254740991 ((5 : UInt8)))))), (Do.mk 0 1 (((markI 9007199254740991 ((5 : UInt8))))))]) hs20) ?_; intro w hk hC hB
  refine wlVal (opPickT rfl rfl) rfl ?_
  refine wlVal (opMove rfl) rfl ?_
  refine wlOn rfl rfl ?_
  refine wlVal (opBuild (ps := []) (cs := [(.int .i64 0), (.slice none 0 0)]) so24 zero24 rfl rfl (by first | (simp [buildCells, Value.cells]; done) | simp [buildCells, Value.cells, Mark.cells, Do.cells, Word.cells])) rfl ?_
  refine wlOn rfl rfl ?_
  refine wlVal (opBuild (ps := []) (cs := ((.int .i64 0) :: (Dig.zero.cells ++ []))) so28 zero28 rfl rfl (by first | (simp [buildCells, Value.cells]; done) | simp [buildCells, Value.cells, Mark.cells, Do.cells, Word.cells])) rfl ?_
  refine wlOn rfl rfl ?_
  refine wlCallS hC hB rfl co3 rfl rfl (plays_ret _ _ hC.holds _ ((Crew.mk 0 ([]))) (Crew.mkIs (x := (Crew.mk 0 ([]))) (Sl.nil_ _)) ((Mark.mk 0 Dig.zero)) _ ([]) (Sl.nil_ _)) ?_; intro w hk hC hB
  refine wlVal (opPickT rfl rfl) rfl ?_
  refine wlVal (opMove rfl) rfl ?_
  refine wlOn rfl rfl ?_
  refine wlCallG hC hB rfl co26 rfl rfl (crewOf1_ret _ _ hC.holds ) ?_; rintro v37 G w hk hC hB ⟨r35, rfl, hr36⟩
  replace hO6 := hO6.mono hk.gle; replace hO16 := hO16.mono hk.gle; replace hs20 := hs20.mono hk.gle; replace hs25 := hs25.mono hk.gle; replace hs32 := hs32.mono hk.gle
  replace hF9 := hF9.mono hk.gle
  obtain ⟨v38, rfl, hs39⟩ := Crew.opIs hr36
  obtain ⟨A40, cap41, rfl⟩ := hs39.form
  refine wlOn rfl rfl ?_
  refine wlCallS hC hB rfl co19 rfl rfl (mark_ret _ _ hC.holds ((-1)) ((0 : UInt8))) ?_; intro w hk hC hB
  refine wlOn rfl rfl ?_
  refine wlCallS hC hB rfl co3 rfl rfl (plays_ret _ _ hC.holds _ (((crewI 1))) (Crew.mkIs (x := ((crewI 1))) hs39) (((markI ((-1)) ((0 : UInt8))))) _ ([]) (Sl.nil_ _)) ?_; intro w hk hC hB
  refine wlVal (opPickT rfl rfl) rfl ?_
  refine wlVal (opMove rfl) rfl ?_
  refine wlOn rfl rfl ?_
  refine wlCallG hC hB rfl co26 rfl rfl (crewOf1_ret _ _ hC.holds ) ?_; rintro v44 G w hk hC hB ⟨r42, rfl, hr43⟩
  replace hO6 := hO6.mono hk.gle; replace hO16 := hO16.mono hk.gle; replace hs20 := hs20.mono hk.gle; replace hs25 := hs25.mono hk.gle; replace hs32 := hs32.mono hk.gle; replace hs39 := hs39.mono hk.gle
  replace hF9 := hF9.mono hk.gle
  obtain ⟨v45, rfl, hs46⟩ := Crew.opIs hr43
  obtain ⟨A47, cap48, rfl⟩ := hs46.form
  refine wlOn rfl rfl ?_
  refine wlCallS hC hB rfl co19 rfl rfl (mark_ret _ _ hC.holds 9007199254740991 ((0 : UInt8))) ?_; intro w hk hC hB
  refine wlOn rfl rfl ?_
  refine wlVal (opMove rfl) rfl ?_
  refine wlOn rfl rfl ?_
  refine wlCallS hC hB rfl co3 rfl rfl (plays_ret _ _ hC.holds _ (((crewI 1))) (Crew.mkIs (x := ((crewI 1))) hs46) (((markI 9007199254740991 ((0 : UInt8))))) _ ([(Do.mk 0 9 (((markI 4 ((1 : UInt8)))))), (Do.mk 0 0 (((markI 4 ((1 : UInt8)))))), (Do.mk 0 1 (((markI 0 ((1 : UInt8)))))), (Do.mk 0 1 (((markI ((-1)) ((1 : UInt8)))))), (Do.mk 0 1 (((markI 9007199254740991 ((1 : UInt8)))))), (Do.mk 0 1 (((markI 9007199254740992 ((1 : UInt8)))))), (Do.mk 0 2 (((markI 9007199254740991 ((1 : UInt8)))))), (Do.mk 0 3 (((markI 9007199254740991 ((2 : UInt8)))))), (Do.mk 0 4 (((markI 9007199254740991 ((2 : UInt8)))))), (Do.mk 0 1 (((markI 5 ((1 : UInt8)))))), (Do.mk 0 1 (((markI 3 ((1 : UInt8)))))), (Do.mk 0 1 (((markI 4 ((1 : UInt8)))))), (Do.mk 0 1 (((markI 1 ((1 : UInt8)))))), (Do.mk 0 1 (((markI 2 ((1 : UInt8)))))), (Do.mk 1 0 (((markI ((-1)) ((0 : UInt8)))))), (Do.mk 1 0 (((markI 3 ((4 : UInt8)))))), (Do.mk 1 0 (((markI 2 ((4 : UInt8)))))), (Do.mk 1 0 (((markI 3 ((5 : UInt8)))))), (Do.mk 1 0 (((markI 9007199254740992 ((5 : UInt8)))))), (Do.mk 1 0 (((markI 9007199254740991 ((5 : UInt8)))))), (Do.mk 0 1 (((markI 9007199254740991 ((5 : UInt8))))))]) hs20) ?_; intro w hk hC hB
  refine wlVal (opPickT rfl rfl) rfl ?_
  refine wlVal (opAssign rfl) rfl ?_
  refine wlThen ?_
  refine wcRet ?_
  exact fun ac_ ha => hQ _ _ _ (results1 ha rfl rfl) ha.df (endS hC hw rfl)

end Go.Proofs.Ytbmanooiphghmaa
