/- What functions of the pick seat return, part 14. No condition. -/
import Derived.Test.YtbhkoipmojdkhaaPkG13
set_option linter.all false
namespace Go.Proofs.Ytbhkoipmojdkhaa
open Go Go.Gx Go.RowKit
def digI (x : UInt8) : Dig := ⟨x :: 3 :: List.replicate 30 0, rfl⟩
def baseI : Mark := ⟨0, digI 99⟩
def plainI (n : Int) : Change := ⟨n, 1, 0, [baseI], [], []⟩
def crewI (f : Int) : Crew := ⟨f, (List.range (3 * f.toNat + 1)).map (fun i => ((i + 1 : Nat) : Int))⟩
def hasI (n sq : Int) (dg : Dig) (vw : Int) (pb : Bool) : Change := ⟨n, 1, 0, [baseI], bif pb then [⟨sq, dg, vw⟩] else [], [⟨sq, dg, vw⟩]⟩
theorem zero28 : (Try.prog.info? 28).bind (fun i => i.zero.map Value.cells) = some (Dig.zero.cells : List Value).toArray := by kernel_rfl
theorem sz28 : (Try.prog.info? 28).map (·.size) = some 32 := by kernel_rfl
theorem co16 : callOk Try.prog 16 = true := by kernel_rfl
theorem co20 : callOk Try.prog 20 = true := by kernel_rfl
theorem so49 : structOk Try.prog 49 [(0, 1), (1, 1), (2, 1), (3, 1), (4, 1), (5, 1)] = true := by kernel_rfl
theorem digest_ret (G0 : Gh) (w0 : World) (hw : Holds G0 w0) (x : UInt8) :
  RetS Try.prog 16 #[.int .u8 (x.toNat : Int)] G0 w0 (.agg (digI x).cells.toArray) := by
 have hC := Cx.refl hw
 have hB : Bxs G0 w0 w0.heap.size [] := Bxs.nil _ _ _
 refine callsOf Try.func16 rfl _ Try.ntmps16 rfl _ (argsCons argsNil (t := 0) rfl) ?_; intro Q0 hQ
 refine wcSeq (wcRegion ?_)
 refine wlAlloc hC hB zero28 rfl ?_; intro b1 w hk hC hB
 refine wlThen (wcSeq (wcRegion ?_))
 refine wlVal (opMove rfl) rfl ?_
 refine wlVal (opBuildArr (ps := [(0, .tmp 3), (1, .const (.int .u8 3))]) (cs := ((digI x)).cells) ar28 zero28 rfl rfl (by first | rfl | simp [buildA, Value.cells])) rfl ?_
 refine wlStore 0 (vs := ((digI x)).cells) (cs := Dig.zero.cells) (cs' := ((digI x)).cells) hC hB rfl rfl rfl sz28 rfl (by simp [Mark.cells, Stand.cells]) (by simp [Mark.cells, Stand.cells, Value.oneCell']) (by simp [Mark.cells, Stand.cells]) (by simp [Mark.cells, Stand.cells]) rfl ?_; intro w hC hB
 refine wlThen ?_
 refine wcRet ?_
 exact fun ac_ ha => hQ _ _ _ (results1 ha rfl ⟨_, _, ((digI x)).cells, rfl, row28, (by simp [Mark.cells, Stand.cells]), hB.range (i := 0) (m := 32) rfl (by simp [Mark.cells, Stand.cells]), rfl⟩) ha.df (endS hC hw rfl)

theorem base_ret (G0 : Gh) (w0 : World) (hw : Holds G0 w0)  :
  RetS Try.prog 20 #[] G0 w0 (.agg baseI.cells.toArray) := by
 have hC := Cx.refl hw
 have hB : Bxs G0 w0 w0.heap.size [] := Bxs.nil _ _ _
 refine callsOf Try.func20 rfl _ Try.ntmps20 rfl _ argsNil ?_; intro Q0 hQ
 refine wcSeq (wcRegion ?_)
 refine wlAlloc hC hB zero30 rfl ?_; intro b1 w hk hC hB
 refine wlThen (wcSeq (wcRegion ?_))
 refine wlCallS hC hB rfl co16 rfl rfl (digest_ret _ _ hC.holds ((99 : UInt8))) ?_; intro w hk hC hB
 refine wlVal (opBuild (ps := [(1, .tmp 1)]) (cs := ((.int .i64 0) :: (((digI ((99 : UInt8)))).cells ++ []))) so30 zero30 rfl rfl (by simp [buildCells, Value.cells])) rfl ?_
 refine wlStore 0 (vs := ((.int .i64 0) :: (((digI ((99 : UInt8)))).cells ++ []))) (cs := ((.int .i64 0) :: (Dig.zero.cells ++ []))) (cs' := ((.int .i64 0) :: (((digI ((99 : UInt8)))).cells ++ []))) hC hB rfl rfl rfl sz30 rfl (by simp [Mark.cells, Stand.cells]) (by simp [Mark.cells, Stand.cells, Value.oneCell']) (by simp [Mark.cells, Stand.cells]) (by simp [Mark.cells, Stand.cells]) rfl ?_; intro w hC hB
 refine wlThen ?_
 refine wcRet ?_
 exact fun ac_ ha => hQ _ _ _ (results1 ha rfl ⟨_, _, ((.int .i64 0) :: (((digI ((99 : UInt8)))).cells ++ [])), rfl, row30, (by simp [Mark.cells, Stand.cells]), hB.range (i := 0) (m := 33) rfl (by simp [Mark.cells, Stand.cells]), rfl⟩) ha.df (endS hC hw rfl)

theorem plain_ret (G0 : Gh) (w0 : World) (hw : Holds G0 w0) (n : Int) :
  RetG Try.prog 18 #[.int .i64 n] G0 w0 (fun G v => ∃ c0, v = (.agg c0.toArray) ∧ Rp.Is G c0 ((plainI n))) := by
 have hC := Cx.refl hw
 have hB : Bxs G0 w0 w0.heap.size [] := Bxs.nil _ _ _
 refine callsOf Try.func18 rfl _ Try.ntmps18 rfl _ (argsCons argsNil (t := 0) rfl) ?_; intro Q0 hQ
 refine wcSeq (wcRegion ?_)
 refine wlAlloc hC hB zero49 rfl ?_; intro b1 w hk hC hB
 refine wlThen (wcSeq (wcRegion ?_))
 refine wlVal (opMove rfl) rfl ?_
 refine wlCallS hC hB rfl co20 rfl rfl (base_ret _ _ hC.holds ) ?_; intro w hk hC hB
 refine wlBuildSlice (α := Mark) (ps := [(0, .tmp 4)]) (xs := [baseI]) (rows := [baseI.cells]) elo31 rfl rfl hC hB rfl rfl rfl ⟨rfl, trivial⟩ rfl ?_; intro b2 G w hk hC hB hs3
 refine wlVal (opBuild (ps := [(0, .tmp 3), (1, .const (.int .i64 1)), (3, .tmp 5)]) (cs := [(.int .i64 n), (.int .i64 1), (.int .i64 0), (.slice (some ⟨b2, 0, none⟩) 1 1), (.slice none 0 0), (.slice none 0 0)]) so49 zero49 rfl rfl (by simp [buildCells, Value.cells])) rfl ?_
 refine wlStore 0 (vs := [(.int .i64 n), (.int .i64 1), (.int .i64 0), (.slice (some ⟨b2, 0, none⟩) 1 1), (.slice none 0 0), (.slice none 0 0)]) (cs := [(.int .i64 0), (.int .i64 0), (.int .i64 0), (.slice none 0 0), (.slice none 0 0), (.slice none 0 0)]) (cs' := [(.int .i64 n), (.int .i64 1), (.int .i64 0), (.slice (some ⟨b2, 0, none⟩) 1 1), (.slice none 0 0), (.slice none 0 0)]) hC hB rfl rfl rfl sz49 rfl rfl rfl (by simp [Mark.cells, Stand.cells]) rfl rfl ?_; intro w hC hB
 refine wlThen ?_
 refine wcRet ?_
 exact fun ac_ ha => hQ _ _ _ (results1 ha rfl ⟨_, _, [(.int .i64 n), (.int .i64 1), (.int .i64 0), (.slice (some ⟨b2, 0, none⟩) 1 1), (.slice none 0 0), (.slice none 0 0)], rfl, row49, rfl, hB.range (i := 0) (m := 6) rfl rfl, rfl⟩) ha.df (endG hC ⟨_, rfl, (Change.mkIs (x := (Change.mk n 1 0 ([baseI]) ([]) ([]))) hs3 (Sl.nil_ _) (Sl.nil_ _))⟩)

end Go.Proofs.Ytbhkoipmojdkhaa
