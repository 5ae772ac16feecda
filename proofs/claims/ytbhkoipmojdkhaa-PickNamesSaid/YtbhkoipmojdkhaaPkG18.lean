/- What functions of the pick seat return, part 18. No condition. -/
import Derived.Test.YtbhkoipmojdkhaaPkG17
set_option linter.all false
namespace Go.Proofs.Ytbhkoipmojdkhaa
open Go Go.Gx Go.RowKit
def bringI (n m : Int) : Int := bif decide (m ≤ 0) then 0 else bif decide (Int.tmod n m < 0) then IntKind.wrap .i64 (Int.tmod n m + m) else Int.tmod n m
theorem bring_ret (G0 : Gh) (w0 : World) (hw : Holds G0 w0) (n : Int) (m : Int) :
  RetS Try.prog 15 #[.int .i64 n, .int .i64 m] G0 w0 (.int .i64 ((bringI n m))) := by
 have hC := Cx.refl hw
 have hB : Bxs G0 w0 w0.heap.size [] := Bxs.nil _ _ _
 refine callsOf Try.func15 rfl _ Try.ntmps15 rfl _ (argsCons (argsCons argsNil (t := 0) rfl) (t := 1) rfl) ?_; intro Q0 hQ
 refine wcSeq (wcRegion ?_)
 refine wlVal (opAssign rfl) rfl ?_
 refine wlThen (wcSeq (wcSeq (wcRegion ?_)))
 refine wlVal (opMove rfl) rfl ?_
 refine wlVal (opLeq rfl rfl) rfl ?_
 refine wlThen ?_
 cases h1 : decide (m ≤ 0)
 ·
  skip
  refine wcCondF rfl ?_
  refine wcSkip ?_
  refine wcOf ?_
  refine wcSeq (wcRegion ?_)
  refine wlVal (opMove rfl) rfl ?_
  refine wlVal (opMove rfl) rfl ?_
  refine wlVal (opRem rfl rfl (by have := of_decide_eq_false h1; omega)) rfl ?_
  refine wlVal (opAssign rfl) rfl ?_
  refine wlThen (wcSeq (wcSeq (wcRegion ?_)))
  refine wlVal (opMove rfl) rfl ?_
  refine wlVal (opLss rfl rfl) rfl ?_
  refine wlThen ?_
  cases h2 : decide ((Int.tmod n m) < 0)
  ·
   skip
   refine wcCondF rfl ?_
   refine wcSkip ?_
   refine wcOf ?_
   refine wcSeq (wcRegion ?_)
   refine wlVal (opMove rfl) rfl ?_
   refine wlVal (opAssign rfl) rfl ?_
   refine wlThen ?_
   refine wcRet ?_
   exact fun ac_ ha => hQ _ _ _ (results1 ha rfl rfl) ha.df (endS hC hw (by simp only [bringI, h1, h2, cond_true, cond_false]))
  ·
   skip
   refine wcCondT rfl ?_
   refine wcRegion ?_
   refine wlVal (opMove rfl) rfl ?_
   refine wlVal (opMove rfl) rfl ?_
   refine wlVal (opAdd rfl rfl) rfl ?_
   refine wlVal (opAssign rfl) rfl ?_
   refine wlThen (wcSeq (wcRegion ?_))
   refine wlVal (opMove rfl) rfl ?_
   refine wlVal (opAssign rfl) rfl ?_
   refine wlThen ?_
   refine wcRet ?_
   exact fun ac_ ha => hQ _ _ _ (results1 ha rfl rfl) ha.df (endS hC hw (by simp only [bringI, h1, h2, cond_true, cond_false]))
 ·
  skip
  refine wcCondT rfl ?_
  refine wcSeq (wcRegion ?_)
  refine wlVal (opAssign rfl) rfl ?_
  refine wlThen ?_
  refine wcRet ?_
  exact fun ac_ ha => hQ _ _ _ (results1 ha rfl rfl) ha.df (endS hC hw (by simp only [bringI, h1, cond_true, cond_false]))

end Go.Proofs.Ytbhkoipmojdkhaa
