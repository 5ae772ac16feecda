/- What functions of the slots seat return, part 13. No condition. -/
import Derived.Test.YtljcgggflgbenaaGreatDoorZlG12
import Derived.Test.YtljcgggflgbenaaGreatDoorZlPlay
set_option linter.all false
namespace Go.Proofs.YtljcgggflgbenaaGreatDoor
open Go Go.Gx Go.RowKit
instance (d : Do) : Decidable (DoOk d) := by unfold DoOk I6; infer_instance
theorem cl4_267 : ((((((([] : List Stand))).length : Nat) : Int)) != 0) = false := by kernel_rfl
theorem so40 : structOk Tryz.prog 40 [(0, 1), (1, 1), (2, 1), (3, 1), (4, 32), (36, 1), (37, 1)] = true := by kernel_rfl
theorem elo25 : elemOk Tryz.prog 25 40 38 112 = true := by kernel_rfl
theorem co3 : callOk Tryz.prog 3 = true := by kernel_rfl
theorem noneN_ret (G0 : Gh) (w0 : World) (hw : Holds G0 w0)  :
  RetS Tryz.prog 48 #[.pointer none] G0 w0 (.bool true) := by
 have hC := Cx.refl hw
 have hB : Bxs G0 w0 w0.heap.size [] := Bxs.nil _ _ _
 refine callsOf Tryz.func48 rfl _ Tryz.ntmps48 rfl _ (argsCons argsNil (t := 0) rfl) ?_; intro Q0 hQ
 refine wcSeq <| wcRegion <| A_ rfl ?_
 refine wlThen (wcSeq (wcRegion ?_))
 refine M_ rfl <| V_ (OpVal.cast (v' := .bool true) (opPtrNil ip26 rfl rfl) rfl) <| M_ rfl <| wlOff rfl rfl rfl rfl <| wlOff rfl rfl rfl rfl <| wlOff rfl rfl rfl rfl <| wlOff rfl rfl rfl rfl <| wlOff rfl rfl rfl rfl <| V_ (opPickT rfl rfl) <| A_ rfl <| wlThen <| wcRet ?_
 exact r1_ hQ rfl rfl (endS hC hw rfl)

theorem noneZ_ret (G0 : Gh) (w0 : World) (hw : Holds G0 w0) (bs : Nat) (hzs : RowG G0 bs 0 [(.int .i64 0), (.slice none 0 0), (.int .i64 0), (.map none)]) :
  RetS Tryz.prog 48 #[.pointer (some ⟨bs, 0, none⟩)] G0 w0 (.bool true) := by
 have hC := Cx.refl hw
 have hB : Bxs G0 w0 w0.heap.size [] := Bxs.nil _ _ _
 refine callsOf Tryz.func48 rfl _ Tryz.ntmps48 rfl _ (argsCons argsNil (t := 0) rfl) ?_; intro Q0 hQ
 refine wcSeq <| wcRegion <| A_ rfl ?_
 refine wlThen (wcSeq (wcRegion ?_))
 refine M_ rfl <| V_ (OpVal.cast (v' := .bool false) (opPtrNil ip26 rfl rfl) rfl) <| M_ rfl <| wlOn rfl rfl <| M_ rfl <| wlOn rfl rfl <| V_ (opNilCheck rfl) <| wlOn rfl rfl <| V_ (opFieldAddr rfl fo56_2) <| wlOn rfl rfl <| V_ (opLoadOne (v := (.map none)) rfl (RowG.cell hC.holds hzs (j := 3) rfl) one54) <| wlOn rfl rfl <| V_ (opMapNil mk54 rfl rfl) <| V_ (opPickF rfl rfl) <| A_ rfl <| wlThen <| wcRet ?_
 exact r1_ hQ rfl rfl (endS hC hw rfl)

theorem lowN_ret (G0 : Gh) (w0 : World) (hw : Holds G0 w0)  :
  RetS Tryz.prog 11 #[.pointer none] G0 w0 (.int .i64 0) := by
 have hC := Cx.refl hw
 have hB : Bxs G0 w0 w0.heap.size [] := Bxs.nil _ _ _
 refine callsOf Tryz.func11 rfl _ Tryz.ntmps11 rfl _ (argsCons argsNil (t := 0) rfl) ?_; intro Q0 hQ
 refine wcSeq <| wcRegion <| A_ rfl ?_
 refine wlThen (wcSeq (wcSeq (wcRegion ?_)))
 refine M_ rfl ?_
 refine wlCallS hC hB rfl co48 rfl rfl (noneN_ret _ _ hC.holds ) ?_; intro w hk hC hB
 refine wlThen <| wcCondT rfl <| wcSeq <| wcRegion <| A_ rfl <| wlThen <| wcRet ?_
 exact r1_ hQ rfl rfl (endS hC hw rfl)

theorem lowZ_ret (G0 : Gh) (w0 : World) (hw : Holds G0 w0) (bs : Nat) (hzs : RowG G0 bs 0 [(.int .i64 0), (.slice none 0 0), (.int .i64 0), (.map none)]) :
  RetS Tryz.prog 11 #[.pointer (some ⟨bs, 0, none⟩)] G0 w0 (.int .i64 0) := by
 have hC := Cx.refl hw
 have hB : Bxs G0 w0 w0.heap.size [] := Bxs.nil _ _ _
 refine callsOf Tryz.func11 rfl _ Tryz.ntmps11 rfl _ (argsCons argsNil (t := 0) rfl) ?_; intro Q0 hQ
 refine wcSeq <| wcRegion <| A_ rfl ?_
 refine wlThen (wcSeq (wcSeq (wcRegion ?_)))
 refine M_ rfl ?_
 refine wlCallS hC hB rfl co48 rfl rfl (noneZ_ret _ _ hC.holds _ hzs) ?_; intro w hk hC hB
 refine wlThen <| wcCondT rfl <| wcSeq <| wcRegion <| A_ rfl <| wlThen <| wcRet ?_
 exact r1_ hQ rfl rfl (endS hC hw rfl)

theorem slotatN_ret (G0 : Gh) (w0 : World) (hw : Holds G0 w0) (k : Int) :
  RetS Tryz.prog 47 #[.pointer none, .int .i64 k] G0 w0 (.pointer none) := by
 have hC := Cx.refl hw
 have hB : Bxs G0 w0 w0.heap.size [] := Bxs.nil _ _ _
 refine callsOf Tryz.func47 rfl _ Tryz.ntmps47 rfl _ (argsCons (argsCons argsNil (t := 0) rfl) (t := 1) rfl) ?_; intro Q0 hQ
 refine wcSeq <| wcRegion <| A_ rfl ?_
 refine wlThen (wcSeq (wcSeq (wcRegion ?_)))
 refine M_ rfl ?_
 refine wlCallS hC hB rfl co48 rfl rfl (noneN_ret _ _ hC.holds ) ?_; intro w hk hC hB
 refine wlThen <| wcCondT rfl <| wcSeq <| wcRegion <| A_ rfl <| wlThen <| wcRet ?_
 exact r1_ hQ rfl rfl (endS hC hw rfl)

theorem slotatZ_ret (G0 : Gh) (w0 : World) (hw : Holds G0 w0) (bs : Nat) (hzs : RowG G0 bs 0 [(.int .i64 0), (.slice none 0 0), (.int .i64 0), (.map none)]) (k : Int) :
  RetS Tryz.prog 47 #[.pointer (some ⟨bs, 0, none⟩), .int .i64 k] G0 w0 (.pointer none) := by
 have hC := Cx.refl hw
 have hB : Bxs G0 w0 w0.heap.size [] := Bxs.nil _ _ _
 refine callsOf Tryz.func47 rfl _ Tryz.ntmps47 rfl _ (argsCons (argsCons argsNil (t := 0) rfl) (t := 1) rfl) ?_; intro Q0 hQ
 refine wcSeq <| wcRegion <| A_ rfl ?_
 refine wlThen (wcSeq (wcSeq (wcRegion ?_)))
 refine M_ rfl ?_
 refine wlCallS hC hB rfl co48 rfl rfl (noneZ_ret _ _ hC.holds _ hzs) ?_; intro w hk hC hB
 refine wlThen <| wcCondT rfl <| wcSeq <| wcRegion <| A_ rfl <| wlThen <| wcRet ?_
 exact r1_ hQ rfl rfl (endS hC hw rfl)

theorem atN_ret (G0 : Gh) (w0 : World) (hw : Holds G0 w0) (k : Int) (hsil : RowG G0 0 0 silence.cells) :
  RetS Tryz.prog 10 #[.pointer none, .int .i64 k] G0 w0 (.tuple #[(.agg ((Stand.mk 0 Dig.zero 0)).cells.toArray), (.bool false)]) := by
 have hC := Cx.refl hw
 have hB : Bxs G0 w0 w0.heap.size [] := Bxs.nil _ _ _
 refine callsOf Tryz.func10 rfl _ Tryz.ntmps10 rfl _ (argsCons (argsCons argsNil (t := 0) rfl) (t := 1) rfl) ?_; intro Q0 hQ
 refine wcSeq <| wcRegion ?_
 refine wlAlloc hC hB zero44 rfl ?_; intro b1 w hk hC hB
 refine A_ rfl ?_
 refine wlThen (wcSeq (wcRegion ?_))
 refine M_ rfl <| M_ rfl ?_
 refine wlCallS hC hB rfl co47 rfl rfl (slotatN_ret _ _ hC.holds k) ?_; intro w hk hC hB
 refine A_ rfl ?_
 refine wlThen (wcSeq (wcSeq ?_))
 refine wcDrawS 10 [0, 1, 3, 7, 15, 31, 63, 7, 255, 511] fmix (by kernel_rfl) (by kernel_rfl) rfl hC hB ?_; intro w hC hB
 refine D_ 0 rfl rfl (fun _ => opMove rfl) <| D_ 1 rfl rfl (fun _ => (OpVal.cast (v' := .bool true) (opPtrNil ip75 rfl rfl) rfl)) <| D_ 2 rfl rfl (fun _ => opMove rfl) <| O_ 3 rfl rfl rfl rfl rfl <| O_ 4 rfl rfl rfl rfl rfl <| O_ 5 rfl rfl rfl rfl rfl <| O_ 6 rfl rfl rfl rfl rfl <| O_ 7 rfl rfl rfl rfl rfl <| O_ 8 rfl rfl rfl rfl rfl <| D_ 9 rfl rfl (fun _ => opPickT rfl rfl) <| wdDone (by kernel_rfl) <| wcOf <| wcCondT rfl <| wcSeq <| wcRegion <| V_ (B_ (ps := []) (cs := ((.int .i64 0) :: (Dig.zero.cells ++ ((.int .i64 0) :: [])))) so44 zero44 rfl rfl) ?_
 refine wlStore 0 (vs := ((.int .i64 0) :: (Dig.zero.cells ++ ((.int .i64 0) :: [])))) (cs := ((.int .i64 0) :: (Dig.zero.cells ++ ((.int .i64 0) :: [])))) (cs' := ((.int .i64 0) :: (Dig.zero.cells ++ ((.int .i64 0) :: [])))) hC hB rfl rfl rfl sz44 rfl (by simp [cl_]) (by simp [cl_, Value.oneCell']) (by simp [cl_]) (by simp [cl_]) rfl ?_; intro w hC hB
 refine A_ rfl <| wlThen <| wcRet ?_
 exact fun ac_ ha => hQ _ _ _ (results2 ha rfl ⟨_, _, ((.int .i64 0) :: (Dig.zero.cells ++ ((.int .i64 0) :: []))), rfl, row44, (by simp [cl_]), hB.range (i := 0) (m := 34) rfl (by simp [cl_]), rfl⟩ rfl) ha.df (endS hC hw rfl)

theorem atZ_ret (G0 : Gh) (w0 : World) (hw : Holds G0 w0) (bs : Nat) (hzs : RowG G0 bs 0 [(.int .i64 0), (.slice none 0 0), (.int .i64 0), (.map none)]) (k : Int) (hsil : RowG G0 0 0 silence.cells) :
  RetS Tryz.prog 10 #[.pointer (some ⟨bs, 0, none⟩), .int .i64 k] G0 w0 (.tuple #[(.agg ((Stand.mk 0 Dig.zero 0)).cells.toArray), (.bool false)]) := by
 have hC := Cx.refl hw
 have hB : Bxs G0 w0 w0.heap.size [] := Bxs.nil _ _ _
 refine callsOf Tryz.func10 rfl _ Tryz.ntmps10 rfl _ (argsCons (argsCons argsNil (t := 0) rfl) (t := 1) rfl) ?_; intro Q0 hQ
 refine wcSeq <| wcRegion ?_
 refine wlAlloc hC hB zero44 rfl ?_; intro b1 w hk hC hB
 refine A_ rfl ?_
 refine wlThen (wcSeq (wcRegion ?_))
 refine M_ rfl <| M_ rfl ?_
 refine wlCallS hC hB rfl co47 rfl rfl (slotatZ_ret _ _ hC.holds _ hzs k) ?_; intro w hk hC hB
 refine A_ rfl ?_
 refine wlThen (wcSeq (wcSeq ?_))
 refine wcDrawS 10 [0, 1, 3, 7, 15, 31, 63, 7, 255, 511] fmix (by kernel_rfl) (by kernel_rfl) rfl hC hB ?_; intro w hC hB
 refine D_ 0 rfl rfl (fun _ => opMove rfl) <| D_ 1 rfl rfl (fun _ => (OpVal.cast (v' := .bool true) (opPtrNil ip75 rfl rfl) rfl)) <| D_ 2 rfl rfl (fun _ => opMove rfl) <| O_ 3 rfl rfl rfl rfl rfl <| O_ 4 rfl rfl rfl rfl rfl <| O_ 5 rfl rfl rfl rfl rfl <| O_ 6 rfl rfl rfl rfl rfl <| O_ 7 rfl rfl rfl rfl rfl <| O_ 8 rfl rfl rfl rfl rfl <| D_ 9 rfl rfl (fun _ => opPickT rfl rfl) <| wdDone (by kernel_rfl) <| wcOf <| wcCondT rfl <| wcSeq <| wcRegion <| V_ (B_ (ps := []) (cs := ((.int .i64 0) :: (Dig.zero.cells ++ ((.int .i64 0) :: [])))) so44 zero44 rfl rfl) ?_
 refine wlStore 0 (vs := ((.int .i64 0) :: (Dig.zero.cells ++ ((.int .i64 0) :: [])))) (cs := ((.int .i64 0) :: (Dig.zero.cells ++ ((.int .i64 0) :: [])))) (cs' := ((.int .i64 0) :: (Dig.zero.cells ++ ((.int .i64 0) :: [])))) hC hB rfl rfl rfl sz44 rfl (by simp [cl_]) (by simp [cl_, Value.oneCell']) (by simp [cl_]) (by simp [cl_]) rfl ?_; intro w hC hB
 refine A_ rfl <| wlThen <| wcRet ?_
 exact fun ac_ ha => hQ _ _ _ (results2 ha rfl ⟨_, _, ((.int .i64 0) :: (Dig.zero.cells ++ ((.int .i64 0) :: []))), rfl, row44, (by simp [cl_]), hB.range (i := 0) (m := 34) rfl (by simp [cl_]), rfl⟩ rfl) ha.df (endS hC hw rfl)

theorem raiseN_ret (G0 : Gh) (w0 : World) (hw : Holds G0 w0) (k : Int) (hsil : RowG G0 0 0 silence.cells) :
  RetS Tryz.prog 12 #[.pointer none, .int .i64 k] G0 w0 (.int .i64 1) := by
 have hC := Cx.refl hw
 have hB : Bxs G0 w0 w0.heap.size [] := Bxs.nil _ _ _
 refine callsOf Tryz.func12 rfl _ Tryz.ntmps12 rfl _ (argsCons (argsCons argsNil (t := 0) rfl) (t := 1) rfl) ?_; intro Q0 hQ
 refine wcSeq <| wcRegion <| A_ rfl <| wlThen <| wcSeq ?_
 refine wcBlock (wcSeq (wcRegion ?_))
 refine M_ rfl ?_
 refine wlCallS hC hB rfl co48 rfl rfl (noneN_ret _ _ hC.holds ) ?_; intro w hk hC hB
 refine A_ rfl <| wlThen <| wcCondT rfl <| wcSeq <| wcRegion <| A_ rfl <| wlThen <| wcRet ?_
 exact r1_ hQ rfl rfl (endS hC hw rfl)

theorem raiseZ_ret (G0 : Gh) (w0 : World) (hw : Holds G0 w0) (bs : Nat) (hzs : RowG G0 bs 0 [(.int .i64 0), (.slice none 0 0), (.int .i64 0), (.map none)]) (k : Int) (hsil : RowG G0 0 0 silence.cells) :
  RetS Tryz.prog 12 #[.pointer (some ⟨bs, 0, none⟩), .int .i64 k] G0 w0 (.int .i64 1) := by
 have hC := Cx.refl hw
 have hB : Bxs G0 w0 w0.heap.size [] := Bxs.nil _ _ _
 refine callsOf Tryz.func12 rfl _ Tryz.ntmps12 rfl _ (argsCons (argsCons argsNil (t := 0) rfl) (t := 1) rfl) ?_; intro Q0 hQ
 refine wcSeq <| wcRegion <| A_ rfl <| wlThen <| wcSeq ?_
 refine wcBlock (wcSeq (wcRegion ?_))
 refine M_ rfl ?_
 refine wlCallS hC hB rfl co48 rfl rfl (noneZ_ret _ _ hC.holds _ hzs) ?_; intro w hk hC hB
 refine A_ rfl <| wlThen <| wcCondT rfl <| wcSeq <| wcRegion <| A_ rfl <| wlThen <| wcRet ?_
 exact r1_ hQ rfl rfl (endS hC hw rfl)

theorem proposeN_ret (G0 : Gh) (w0 : World) (hw : Holds G0 w0) (v : Int) (k : Int) (d : Dig) (hsil : RowG G0 0 0 silence.cells) :
  RetS Tryz.prog 13 #[.pointer none, .int .i64 v, .int .i64 k, .agg d.cells.toArray] G0 w0 (.int .i64 1) := by
 have hC := Cx.refl hw
 have hB : Bxs G0 w0 w0.heap.size [] := Bxs.nil _ _ _
 refine callsOf Tryz.func13 rfl _ Tryz.ntmps13 rfl _ (argsCons (argsCons (argsCons (argsCons argsNil (t := 0) rfl) (t := 1) rfl) (t := 2) rfl) (t := 3) rfl) ?_; intro Q0 hQ
 refine wcSeq <| wcRegion ?_
 refine wlBox (cs := d.cells) hC hB rfl rfl rfl ?_; intro b1 w hk hC hB
 refine A_ rfl ?_
 refine wlThen (wcSeq (wcSeq (wcRegion ?_)))
 refine M_ rfl ?_
 refine wlCallS hC hB rfl co48 rfl rfl (noneN_ret _ _ hC.holds ) ?_; intro w hk hC hB
 refine wlThen <| wcCondT rfl <| wcSeq <| wcRegion <| A_ rfl <| wlThen <| wcRet ?_
 exact r1_ hQ rfl rfl (endS hC hw rfl)

theorem proposeZ_ret (G0 : Gh) (w0 : World) (hw : Holds G0 w0) (bs : Nat) (hzs : RowG G0 bs 0 [(.int .i64 0), (.slice none 0 0), (.int .i64 0), (.map none)]) (v : Int) (k : Int) (d : Dig) (hsil : RowG G0 0 0 silence.cells) :
  RetS Tryz.prog 13 #[.pointer (some ⟨bs, 0, none⟩), .int .i64 v, .int .i64 k, .agg d.cells.toArray] G0 w0 (.int .i64 1) := by
 have hC := Cx.refl hw
 have hB : Bxs G0 w0 w0.heap.size [] := Bxs.nil _ _ _
 refine callsOf Tryz.func13 rfl _ Tryz.ntmps13 rfl _ (argsCons (argsCons (argsCons (argsCons argsNil (t := 0) rfl) (t := 1) rfl) (t := 2) rfl) (t := 3) rfl) ?_; intro Q0 hQ
 refine wcSeq <| wcRegion ?_
 refine wlBox (cs := d.cells) hC hB rfl rfl rfl ?_; intro b1 w hk hC hB
 refine A_ rfl ?_
 refine wlThen (wcSeq (wcSeq (wcRegion ?_)))
 refine M_ rfl ?_
 refine wlCallS hC hB rfl co48 rfl rfl (noneZ_ret _ _ hC.holds _ hzs) ?_; intro w hk hC hB
 refine wlThen <| wcCondT rfl <| wcSeq <| wcRegion <| A_ rfl <| wlThen <| wcRet ?_
 exact r1_ hQ rfl rfl (endS hC hw rfl)

theorem hearPN_ret (G0 : Gh) (w0 : World) (hw : Holds G0 w0) (node : Int) (view : Int) (k : Int) (d : Dig) (leads : Bool) :
  RetS Tryz.prog 56 #[.pointer none, .int .i64 node, .int .i64 view, .int .i64 k, .agg d.cells.toArray, .bool leads, .func (.func 57) #[] #[]] G0 w0 (.int .i64 1) := by
 have hC := Cx.refl hw
 have hB : Bxs G0 w0 w0.heap.size [] := Bxs.nil _ _ _
 refine callsOf Tryz.func56 rfl _ Tryz.ntmps56 rfl _ (argsCons (argsCons (argsCons (argsCons (argsCons (argsCons (argsCons argsNil (t := 0) rfl) (t := 1) rfl) (t := 2) rfl) (t := 3) rfl) (t := 4) rfl) (t := 5) rfl) (t := 6) rfl) ?_; intro Q0 hQ
 refine wcSeq <| wcRegion ?_
 refine wlBox (cs := d.cells) hC hB rfl rfl rfl ?_; intro b1 w hk hC hB
 refine A_ rfl ?_
 refine wlThen (wcSeq (wcSeq (wcRegion ?_)))
 refine M_ rfl ?_
 refine wlCallS hC hB rfl co48 rfl rfl (noneN_ret _ _ hC.holds ) ?_; intro w hk hC hB
 refine wlThen <| wcCondT rfl <| wcSeq <| wcRegion <| A_ rfl <| wlThen <| wcRet ?_
 exact r1_ hQ rfl rfl (endS hC hw rfl)

theorem hearPZ_ret (G0 : Gh) (w0 : World) (hw : Holds G0 w0) (bs : Nat) (hzs : RowG G0 bs 0 [(.int .i64 0), (.slice none 0 0), (.int .i64 0), (.map none)]) (node : Int) (view : Int) (k : Int) (d : Dig) (leads : Bool) :
  RetS Tryz.prog 56 #[.pointer (some ⟨bs, 0, none⟩), .int .i64 node, .int .i64 view, .int .i64 k, .agg d.cells.toArray, .bool leads, .func (.func 57) #[] #[]] G0 w0 (.int .i64 1) := by
 have hC := Cx.refl hw
 have hB : Bxs G0 w0 w0.heap.size [] := Bxs.nil _ _ _
 refine callsOf Tryz.func56 rfl _ Tryz.ntmps56 rfl _ (argsCons (argsCons (argsCons (argsCons (argsCons (argsCons (argsCons argsNil (t := 0) rfl) (t := 1) rfl) (t := 2) rfl) (t := 3) rfl) (t := 4) rfl) (t := 5) rfl) (t := 6) rfl) ?_; intro Q0 hQ
 refine wcSeq <| wcRegion ?_
 refine wlBox (cs := d.cells) hC hB rfl rfl rfl ?_; intro b1 w hk hC hB
 refine A_ rfl ?_
 refine wlThen (wcSeq (wcSeq (wcRegion ?_)))
 refine M_ rfl ?_
 refine wlCallS hC hB rfl co48 rfl rfl (noneZ_ret _ _ hC.holds _ hzs) ?_; intro w hk hC hB
 refine wlThen <| wcCondT rfl <| wcSeq <| wcRegion <| A_ rfl <| wlThen <| wcRet ?_
 exact r1_ hQ rfl rfl (endS hC hw rfl)

theorem hearCN_ret (G0 : Gh) (w0 : World) (hw : Holds G0 w0) (node : Int) (view : Int) (k : Int) (d : Dig) (leads : Bool) :
  RetS Tryz.prog 56 #[.pointer none, .int .i64 node, .int .i64 view, .int .i64 k, .agg d.cells.toArray, .bool leads, .func (.func 58) #[] #[]] G0 w0 (.int .i64 1) := by
 have hC := Cx.refl hw
 have hB : Bxs G0 w0 w0.heap.size [] := Bxs.nil _ _ _
 refine callsOf Tryz.func56 rfl _ Tryz.ntmps56 rfl _ (argsCons (argsCons (argsCons (argsCons (argsCons (argsCons (argsCons argsNil (t := 0) rfl) (t := 1) rfl) (t := 2) rfl) (t := 3) rfl) (t := 4) rfl) (t := 5) rfl) (t := 6) rfl) ?_; intro Q0 hQ
 refine wcSeq <| wcRegion ?_
 refine wlBox (cs := d.cells) hC hB rfl rfl rfl ?_; intro b1 w hk hC hB
 refine A_ rfl ?_
 refine wlThen (wcSeq (wcSeq (wcRegion ?_)))
 refine M_ rfl ?_
 refine wlCallS hC hB rfl co48 rfl rfl (noneN_ret _ _ hC.holds ) ?_; intro w hk hC hB
 refine wlThen <| wcCondT rfl <| wcSeq <| wcRegion <| A_ rfl <| wlThen <| wcRet ?_
 exact r1_ hQ rfl rfl (endS hC hw rfl)

theorem hearCZ_ret (G0 : Gh) (w0 : World) (hw : Holds G0 w0) (bs : Nat) (hzs : RowG G0 bs 0 [(.int .i64 0), (.slice none 0 0), (.int .i64 0), (.map none)]) (node : Int) (view : Int) (k : Int) (d : Dig) (leads : Bool) :
  RetS Tryz.prog 56 #[.pointer (some ⟨bs, 0, none⟩), .int .i64 node, .int .i64 view, .int .i64 k, .agg d.cells.toArray, .bool leads, .func (.func 58) #[] #[]] G0 w0 (.int .i64 1) := by
 have hC := Cx.refl hw
 have hB : Bxs G0 w0 w0.heap.size [] := Bxs.nil _ _ _
 refine callsOf Tryz.func56 rfl _ Tryz.ntmps56 rfl _ (argsCons (argsCons (argsCons (argsCons (argsCons (argsCons (argsCons argsNil (t := 0) rfl) (t := 1) rfl) (t := 2) rfl) (t := 3) rfl) (t := 4) rfl) (t := 5) rfl) (t := 6) rfl) ?_; intro Q0 hQ
 refine wcSeq <| wcRegion ?_
 refine wlBox (cs := d.cells) hC hB rfl rfl rfl ?_; intro b1 w hk hC hB
 refine A_ rfl ?_
 refine wlThen (wcSeq (wcSeq (wcRegion ?_)))
 refine M_ rfl ?_
 refine wlCallS hC hB rfl co48 rfl rfl (noneZ_ret _ _ hC.holds _ hzs) ?_; intro w hk hC hB
 refine wlThen <| wcCondT rfl <| wcSeq <| wcRegion <| A_ rfl <| wlThen <| wcRet ?_
 exact r1_ hQ rfl rfl (endS hC hw rfl)

theorem prepareN_ret (G0 : Gh) (w0 : World) (hw : Holds G0 w0) (node : Int) (view : Int) (k : Int) (d : Dig) (hsil : RowG G0 0 0 silence.cells) :
  RetS Tryz.prog 14 #[.pointer none, .int .i64 node, .int .i64 view, .int .i64 k, .agg d.cells.toArray] G0 w0 (.int .i64 1) := by
 have hC := Cx.refl hw
 have hB : Bxs G0 w0 w0.heap.size [] := Bxs.nil _ _ _
 refine callsOf Tryz.func14 rfl _ Tryz.ntmps14 rfl _ (argsCons (argsCons (argsCons (argsCons (argsCons argsNil (t := 0) rfl) (t := 1) rfl) (t := 2) rfl) (t := 3) rfl) (t := 4) rfl) ?_; intro Q0 hQ
 refine wcSeq <| wcRegion ?_
 refine wlBox (cs := d.cells) hC hB rfl rfl rfl ?_; intro b1 w hk hC hB
 refine A_ rfl ?_
 refine wlThen (wcSeq (wcRegion ?_))
 refine M_ rfl <| M_ rfl <| M_ rfl <| M_ rfl <| V_ (opLoadRow (cs := d.cells) rfl (hB.range (i := 0) (m := 32) rfl (by simp [cl_])) row37 (by simp [cl_])) ?_
 refine wlCallS hC hB rfl co56 rfl rfl (hearPN_ret _ _ hC.holds node view k d false) ?_; intro w hk hC hB
 refine A_ rfl ?_
 refine wlThen (wcSeq (wcSeq (wcRegion ?_)))
 refine M_ rfl <| V_ (opEql rfl rfl) <| wlThen <| wcCondF rfl <| wcSkip <| wcOf <| wcSeq <| wcRegion <| M_ rfl <| A_ rfl <| wlThen <| wcRet ?_
 exact r1_ hQ rfl rfl (endS hC hw rfl)

theorem prepareZ_ret (G0 : Gh) (w0 : World) (hw : Holds G0 w0) (bs : Nat) (hzs : RowG G0 bs 0 [(.int .i64 0), (.slice none 0 0), (.int .i64 0), (.map none)]) (node : Int) (view : Int) (k : Int) (d : Dig) (hsil : RowG G0 0 0 silence.cells) :
  RetS Tryz.prog 14 #[.pointer (some ⟨bs, 0, none⟩), .int .i64 node, .int .i64 view, .int .i64 k, .agg d.cells.toArray] G0 w0 (.int .i64 1) := by
 have hC := Cx.refl hw
 have hB : Bxs G0 w0 w0.heap.size [] := Bxs.nil _ _ _
 refine callsOf Tryz.func14 rfl _ Tryz.ntmps14 rfl _ (argsCons (argsCons (argsCons (argsCons (argsCons argsNil (t := 0) rfl) (t := 1) rfl) (t := 2) rfl) (t := 3) rfl) (t := 4) rfl) ?_; intro Q0 hQ
 refine wcSeq <| wcRegion ?_
 refine wlBox (cs := d.cells) hC hB rfl rfl rfl ?_; intro b1 w hk hC hB
 refine A_ rfl ?_
 refine wlThen (wcSeq (wcRegion ?_))
 refine M_ rfl <| M_ rfl <| M_ rfl <| M_ rfl <| V_ (opLoadRow (cs := d.cells) rfl (hB.range (i := 0) (m := 32) rfl (by simp [cl_])) row37 (by simp [cl_])) ?_
 refine wlCallS hC hB rfl co56 rfl rfl (hearPZ_ret _ _ hC.holds _ hzs node view k d false) ?_; intro w hk hC hB
 refine A_ rfl ?_
 refine wlThen (wcSeq (wcSeq (wcRegion ?_)))
 refine M_ rfl <| V_ (opEql rfl rfl) <| wlThen <| wcCondF rfl <| wcSkip <| wcOf <| wcSeq <| wcRegion <| M_ rfl <| A_ rfl <| wlThen <| wcRet ?_
 exact r1_ hQ rfl rfl (endS hC hw rfl)

theorem commitN_ret (G0 : Gh) (w0 : World) (hw : Holds G0 w0) (node : Int) (view : Int) (k : Int) (d : Dig) :
  RetS Tryz.prog 15 #[.pointer none, .int .i64 node, .int .i64 view, .int .i64 k, .agg d.cells.toArray] G0 w0 (.int .i64 1) := by
 have hC := Cx.refl hw
 have hB : Bxs G0 w0 w0.heap.size [] := Bxs.nil _ _ _
 refine callsOf Tryz.func15 rfl _ Tryz.ntmps15 rfl _ (argsCons (argsCons (argsCons (argsCons (argsCons argsNil (t := 0) rfl) (t := 1) rfl) (t := 2) rfl) (t := 3) rfl) (t := 4) rfl) ?_; intro Q0 hQ
 refine wcSeq <| wcRegion ?_
 refine wlBox (cs := d.cells) hC hB rfl rfl rfl ?_; intro b1 w hk hC hB
 refine A_ rfl ?_
 refine wlThen (wcSeq (wcRegion ?_))
 refine M_ rfl <| M_ rfl <| M_ rfl <| M_ rfl <| V_ (opLoadRow (cs := d.cells) rfl (hB.range (i := 0) (m := 32) rfl (by simp [cl_])) row37 (by simp [cl_])) ?_
 refine wlCallS hC hB rfl co56 rfl rfl (hearCN_ret _ _ hC.holds node view k d true) ?_; intro w hk hC hB
 refine A_ rfl <| wlThen <| wcRet ?_
 exact r1_ hQ rfl rfl (endS hC hw rfl)

theorem commitZ_ret (G0 : Gh) (w0 : World) (hw : Holds G0 w0) (bs : Nat) (hzs : RowG G0 bs 0 [(.int .i64 0), (.slice none 0 0), (.int .i64 0), (.map none)]) (node : Int) (view : Int) (k : Int) (d : Dig) :
  RetS Tryz.prog 15 #[.pointer (some ⟨bs, 0, none⟩), .int .i64 node, .int .i64 view, .int .i64 k, .agg d.cells.toArray] G0 w0 (.int .i64 1) := by
 have hC := Cx.refl hw
 have hB : Bxs G0 w0 w0.heap.size [] := Bxs.nil _ _ _
 refine callsOf Tryz.func15 rfl _ Tryz.ntmps15 rfl _ (argsCons (argsCons (argsCons (argsCons (argsCons argsNil (t := 0) rfl) (t := 1) rfl) (t := 2) rfl) (t := 3) rfl) (t := 4) rfl) ?_; intro Q0 hQ
 refine wcSeq <| wcRegion ?_
 refine wlBox (cs := d.cells) hC hB rfl rfl rfl ?_; intro b1 w hk hC hB
 refine A_ rfl ?_
 refine wlThen (wcSeq (wcRegion ?_))
 refine M_ rfl <| M_ rfl <| M_ rfl <| M_ rfl <| V_ (opLoadRow (cs := d.cells) rfl (hB.range (i := 0) (m := 32) rfl (by simp [cl_])) row37 (by simp [cl_])) ?_
 refine wlCallS hC hB rfl co56 rfl rfl (hearCZ_ret _ _ hC.holds _ hzs node view k d true) ?_; intro w hk hC hB
 refine A_ rfl <| wlThen <| wcRet ?_
 exact r1_ hQ rfl rfl (endS hC hw rfl)

theorem preparedN_ret (G0 : Gh) (w0 : World) (hw : Holds G0 w0) (k : Int) (hsil : RowG G0 0 0 silence.cells) :
  RetS Tryz.prog 16 #[.pointer none, .int .i64 k] G0 w0 (.bool false) := by
 have hC := Cx.refl hw
 have hB : Bxs G0 w0 w0.heap.size [] := Bxs.nil _ _ _
 refine callsOf Tryz.func16 rfl _ Tryz.ntmps16 rfl _ (argsCons (argsCons argsNil (t := 0) rfl) (t := 1) rfl) ?_; intro Q0 hQ
 refine wcSeq <| wcRegion <| A_ rfl ?_
 refine wlThen (wcSeq (wcRegion ?_))
 refine M_ rfl <| M_ rfl ?_
 refine wlCallS hC hB rfl co47 rfl rfl (slotatN_ret _ _ hC.holds k) ?_; intro w hk hC hB
 refine A_ rfl ?_
 refine wlThen (wcSeq (wcRegion ?_))
 refine M_ rfl <| V_ (OpVal.cast (v' := .bool false) (opPtrNe ip75 rfl rfl) rfl) <| M_ rfl <| wlOff rfl rfl rfl rfl <| wlOff rfl rfl rfl rfl <| wlOff rfl rfl rfl rfl <| V_ (opPickF rfl rfl) <| A_ rfl <| wlThen <| wcRet ?_
 exact r1_ hQ rfl rfl (endS hC hw rfl)

theorem preparedZ_ret (G0 : Gh) (w0 : World) (hw : Holds G0 w0) (bs : Nat) (hzs : RowG G0 bs 0 [(.int .i64 0), (.slice none 0 0), (.int .i64 0), (.map none)]) (k : Int) (hsil : RowG G0 0 0 silence.cells) :
  RetS Tryz.prog 16 #[.pointer (some ⟨bs, 0, none⟩), .int .i64 k] G0 w0 (.bool false) := by
 have hC := Cx.refl hw
 have hB : Bxs G0 w0 w0.heap.size [] := Bxs.nil _ _ _
 refine callsOf Tryz.func16 rfl _ Tryz.ntmps16 rfl _ (argsCons (argsCons argsNil (t := 0) rfl) (t := 1) rfl) ?_; intro Q0 hQ
 refine wcSeq <| wcRegion <| A_ rfl ?_
 refine wlThen (wcSeq (wcRegion ?_))
 refine M_ rfl <| M_ rfl ?_
 refine wlCallS hC hB rfl co47 rfl rfl (slotatZ_ret _ _ hC.holds _ hzs k) ?_; intro w hk hC hB
 refine A_ rfl ?_
 refine wlThen (wcSeq (wcRegion ?_))
 refine M_ rfl <| V_ (OpVal.cast (v' := .bool false) (opPtrNe ip75 rfl rfl) rfl) <| M_ rfl <| wlOff rfl rfl rfl rfl <| wlOff rfl rfl rfl rfl <| wlOff rfl rfl rfl rfl <| V_ (opPickF rfl rfl) <| A_ rfl <| wlThen <| wcRet ?_
 exact r1_ hQ rfl rfl (endS hC hw rfl)

theorem committedN_ret (G0 : Gh) (w0 : World) (hw : Holds G0 w0) (k : Int) (hsil : RowG G0 0 0 silence.cells) :
  RetS Tryz.prog 17 #[.pointer none, .int .i64 k] G0 w0 (.bool false) := by
 have hC := Cx.refl hw
 have hB : Bxs G0 w0 w0.heap.size [] := Bxs.nil _ _ _
 refine callsOf Tryz.func17 rfl _ Tryz.ntmps17 rfl _ (argsCons (argsCons argsNil (t := 0) rfl) (t := 1) rfl) ?_; intro Q0 hQ
 refine wcSeq <| wcRegion <| A_ rfl ?_
 refine wlThen (wcSeq (wcRegion ?_))
 refine M_ rfl <| M_ rfl ?_
 refine wlCallS hC hB rfl co47 rfl rfl (slotatN_ret _ _ hC.holds k) ?_; intro w hk hC hB
 refine A_ rfl ?_
 refine wlThen (wcSeq (wcSeq (wcRegion ?_)))
 refine M_ rfl <| V_ (OpVal.cast (v' := .bool true) (opPtrNil ip75 rfl rfl) rfl) <| M_ rfl <| wlOff rfl rfl rfl rfl <| wlOff rfl rfl rfl rfl <| wlOff rfl rfl rfl rfl <| wlOff rfl rfl rfl rfl <| V_ (opPickT rfl rfl) <| wlThen <| wcCondT rfl <| wcSeq <| wcRegion <| A_ rfl <| wlThen <| wcRet ?_
 exact r1_ hQ rfl rfl (endS hC hw rfl)

theorem committedZ_ret (G0 : Gh) (w0 : World) (hw : Holds G0 w0) (bs : Nat) (hzs : RowG G0 bs 0 [(.int .i64 0), (.slice none 0 0), (.int .i64 0), (.map none)]) (k : Int) (hsil : RowG G0 0 0 silence.cells) :
  RetS Tryz.prog 17 #[.pointer (some ⟨bs, 0, none⟩), .int .i64 k] G0 w0 (.bool false) := by
 have hC := Cx.refl hw
 have hB : Bxs G0 w0 w0.heap.size [] := Bxs.nil _ _ _
 refine callsOf Tryz.func17 rfl _ Tryz.ntmps17 rfl _ (argsCons (argsCons argsNil (t := 0) rfl) (t := 1) rfl) ?_; intro Q0 hQ
 refine wcSeq <| wcRegion <| A_ rfl ?_
 refine wlThen (wcSeq (wcRegion ?_))
 refine M_ rfl <| M_ rfl ?_
 refine wlCallS hC hB rfl co47 rfl rfl (slotatZ_ret _ _ hC.holds _ hzs k) ?_; intro w hk hC hB
 refine A_ rfl ?_
 refine wlThen (wcSeq (wcSeq (wcRegion ?_)))
 refine M_ rfl <| V_ (OpVal.cast (v' := .bool true) (opPtrNil ip75 rfl rfl) rfl) <| M_ rfl <| wlOff rfl rfl rfl rfl <| wlOff rfl rfl rfl rfl <| wlOff rfl rfl rfl rfl <| wlOff rfl rfl rfl rfl <| V_ (opPickT rfl rfl) <| wlThen <| wcCondT rfl <| wcSeq <| wcRegion <| A_ rfl <| wlThen <| wcRet ?_
 exact r1_ hQ rfl rfl (endS hC hw rfl)

theorem pN_ret (G0 : Gh) (w0 : World) (hw : Holds G0 w0) (hsil : RowG G0 0 0 silence.cells) :
  RetO Tryz.prog 18 #[.pointer none] G0 w0 (fun G o v => ∃ A cap, v = (.slice A (([] : List Stand)).length cap) ∧ Ow G o 44 (.slice A (([] : List Stand)).length cap) (([] : List Stand))) := by
 have hC := Cx.refl hw
 have hB : Bxs G0 w0 w0.heap.size [] := Bxs.nil _ _ _
 refine callsOf Tryz.func18 rfl _ Tryz.ntmps18 rfl _ (argsCons argsNil (t := 0) rfl) ?_; intro Q0 hQ
 refine wcSeq <| wcRegion <| A_ rfl ?_
 refine wlThen (wcSeq (wcSeq (wcRegion ?_)))
 refine M_ rfl ?_
 refine wlCallS hC hB rfl co11 rfl rfl (lowN_ret _ _ hC.holds ) ?_; intro w hk hC hB
 refine V_ (OpVal.cast (v' := .int .i64 1) (opAdd rfl rfl) (congrArg (Value.int .i64) (by decide))) <| A_ rfl <| wlThen <| wcBlock ?_
 refine WC.sub (wrInd (ι := Int × (Option Addr) × Nat × (Option Bx) × (List Stand)) (fun i => match i with | (k, outA, outC, outO, out) => (9 - k).toNat) (fun i G w => match i with | (k, outA, outC, outO, out) => Cx w0 G0 G w ∧ Bxs G w w0.heap.size ([] ++ (Option.toList outO ++ [])) ∧ Ow G outO 44 (.slice outA out.length outC) out ∧ RowG G 0 0 silence.cells ∧ (1 ≤ k ∧ k ≤ 9) ∧ out = []) (fun i => match i with | (k, outA, outC, outO, out) => (((Env.nil.put 0 (.pointer none)).put 2 (.slice outA out.length outC)).put 3 (.int .i64 k))) ?_ (1, none, 0, none, []) _ _ ⟨hC, hB, (Ow.nil_ _ 44), hsil, (by decide), rfl⟩) (fun _ ha => (((ha.start.c ha 0 rfl).c ha 2 rfl).c ha 3 rfl))
 rintro ⟨k, outA, outC, outO, out⟩ G w N0 IH0 ⟨hC, hB, hOout, hsil, hk1, hA⟩
 refine wcSeq (wcSeq (wcRegion ?_))
 refine M_ rfl <| M_ rfl ?_
 refine wlCallS hC hB rfl co11 rfl rfl (lowN_ret _ _ hC.holds ) ?_; intro w hk hC hB
 refine V_ (OpVal.cast (v' := .int .i64 8) (opAdd rfl rfl) (congrArg (Value.int .i64) (by decide))) <| V_ (opLeq rfl rfl) <| wlThen ?_
 cases h1 : decide (k ≤ 8)
 ·
  refine wcCondF rfl <| wcExit <| wcOf <| wcSeq <| wcRegion <| M_ rfl <| A_ rfl <| wlThen <| wcRet ?_
  exact r1_ hQ rfl rfl (endO (bl := []) (o := outO) (r := []) hC hB (by rw [← hA]; exact ⟨_, _, rfl, hOout⟩))
 ·
  refine wcCondT rfl <| wcSkip <| wcOf <| wcSeq ?_
  refine wcBlock (wcSeq (wcRegion ?_))
  refine M_ rfl <| M_ rfl ?_
  refine wlCallS hC hB rfl co47 rfl rfl (slotatN_ret _ _ hC.holds k) ?_; intro w hk hC hB
  refine A_ rfl <| wlThen <| wcSeq ?_
  refine wcDrawS 10 [0, 1, 3, 7, 15, 31, 63, 7, 255, 511] fmix (by kernel_rfl) (by kernel_rfl) rfl hC hB ?_; intro w hC hB
  refine D_ 0 rfl rfl (fun _ => opMove rfl) <| D_ 1 rfl rfl (fun _ => (OpVal.cast (v' := .bool false) (opPtrNe ip75 rfl rfl) rfl)) <| D_ 2 rfl rfl (fun _ => opMove rfl) <| O_ 3 rfl rfl rfl rfl rfl <| O_ 4 rfl rfl rfl rfl rfl <| O_ 5 rfl rfl rfl rfl rfl <| O_ 6 rfl rfl rfl rfl rfl <| O_ 7 rfl rfl rfl rfl rfl <| O_ 8 rfl rfl rfl rfl rfl <| D_ 9 rfl rfl (fun _ => opPickF rfl rfl) <| wdDone (by kernel_rfl) <| wcOf <| wcCondF rfl <| wcSkip <| wcOf <| wcRegion <| M_ rfl <| V_ (opAdd rfl rfl) <| A_ rfl <| wlRound ?_
  exact (IH0 (IntKind.wrap .i64 (k + 1), outA, outC, outO, out) _ _ ⟨hC, hB, hOout, hsil, (by have q := of_decide_eq_true h1; rw [IntWalk.i64_in _ (by omega)]; omega), hA⟩ (by have q := of_decide_eq_true h1; show (9 - IntKind.wrap .i64 (k + 1)).toNat < (9 - k).toNat; rw [IntWalk.i64_in _ (by omega)]; omega)).sub (fun _ ha => (((ha.start.c ha 0 rfl).c ha 2 rfl).c ha 3 rfl))

theorem pZ_ret (G0 : Gh) (w0 : World) (hw : Holds G0 w0) (bs : Nat) (hzs : RowG G0 bs 0 [(.int .i64 0), (.slice none 0 0), (.int .i64 0), (.map none)]) (hsil : RowG G0 0 0 silence.cells) :
  RetO Tryz.prog 18 #[.pointer (some ⟨bs, 0, none⟩)] G0 w0 (fun G o v => ∃ A cap, v = (.slice A (([] : List Stand)).length cap) ∧ Ow G o 44 (.slice A (([] : List Stand)).length cap) (([] : List Stand))) := by
 have hC := Cx.refl hw
 have hB : Bxs G0 w0 w0.heap.size [] := Bxs.nil _ _ _
 refine callsOf Tryz.func18 rfl _ Tryz.ntmps18 rfl _ (argsCons argsNil (t := 0) rfl) ?_; intro Q0 hQ
 refine wcSeq <| wcRegion <| A_ rfl ?_
 refine wlThen (wcSeq (wcSeq (wcRegion ?_)))
 refine M_ rfl ?_
 refine wlCallS hC hB rfl co11 rfl rfl (lowZ_ret _ _ hC.holds _ hzs) ?_; intro w hk hC hB
 refine V_ (OpVal.cast (v' := .int .i64 1) (opAdd rfl rfl) (congrArg (Value.int .i64) (by decide))) <| A_ rfl <| wlThen <| wcBlock ?_
 refine WC.sub (wrInd (ι := Int × (Option Addr) × Nat × (Option Bx) × (List Stand)) (fun i => match i with | (k, outA, outC, outO, out) => (9 - k).toNat) (fun i G w => match i with | (k, outA, outC, outO, out) => Cx w0 G0 G w ∧ Bxs G w w0.heap.size ([] ++ (Option.toList outO ++ [])) ∧ Ow G outO 44 (.slice outA out.length outC) out ∧ RowG G bs 0 [(.int .i64 0), (.slice none 0 0), (.int .i64 0), (.map none)] ∧ RowG G 0 0 silence.cells ∧ (1 ≤ k ∧ k ≤ 9) ∧ out = []) (fun i => match i with | (k, outA, outC, outO, out) => (((Env.nil.put 0 (.pointer (some ⟨bs, 0, none⟩))).put 2 (.slice outA out.length outC)).put 3 (.int .i64 k))) ?_ (1, none, 0, none, []) _ _ ⟨hC, hB, (Ow.nil_ _ 44), hzs, hsil, (by decide), rfl⟩) (fun _ ha => (((ha.start.c ha 0 rfl).c ha 2 rfl).c ha 3 rfl))
 rintro ⟨k, outA, outC, outO, out⟩ G w N0 IH0 ⟨hC, hB, hOout, hzs, hsil, hk1, hA⟩
 refine wcSeq (wcSeq (wcRegion ?_))
 refine M_ rfl <| M_ rfl ?_
 refine wlCallS hC hB rfl co11 rfl rfl (lowZ_ret _ _ hC.holds _ hzs) ?_; intro w hk hC hB
 refine V_ (OpVal.cast (v' := .int .i64 8) (opAdd rfl rfl) (congrArg (Value.int .i64) (by decide))) <| V_ (opLeq rfl rfl) <| wlThen ?_
 cases h1 : decide (k ≤ 8)
 ·
  refine wcCondF rfl <| wcExit <| wcOf <| wcSeq <| wcRegion <| M_ rfl <| A_ rfl <| wlThen <| wcRet ?_
  exact r1_ hQ rfl rfl (endO (bl := []) (o := outO) (r := []) hC hB (by rw [← hA]; exact ⟨_, _, rfl, hOout⟩))
 ·
  refine wcCondT rfl <| wcSkip <| wcOf <| wcSeq ?_
  refine wcBlock (wcSeq (wcRegion ?_))
  refine M_ rfl <| M_ rfl ?_
  refine wlCallS hC hB rfl co47 rfl rfl (slotatZ_ret _ _ hC.holds _ hzs k) ?_; intro w hk hC hB
  refine A_ rfl <| wlThen <| wcSeq ?_
  refine wcDrawS 10 [0, 1, 3, 7, 15, 31, 63, 7, 255, 511] fmix (by kernel_rfl) (by kernel_rfl) rfl hC hB ?_; intro w hC hB
  refine D_ 0 rfl rfl (fun _ => opMove rfl) <| D_ 1 rfl rfl (fun _ => (OpVal.cast (v' := .bool false) (opPtrNe ip75 rfl rfl) rfl)) <| D_ 2 rfl rfl (fun _ => opMove rfl) <| O_ 3 rfl rfl rfl rfl rfl <| O_ 4 rfl rfl rfl rfl rfl <| O_ 5 rfl rfl rfl rfl rfl <| O_ 6 rfl rfl rfl rfl rfl <| O_ 7 rfl rfl rfl rfl rfl <| O_ 8 rfl rfl rfl rfl rfl <| D_ 9 rfl rfl (fun _ => opPickF rfl rfl) <| wdDone (by kernel_rfl) <| wcOf <| wcCondF rfl <| wcSkip <| wcOf <| wcRegion <| M_ rfl <| V_ (opAdd rfl rfl) <| A_ rfl <| wlRound ?_
  exact (IH0 (IntKind.wrap .i64 (k + 1), outA, outC, outO, out) _ _ ⟨hC, hB, hOout, hzs, hsil, (by have q := of_decide_eq_true h1; rw [IntWalk.i64_in _ (by omega)]; omega), hA⟩ (by have q := of_decide_eq_true h1; show (9 - IntKind.wrap .i64 (k + 1)).toNat < (9 - k).toNat; rw [IntWalk.i64_in _ (by omega)]; omega)).sub (fun _ ha => (((ha.start.c ha 0 rfl).c ha 2 rfl).c ha 3 rfl))

theorem qN_ret (G0 : Gh) (w0 : World) (hw : Holds G0 w0)  :
  RetO Tryz.prog 19 #[.pointer none] G0 w0 (fun G o v => ∃ A cap, v = (.slice A (([] : List Stand)).length cap) ∧ Ow G o 44 (.slice A (([] : List Stand)).length cap) (([] : List Stand))) := by
 have hC := Cx.refl hw
 have hB : Bxs G0 w0 w0.heap.size [] := Bxs.nil _ _ _
 refine callsOf Tryz.func19 rfl _ Tryz.ntmps19 rfl _ (argsCons argsNil (t := 0) rfl) ?_; intro Q0 hQ
 refine wcSeq <| wcRegion <| A_ rfl ?_
 refine wlThen (wcSeq (wcSeq (wcRegion ?_)))
 refine M_ rfl ?_
 refine wlCallS hC hB rfl co11 rfl rfl (lowN_ret _ _ hC.holds ) ?_; intro w hk hC hB
 refine V_ (OpVal.cast (v' := .int .i64 1) (opAdd rfl rfl) (congrArg (Value.int .i64) (by decide))) <| A_ rfl <| wlThen <| wcBlock ?_
 refine WC.sub (wrInd (ι := Int × (Option Addr) × Nat × (Option Bx) × (List Stand)) (fun i => match i with | (k, outA, outC, outO, out) => (9 - k).toNat) (fun i G w => match i with | (k, outA, outC, outO, out) => Cx w0 G0 G w ∧ Bxs G w w0.heap.size ([] ++ (Option.toList outO ++ [])) ∧ Ow G outO 44 (.slice outA out.length outC) out ∧ (1 ≤ k ∧ k ≤ 9) ∧ out = []) (fun i => match i with | (k, outA, outC, outO, out) => (((Env.nil.put 0 (.pointer none)).put 2 (.slice outA out.length outC)).put 3 (.int .i64 k))) ?_ (1, none, 0, none, []) _ _ ⟨hC, hB, (Ow.nil_ _ 44), (by decide), rfl⟩) (fun _ ha => (((ha.start.c ha 0 rfl).c ha 2 rfl).c ha 3 rfl))
 rintro ⟨k, outA, outC, outO, out⟩ G w N0 IH0 ⟨hC, hB, hOout, hk1, hA⟩
 refine wcSeq (wcSeq (wcRegion ?_))
 refine M_ rfl <| M_ rfl ?_
 refine wlCallS hC hB rfl co11 rfl rfl (lowN_ret _ _ hC.holds ) ?_; intro w hk hC hB
 refine V_ (OpVal.cast (v' := .int .i64 8) (opAdd rfl rfl) (congrArg (Value.int .i64) (by decide))) <| V_ (opLeq rfl rfl) <| wlThen ?_
 cases h1 : decide (k ≤ 8)
 ·
  refine wcCondF rfl <| wcExit <| wcOf <| wcSeq <| wcRegion <| M_ rfl <| A_ rfl <| wlThen <| wcRet ?_
  exact r1_ hQ rfl rfl (endO (bl := []) (o := outO) (r := []) hC hB (by rw [← hA]; exact ⟨_, _, rfl, hOout⟩))
 ·
  refine wcCondT rfl <| wcSkip <| wcOf <| wcSeq ?_
  refine wcBlock (wcSeq (wcRegion ?_))
  refine M_ rfl <| M_ rfl ?_
  refine wlCallS hC hB rfl co47 rfl rfl (slotatN_ret _ _ hC.holds k) ?_; intro w hk hC hB
  refine A_ rfl ?_
  refine wlThen (wcSeq (wcRegion ?_))
  refine M_ rfl <| V_ (OpVal.cast (v' := .bool false) (opPtrNe ip75 rfl rfl) rfl) <| wlThen <| wcCondF rfl <| wcSkip <| wcOf <| wcRegion <| M_ rfl <| V_ (opAdd rfl rfl) <| A_ rfl <| wlRound ?_
  exact (IH0 (IntKind.wrap .i64 (k + 1), outA, outC, outO, out) _ _ ⟨hC, hB, hOout, (by have q := of_decide_eq_true h1; rw [IntWalk.i64_in _ (by omega)]; omega), hA⟩ (by have q := of_decide_eq_true h1; show (9 - IntKind.wrap .i64 (k + 1)).toNat < (9 - k).toNat; rw [IntWalk.i64_in _ (by omega)]; omega)).sub (fun _ ha => (((ha.start.c ha 0 rfl).c ha 2 rfl).c ha 3 rfl))

theorem qZ_ret (G0 : Gh) (w0 : World) (hw : Holds G0 w0) (bs : Nat) (hzs : RowG G0 bs 0 [(.int .i64 0), (.slice none 0 0), (.int .i64 0), (.map none)]) :
  RetO Tryz.prog 19 #[.pointer (some ⟨bs, 0, none⟩)] G0 w0 (fun G o v => ∃ A cap, v = (.slice A (([] : List Stand)).length cap) ∧ Ow G o 44 (.slice A (([] : List Stand)).length cap) (([] : List Stand))) := by
 have hC := Cx.refl hw
 have hB : Bxs G0 w0 w0.heap.size [] := Bxs.nil _ _ _
 refine callsOf Tryz.func19 rfl _ Tryz.ntmps19 rfl _ (argsCons argsNil (t := 0) rfl) ?_; intro Q0 hQ
 refine wcSeq <| wcRegion <| A_ rfl ?_
 refine wlThen (wcSeq (wcSeq (wcRegion ?_)))
 refine M_ rfl ?_
 refine wlCallS hC hB rfl co11 rfl rfl (lowZ_ret _ _ hC.holds _ hzs) ?_; intro w hk hC hB
 refine V_ (OpVal.cast (v' := .int .i64 1) (opAdd rfl rfl) (congrArg (Value.int .i64) (by decide))) <| A_ rfl <| wlThen <| wcBlock ?_
 refine WC.sub (wrInd (ι := Int × (Option Addr) × Nat × (Option Bx) × (List Stand)) (fun i => match i with | (k, outA, outC, outO, out) => (9 - k).toNat) (fun i G w => match i with | (k, outA, outC, outO, out) => Cx w0 G0 G w ∧ Bxs G w w0.heap.size ([] ++ (Option.toList outO ++ [])) ∧ Ow G outO 44 (.slice outA out.length outC) out ∧ RowG G bs 0 [(.int .i64 0), (.slice none 0 0), (.int .i64 0), (.map none)] ∧ (1 ≤ k ∧ k ≤ 9) ∧ out = []) (fun i => match i with | (k, outA, outC, outO, out) => (((Env.nil.put 0 (.pointer (some ⟨bs, 0, none⟩))).put 2 (.slice outA out.length outC)).put 3 (.int .i64 k))) ?_ (1, none, 0, none, []) _ _ ⟨hC, hB, (Ow.nil_ _ 44), hzs, (by decide), rfl⟩) (fun _ ha => (((ha.start.c ha 0 rfl).c ha 2 rfl).c ha 3 rfl))
 rintro ⟨k, outA, outC, outO, out⟩ G w N0 IH0 ⟨hC, hB, hOout, hzs, hk1, hA⟩
 refine wcSeq (wcSeq (wcRegion ?_))
 refine M_ rfl <| M_ rfl ?_
 refine wlCallS hC hB rfl co11 rfl rfl (lowZ_ret _ _ hC.holds _ hzs) ?_; intro w hk hC hB
 refine V_ (OpVal.cast (v' := .int .i64 8) (opAdd rfl rfl) (congrArg (Value.int .i64) (by decide))) <| V_ (opLeq rfl rfl) <| wlThen ?_
 cases h1 : decide (k ≤ 8)
 ·
  refine wcCondF rfl <| wcExit <| wcOf <| wcSeq <| wcRegion <| M_ rfl <| A_ rfl <| wlThen <| wcRet ?_
  exact r1_ hQ rfl rfl (endO (bl := []) (o := outO) (r := []) hC hB (by rw [← hA]; exact ⟨_, _, rfl, hOout⟩))
 ·
  refine wcCondT rfl <| wcSkip <| wcOf <| wcSeq ?_
  refine wcBlock (wcSeq (wcRegion ?_))
  refine M_ rfl <| M_ rfl ?_
  refine wlCallS hC hB rfl co47 rfl rfl (slotatZ_ret _ _ hC.holds _ hzs k) ?_; intro w hk hC hB
  refine A_ rfl ?_
  refine wlThen (wcSeq (wcRegion ?_))
  refine M_ rfl <| V_ (OpVal.cast (v' := .bool false) (opPtrNe ip75 rfl rfl) rfl) <| wlThen <| wcCondF rfl <| wcSkip <| wcOf <| wcRegion <| M_ rfl <| V_ (opAdd rfl rfl) <| A_ rfl <| wlRound ?_
  exact (IH0 (IntKind.wrap .i64 (k + 1), outA, outC, outO, out) _ _ ⟨hC, hB, hOout, hzs, (by have q := of_decide_eq_true h1; rw [IntWalk.i64_in _ (by omega)]; omega), hA⟩ (by have q := of_decide_eq_true h1; show (9 - IntKind.wrap .i64 (k + 1)).toNat < (9 - k).toNat; rw [IntWalk.i64_in _ (by omega)]; omega)).sub (fun _ ha => (((ha.start.c ha 0 rfl).c ha 2 rfl).c ha 3 rfl))

theorem restoreN_ret (G0 : Gh) (w0 : World) (hw : Holds G0 w0) (vp : Value) (p : List Stand) (hp : Sl G0 vp p) (vq : Value) (q : List Stand) (hq : Sl G0 vq q) (hsil : RowG G0 0 0 silence.cells) :
  RetS Tryz.prog 20 #[.pointer none, vp, vq] G0 w0 (.int .i64 1) := by
 have hC := Cx.refl hw
 have hB : Bxs G0 w0 w0.heap.size [] := Bxs.nil _ _ _
 obtain ⟨A1, cap2, rfl⟩ := hp.form
 obtain ⟨A3, cap4, rfl⟩ := hq.form
 refine callsOf Tryz.func20 rfl _ Tryz.ntmps20 rfl _ (argsCons (argsCons (argsCons argsNil (t := 0) rfl) (t := 1) rfl) (t := 2) rfl) ?_; intro Q0 hQ
 refine wcSeq <| wcRegion <| A_ rfl <| wlThen <| wcSeq ?_
 refine wcBlock (wcSeq (wcRegion ?_))
 refine M_ rfl ?_
 refine wlCallS hC hB rfl co48 rfl rfl (noneN_ret _ _ hC.holds ) ?_; intro w hk hC hB
 refine A_ rfl <| wlThen <| wcCondT rfl <| wcSeq <| wcRegion <| A_ rfl <| wlThen <| wcRet ?_
 exact r1_ hQ rfl rfl (endS hC hw rfl)

theorem restoreZ_ret (G0 : Gh) (w0 : World) (hw : Holds G0 w0) (bs : Nat) (hzs : RowG G0 bs 0 [(.int .i64 0), (.slice none 0 0), (.int .i64 0), (.map none)]) (vp : Value) (p : List Stand) (hp : Sl G0 vp p) (vq : Value) (q : List Stand) (hq : Sl G0 vq q) (hsil : RowG G0 0 0 silence.cells) :
  RetS Tryz.prog 20 #[.pointer (some ⟨bs, 0, none⟩), vp, vq] G0 w0 (.int .i64 1) := by
 have hC := Cx.refl hw
 have hB : Bxs G0 w0 w0.heap.size [] := Bxs.nil _ _ _
 obtain ⟨A1, cap2, rfl⟩ := hp.form
 obtain ⟨A3, cap4, rfl⟩ := hq.form
 refine callsOf Tryz.func20 rfl _ Tryz.ntmps20 rfl _ (argsCons (argsCons (argsCons argsNil (t := 0) rfl) (t := 1) rfl) (t := 2) rfl) ?_; intro Q0 hQ
 refine wcSeq <| wcRegion <| A_ rfl <| wlThen <| wcSeq ?_
 refine wcBlock (wcSeq (wcRegion ?_))
 refine M_ rfl ?_
 refine wlCallS hC hB rfl co48 rfl rfl (noneZ_ret _ _ hC.holds _ hzs) ?_; intro w hk hC hB
 refine A_ rfl <| wlThen <| wcCondT rfl <| wcSeq <| wcRegion <| A_ rfl <| wlThen <| wcRet ?_
 exact r1_ hQ rfl rfl (endS hC hw rfl)

set_option maxHeartbeats 4000000 in
set_option maxRecDepth 40000 in
theorem names_ret (G0 : Gh) (w0 : World) (hw : Holds G0 w0) (hsil : RowG G0 0 0 silence.cells) :
  RetS Tryz.prog 4 #[] G0 w0 (.bool true) := by
 have hC := Cx.refl hw
 have hB : Bxs G0 w0 w0.heap.size [] := Bxs.nil _ _ _
 refine callsOf Tryz.func4 rfl _ Tryz.ntmps4 rfl _ argsNil ?_; intro Q0 hQ
 refine wcSeq <| wcRegion <| A_ rfl ?_
 refine wlThen (wcSeq (wcRegion ?_))
 refine A_ rfl ?_
 refine wlThen (wcSeq (wcRegion ?_))
 refine wlAlloc hC hB zero37 rfl ?_; intro b1 w hk hC hB
 refine wlThen (wcSeq (wcSeq (wcRegion ?_)))
 refine A_ rfl <| wlThen <| wcBlock ?_
 refine wcLoop 3 ?_
 refine wrSucc ?_
 refine wcSeq (wcSeq (wcRegion ?_))
 refine M_ rfl <| V_ (opLss rfl rfl) <| wlThen <| wcCondT rfl <| wcSkip <| wcOf <| wcSeq ?_
 refine wcBlock (wcSeq (wcRegion ?_))
 refine M_ rfl ?_
 refine wlCallS hC hB rfl co10 rfl rfl (atN_ret _ _ hC.holds 1 hsil) ?_; intro w hk hC hB
 refine M_ rfl <| V_ (opExtract rfl rfl) <| V_ (opExtract rfl rfl) ?_
 refine wlAlloc hC hB zero44 rfl ?_; intro b2 w hk hC hB
 refine wlStore 0 (vs := (((Stand.mk 0 Dig.zero 0))).cells) (cs := ((.int .i64 0) :: (Dig.zero.cells ++ ((.int .i64 0) :: [])))) (cs' := (((Stand.mk 0 Dig.zero 0))).cells) hC hB rfl rfl rfl sz44 rfl (by simp [cl_]) (by simp [cl_, Value.oneCell']) (by simp [cl_]) (by simp [cl_]) rfl ?_; intro w hC hB
 refine A_ rfl ?_
 refine wlThen (wcSeq (wcSeq (wcRegion ?_)))
 refine M_ rfl <| M_ rfl <| wlOn rfl rfl <| M_ rfl <| wlOn rfl rfl ?_
 refine wlCallS hC hB rfl co11 rfl rfl (lowN_ret _ _ hC.holds ) ?_; intro w hk hC hB
 refine wlOn rfl rfl <| V_ (opNeq rfl rfl) <| V_ (opPickF rfl rfl) <| M_ rfl <| wlOn rfl rfl <| M_ rfl <| wlOn rfl rfl ?_
 refine wlCallS hC hB rfl co12 rfl rfl (raiseN_ret _ _ hC.holds ((-1)) hsil) ?_; intro w hk hC hB
 refine wlOn rfl rfl <| V_ (opNeq rfl rfl) <| V_ (opPickF rfl rfl) <| M_ rfl <| wlOn rfl rfl <| M_ rfl <| wlOn rfl rfl <| V_ (opLoadRow (cs := Dig.zero.cells) rfl (hB.range (i := 1) (m := 32) rfl (by simp [cl_])) row37 (by simp [cl_])) <| wlOn rfl rfl ?_
 refine wlCallS hC hB rfl co13 rfl rfl (proposeN_ret _ _ hC.holds ((-1)) 0 Dig.zero hsil) ?_; intro w hk hC hB
 refine wlOn rfl rfl <| V_ (opNeq rfl rfl) <| V_ (opPickF rfl rfl) <| M_ rfl <| wlOn rfl rfl <| M_ rfl <| wlOn rfl rfl <| V_ (opLoadRow (cs := Dig.zero.cells) rfl (hB.range (i := 1) (m := 32) rfl (by simp [cl_])) row37 (by simp [cl_])) <| wlOn rfl rfl ?_
 refine wlCallS hC hB rfl co14 rfl rfl (prepareN_ret _ _ hC.holds 0 0 0 Dig.zero hsil) ?_; intro w hk hC hB
 refine wlOn rfl rfl <| V_ (opNeq rfl rfl) <| V_ (opPickF rfl rfl) <| M_ rfl <| wlOn rfl rfl <| M_ rfl <| wlOn rfl rfl <| V_ (opLoadRow (cs := Dig.zero.cells) rfl (hB.range (i := 1) (m := 32) rfl (by simp [cl_])) row37 (by simp [cl_])) <| wlOn rfl rfl ?_
 refine wlCallS hC hB rfl co15 rfl rfl (commitN_ret _ _ hC.holds 0 0 0 Dig.zero) ?_; intro w hk hC hB
 refine wlOn rfl rfl <| V_ (opNeq rfl rfl) <| V_ (opPickF rfl rfl) <| M_ rfl <| wlOn rfl rfl <| M_ rfl <| wlOn rfl rfl ?_
 refine wlCallS hC hB rfl co16 rfl rfl (preparedN_ret _ _ hC.holds 1 hsil) ?_; intro w hk hC hB
 refine V_ (opPickF rfl rfl) <| M_ rfl <| wlOn rfl rfl <| M_ rfl <| wlOn rfl rfl ?_
 refine wlCallS hC hB rfl co17 rfl rfl (committedN_ret _ _ hC.holds 1 hsil) ?_; intro w hk hC hB
 refine V_ (opPickF rfl rfl) <| M_ rfl <| wlOn rfl rfl <| M_ rfl <| wlOn rfl rfl ?_
 refine wlCallO (bl := [(b2, 44, (((Stand.mk 0 Dig.zero 0))).cells), (b1, 37, Dig.zero.cells)]) (r := []) hC hB rfl co18 rfl rfl (pN_ret _ _ hC.holds hsil) ?_; rintro v7 G o5 w hk hC hB ⟨A3, cap4, rfl, hO6⟩
 replace hsil := hsil.mono hk.gle
 refine wlOn rfl rfl <| V_ (opLen rfl isl38) <| wlOn rfl rfl <| V_ (OpVal.cast (opNeq rfl rfl) (congrArg Value.bool cl4_267)) <| V_ (opPickF rfl rfl) <| M_ rfl <| wlOn rfl rfl <| M_ rfl <| wlOn rfl rfl ?_
 refine wlCallO (bl := [(b2, 44, (((Stand.mk 0 Dig.zero 0))).cells), (b1, 37, Dig.zero.cells)]) (r := (Option.toList o5 ++ [])) hC hB rfl co19 rfl rfl (qN_ret _ _ hC.holds ) ?_; rintro v12 G o10 w hk hC hB ⟨A8, cap9, rfl, hO11⟩
 replace hsil := hsil.mono hk.gle
 refine wlOn rfl rfl <| V_ (opLen rfl isl38) <| wlOn rfl rfl <| V_ (OpVal.cast (opNeq rfl rfl) (congrArg Value.bool cl4_267)) <| V_ (opPickF rfl rfl) <| M_ rfl <| wlOn rfl rfl <| M_ rfl <| wlOn rfl rfl ?_
 refine wlCallS hC hB rfl co20 rfl rfl (restoreN_ret _ _ hC.holds _ ([]) (Sl.nil_ _) _ ([]) (Sl.nil_ _) hsil) ?_; intro w hk hC hB
 refine wlOn rfl rfl <| V_ (opNeq rfl rfl) <| V_ (opPickF rfl rfl) <| wlThen <| wcCondF rfl <| wcSkip <| wcOf <| wcRegion <| V_ (B_ (ps := []) (cs := [(.int .i64 0), (.slice none 0 0), (.int .i64 0), (.map none)]) so56 zero56 rfl rfl) ?_
 refine wlBox (cs := [(.int .i64 0), (.slice none 0 0), (.int .i64 0), (.map none)]) hC hB rfl rfl rfl ?_; intro b13 w hk hC hB
 refine A_ rfl <| wlNil <| wcOf <| wcRegion <| M_ rfl <| V_ (OpVal.cast (v' := .int .i64 1) (opAdd rfl rfl) (congrArg (Value.int .i64) (by decide))) <| A_ rfl <| wlRound <| wrSucc ?_
 refine wcSeq (wcSeq (wcRegion ?_))
 refine M_ rfl <| V_ (opLss rfl rfl) <| wlThen <| wcCondT rfl <| wcSkip <| wcOf <| wcSeq ?_
 refine wcBlock (wcSeq (wcRegion ?_))
 refine M_ rfl ?_
 obtain ⟨G, hg15, hC, hB, hF14⟩ := freezeBox (cs := [(.int .i64 0), (.slice none 0 0), (.int .i64 0), (.map none)]) hC (Nat.le_refl _) hB (i := 0) rfl
 replace hsil := hsil.mono hg15
 refine wlCallS hC hB rfl co10 rfl rfl (atZ_ret _ _ hC.holds _ hF14 1 hsil) ?_; intro w hk hC hB
 refine M_ rfl <| V_ (opExtract rfl rfl) <| V_ (opExtract rfl rfl) ?_
 refine wlAlloc hC hB zero44 rfl ?_; intro b16 w hk hC hB
 refine wlStore 0 (vs := (((Stand.mk 0 Dig.zero 0))).cells) (cs := ((.int .i64 0) :: (Dig.zero.cells ++ ((.int .i64 0) :: [])))) (cs' := (((Stand.mk 0 Dig.zero 0))).cells) hC hB rfl rfl rfl sz44 rfl (by simp [cl_]) (by simp [cl_, Value.oneCell']) (by simp [cl_]) (by simp [cl_]) rfl ?_; intro w hC hB
 refine A_ rfl ?_
 refine wlThen (wcSeq (wcSeq (wcRegion ?_)))
 refine M_ rfl <| M_ rfl <| wlOn rfl rfl <| M_ rfl <| wlOn rfl rfl ?_
 refine wlCallS hC hB rfl co11 rfl rfl (lowZ_ret _ _ hC.holds _ hF14) ?_; intro w hk hC hB
 refine wlOn rfl rfl <| V_ (opNeq rfl rfl) <| V_ (opPickF rfl rfl) <| M_ rfl <| wlOn rfl rfl <| M_ rfl <| wlOn rfl rfl ?_
 refine wlCallS hC hB rfl co12 rfl rfl (raiseZ_ret _ _ hC.holds _ hF14 ((-1)) hsil) ?_; intro w hk hC hB
 refine wlOn rfl rfl <| V_ (opNeq rfl rfl) <| V_ (opPickF rfl rfl) <| M_ rfl <| wlOn rfl rfl <| M_ rfl <| wlOn rfl rfl <| V_ (opLoadRow (cs := Dig.zero.cells) rfl (hB.range (i := 2) (m := 32) rfl (by simp [cl_])) row37 (by simp [cl_])) <| wlOn rfl rfl ?_
 refine wlCallS hC hB rfl co13 rfl rfl (proposeZ_ret _ _ hC.holds _ hF14 ((-1)) 0 Dig.zero hsil) ?_; intro w hk hC hB
 refine wlOn rfl rfl <| V_ (opNeq rfl rfl) <| V_ (opPickF rfl rfl) <| M_ rfl <| wlOn rfl rfl <| M_ rfl <| wlOn rfl rfl <| V_ (opLoadRow (cs := Dig.zero.cells) rfl (hB.range (i := 2) (m := 32) rfl (by simp [cl_])) row37 (by simp [cl_])) <| wlOn rfl rfl ?_
 refine wlCallS hC hB rfl co14 rfl rfl (prepareZ_ret _ _ hC.holds _ hF14 0 0 0 Dig.zero hsil) ?_; intro w hk hC hB
 refine wlOn rfl rfl <| V_ (opNeq rfl rfl) <| V_ (opPickF rfl rfl) <| M_ rfl <| wlOn rfl rfl <| M_ rfl <| wlOn rfl rfl <| V_ (opLoadRow (cs := Dig.zero.cells) rfl (hB.range (i := 2) (m := 32) rfl (by simp [cl_])) row37 (by simp [cl_])) <| wlOn rfl rfl ?_
 refine wlCallS hC hB rfl co15 rfl rfl (commitZ_ret _ _ hC.holds _ hF14 0 0 0 Dig.zero) ?_; intro w hk hC hB
 refine wlOn rfl rfl <| V_ (opNeq rfl rfl) <| V_ (opPickF rfl rfl) <| M_ rfl <| wlOn rfl rfl <| M_ rfl <| wlOn rfl rfl ?_
 refine wlCallS hC hB rfl co16 rfl rfl (preparedZ_ret _ _ hC.holds _ hF14 1 hsil) ?_; intro w hk hC hB
 refine V_ (opPickF rfl rfl) <| M_ rfl <| wlOn rfl rfl <| M_ rfl <| wlOn rfl rfl ?_
 refine wlCallS hC hB rfl co17 rfl rfl (committedZ_ret _ _ hC.holds _ hF14 1 hsil) ?_; intro w hk hC hB
 refine V_ (opPickF rfl rfl) <| M_ rfl <| wlOn rfl rfl <| M_ rfl <| wlOn rfl rfl ?_
 refine wlCallO (bl := [(b16, 44, (((Stand.mk 0 Dig.zero 0))).cells), (b2, 44, (((Stand.mk 0 Dig.zero 0))).cells), (b1, 37, Dig.zero.cells)]) (r := (Option.toList o10 ++ (Option.toList o5 ++ []))) hC hB rfl co18 rfl rfl (pZ_ret _ _ hC.holds _ hF14 hsil) ?_; rintro v21 G o19 w hk hC hB ⟨A17, cap18, rfl, hO20⟩
 replace hsil := hsil.mono hk.gle
 replace hF14 := hF14.mono hk.gle
 refine wlOn rfl rfl <| V_ (opLen rfl isl38) <| wlOn rfl rfl <| V_ (OpVal.cast (opNeq rfl rfl) (congrArg Value.bool cl4_267)) <| V_ (opPickF rfl rfl) <| M_ rfl <| wlOn rfl rfl <| M_ rfl <| wlOn rfl rfl ?_
 refine wlCallO (bl := [(b16, 44, (((Stand.mk 0 Dig.zero 0))).cells), (b2, 44, (((Stand.mk 0 Dig.zero 0))).cells), (b1, 37, Dig.zero.cells)]) (r := (Option.toList o19 ++ (Option.toList o10 ++ (Option.toList o5 ++ [])))) hC hB rfl co19 rfl rfl (qZ_ret _ _ hC.holds _ hF14) ?_; rintro v26 G o24 w hk hC hB ⟨A22, cap23, rfl, hO25⟩
 replace hsil := hsil.mono hk.gle
 replace hF14 := hF14.mono hk.gle
 refine wlOn rfl rfl <| V_ (opLen rfl isl38) <| wlOn rfl rfl <| V_ (OpVal.cast (opNeq rfl rfl) (congrArg Value.bool cl4_267)) <| V_ (opPickF rfl rfl) <| M_ rfl <| wlOn rfl rfl <| M_ rfl <| wlOn rfl rfl ?_
 refine wlCallS hC hB rfl co20 rfl rfl (restoreZ_ret _ _ hC.holds _ hF14 _ ([]) (Sl.nil_ _) _ ([]) (Sl.nil_ _) hsil) ?_; intro w hk hC hB
 refine wlOn rfl rfl <| V_ (opNeq rfl rfl) <| V_ (opPickF rfl rfl) <| wlThen <| wcCondF rfl <| wcSkip <| wcOf <| wcRegion <| V_ (B_ (ps := []) (cs := [(.int .i64 0), (.slice none 0 0), (.int .i64 0), (.map none)]) so56 zero56 rfl rfl) ?_
 refine wlBox (cs := [(.int .i64 0), (.slice none 0 0), (.int .i64 0), (.map none)]) hC hB rfl rfl rfl ?_; intro b27 w hk hC hB
 refine A_ rfl <| wlNil <| wcOf <| wcRegion <| M_ rfl <| V_ (OpVal.cast (v' := .int .i64 2) (opAdd rfl rfl) (congrArg (Value.int .i64) (by decide))) <| A_ rfl <| wlRound <| wrSucc ?_
 refine wcSeq (wcSeq (wcRegion ?_))
 refine M_ rfl <| V_ (opLss rfl rfl) <| wlThen <| wcCondF rfl <| wcExit <| wcOf <| wcSeq <| wcRegion ?_
 refine wlCallS hC hB rfl co21 rfl rfl (digest_ret _ _ hC.holds ((1 : UInt8))) ?_; intro w hk hC hB
 refine wlCallS hC hB rfl co21 rfl rfl (digest_ret _ _ hC.holds ((2 : UInt8))) ?_; intro w hk hC hB
 refine wlAlloc hC hB zero37 rfl ?_; intro b28 w hk hC hB
 refine wlAlloc hC hB zero37 rfl ?_; intro b29 w hk hC hB
 refine wlStore 1 (vs := (((digN ((1 : UInt8))))).cells) (cs := Dig.zero.cells) (cs' := (((digN ((1 : UInt8))))).cells) hC hB rfl rfl rfl sz37 rfl (by simp [cl_]) (by simp [cl_, Value.oneCell']) (by simp [cl_]) (by simp [cl_]) rfl ?_; intro w hC hB
 refine wlStore 0 (vs := (((digN ((2 : UInt8))))).cells) (cs := Dig.zero.cells) (cs' := (((digN ((2 : UInt8))))).cells) hC hB rfl rfl rfl sz37 rfl (by simp [cl_]) (by simp [cl_, Value.oneCell']) (by simp [cl_]) (by simp [cl_]) rfl ?_; intro w hC hB
 refine wlThen <| wcSeq ?_
 refine wcDrawS 10 [0, 1, 0, 4, 0, 16, 16, 80, 255, 511] fmix (by kernel_rfl) (by kernel_rfl) rfl hC hB ?_; intro w hC hB
 refine E_ 0 rfl rfl (opLoadRow (cs := (((digN ((1 : UInt8))))).cells) rfl (hB.range (i := 1) (m := 32) rfl (by simp [cl_])) row37 (by simp [cl_])) <| D_ 1 rfl rfl (fun _ => (B_ (ps := [(0, .const (.int .i64 2)), (1, .tmp 77)]) (cs := ((.int .i64 2) :: ((((digN ((1 : UInt8))))).cells ++ ((.int .i64 0) :: [])))) so44 zero44 rfl rfl)) <| E_ 2 rfl rfl (opLoadRow (cs := (((digN ((2 : UInt8))))).cells) rfl (hB.range (i := 0) (m := 32) rfl (by simp [cl_])) row37 (by simp [cl_])) <| D_ 3 rfl rfl (fun _ => (B_ (ps := [(0, .const (.int .i64 2)), (1, .tmp 79)]) (cs := ((.int .i64 2) :: ((((digN ((2 : UInt8))))).cells ++ ((.int .i64 0) :: [])))) so44 zero44 rfl rfl)) ?_
 refine wdAll [4] (by kernel_rfl) rfl ⟨wd1 rfl ?_, trivial⟩
 intro hGd
 refine wlCallS hC hB rfl co21 rfl rfl (digest_ret _ _ hC.holds ((3 : UInt8))) ?_; intro w hk hC hB
 refine wdNext hGd rfl (kpKeep rfl (kpKeep rfl kpNil)) (Tk.cons (p := (_, fun w => OpVal _ _ _ w _ _)) (opLoadRow (cs := (((digN ((2 : UInt8))))).cells) rfl (hB.range (i := 0) (m := 32) rfl (by simp [cl_])) row37 (by simp [cl_])) (Tk.cons (p := (_, fun w => OpVal _ _ _ w _ _)) (opLoadRow (cs := (((digN ((1 : UInt8))))).cells) rfl (hB.range (i := 1) (m := 32) rfl (by simp [cl_])) row37 (by simp [cl_])) (Tk.nil _))) ?_
 refine D_ 5 rfl rfl (fun _ => (B_ (ps := [(0, .const (.int .i64 2)), (1, .tmp 81), (2, .const (.int .i64 1))]) (cs := ((.int .i64 2) :: ((((digN ((3 : UInt8))))).cells ++ ((.int .i64 1) :: [])))) so44 zero44 rfl rfl)) ?_
 refine wdAll [6] (by kernel_rfl) rfl ⟨wd1 rfl ?_, trivial⟩
 intro hGd
 refine wlCallS hC hB rfl co21 rfl rfl (digest_ret _ _ hC.holds ((4 : UInt8))) ?_; intro w hk hC hB
 refine wdNext hGd rfl (kpKeep rfl (kpKeep rfl kpNil)) (Tk.cons (p := (_, fun w => OpVal _ _ _ w _ _)) (opLoadRow (cs := (((digN ((2 : UInt8))))).cells) rfl (hB.range (i := 0) (m := 32) rfl (by simp [cl_])) row37 (by simp [cl_])) (Tk.cons (p := (_, fun w => OpVal _ _ _ w _ _)) (opLoadRow (cs := (((digN ((1 : UInt8))))).cells) rfl (hB.range (i := 1) (m := 32) rfl (by simp [cl_])) row37 (by simp [cl_])) (Tk.nil _))) ?_
 refine D_ 7 rfl rfl (fun _ => (B_ (ps := [(0, .const (.int .i64 2)), (1, .tmp 83), (2, .const (.int .i64 2))]) (cs := ((.int .i64 2) :: ((((digN ((4 : UInt8))))).cells ++ ((.int .i64 2) :: [])))) so44 zero44 rfl rfl)) ?_
 refine wdAll [8] (by kernel_rfl) rfl ⟨wd1 rfl ?_, trivial⟩
 intro hGd
 refine wlBuildSlice (α := Stand) (ps := [(0, .tmp 78), (1, .tmp 80), (2, .tmp 82), (3, .tmp 84)]) (xs := [(Stand.mk 2 (((digN ((1 : UInt8))))) 0), (Stand.mk 2 (((digN ((2 : UInt8))))) 0), (Stand.mk 2 (((digN ((3 : UInt8))))) 1), (Stand.mk 2 (((digN ((4 : UInt8))))) 2)]) (rows := [((.int .i64 2) :: ((((digN ((1 : UInt8))))).cells ++ ((.int .i64 0) :: []))), ((.int .i64 2) :: ((((digN ((2 : UInt8))))).cells ++ ((.int .i64 0) :: []))), ((.int .i64 2) :: ((((digN ((3 : UInt8))))).cells ++ ((.int .i64 1) :: []))), ((.int .i64 2) :: ((((digN ((4 : UInt8))))).cells ++ ((.int .i64 2) :: [])))]) elo38 rfl rfl hC hB rfl rfl rfl ⟨rfl, rfl, rfl, rfl, trivial⟩ rfl ?_; intro b30 G w hk hC hB hs31
 replace hsil := hsil.mono hk.gle
 refine wdNext hGd rfl (kpDrop rfl (kpDrop rfl kpNil)) (Tk.nil _) ?_
 refine D_ 9 rfl rfl (fun _ => opAssign rfl) <| wdDone (by kernel_rfl) <| wcOf <| wcSeq ?_
 obtain ⟨row41, hr42, hi43⟩ := Sl.elem' hs31 (rfl : ([(Stand.mk 2 (((digN ((1 : UInt8))))) 0), (Stand.mk 2 (((digN ((2 : UInt8))))) 0), (Stand.mk 2 (((digN ((3 : UInt8))))) 1), (Stand.mk 2 (((digN ((4 : UInt8))))) 2)] : List Stand)[1]? = some ((Stand.mk 2 (((digN ((2 : UInt8))))) 0)))
 obtain rfl := hi43
 obtain ⟨row54, hr55, hi56⟩ := Sl.elem' hs31 (rfl : ([(Stand.mk 2 (((digN ((1 : UInt8))))) 0), (Stand.mk 2 (((digN ((2 : UInt8))))) 0), (Stand.mk 2 (((digN ((3 : UInt8))))) 1), (Stand.mk 2 (((digN ((4 : UInt8))))) 2)] : List Stand)[0]? = some ((Stand.mk 2 (((digN ((1 : UInt8))))) 0)))
 obtain rfl := hi56
 refine wcDraw fmix (by kernel_rfl) (by kernel_rfl) (vAt [(fun _ v_ => v_ = ((.agg ((.int .i64 0) :: ((.int .i64 0) :: ((.int .i64 ((-1))) :: ((.int .i64 1) :: (Dig.zero.cells ++ ((.slice none 0 0) :: ((.slice none 0 0) :: []))))))).toArray) : Value)), (fun _ v_ => v_ = ((.agg ((.int .i64 0) :: ((.int .i64 0) :: ((.int .i64 1048577) :: ((.int .i64 1) :: (Dig.zero.cells ++ ((.slice none 0 0) :: ((.slice none 0 0) :: []))))))).toArray) : Value)), (fun _ v_ => v_ = ((.agg (((digN ((1 : UInt8))))).cells.toArray) : Value)), (fun _ v_ => v_ = ((.agg ((.int .i64 0) :: ((.int .i64 0) :: ((.int .i64 1048576) :: ((.int .i64 1) :: ((((digN ((1 : UInt8))))).cells ++ ((.slice none 0 0) :: ((.slice none 0 0) :: []))))))).toArray) : Value)), (fun _ v_ => v_ = ((.agg ((.int .i64 0) :: ((.int .i64 0) :: ((.int .i64 3) :: ((.int .i64 1) :: (Dig.zero.cells ++ ((.slice none 0 0) :: ((.slice none 0 0) :: []))))))).toArray) : Value)), (fun _ v_ => v_ = ((.agg ((.int .i64 0) :: ((.int .i64 0) :: ((.int .i64 0) :: ((.int .i64 0) :: (Dig.zero.cells ++ ((.slice none 0 0) :: ((.slice none 0 0) :: []))))))).toArray) : Value)), (fun _ v_ => v_ = ((.agg ((.int .i64 0) :: ((.int .i64 0) :: ((.int .i64 0) :: ((.int .i64 9) :: (Dig.zero.cells ++ ((.slice none 0 0) :: ((.slice none 0 0) :: []))))))).toArray) : Value)), (fun _ v_ => v_ = ((.agg (((digN ((1 : UInt8))))).cells.toArray) : Value)), (fun _ v_ => v_ = ((.agg ((.int .i64 0) :: ((.int .i64 0) :: ((.int .i64 0) :: ((.int .i64 8) :: ((((digN ((1 : UInt8))))).cells ++ ((.slice none 0 0) :: ((.slice none 0 0) :: []))))))).toArray) : Value)), (fun _ v_ => v_ = ((.agg ((.int .i64 1) :: ((.int .i64 9) :: ((.int .i64 0) :: ((.int .i64 0) :: (Dig.zero.cells ++ ((.slice none 0 0) :: ((.slice none 0 0) :: []))))))).toArray) : Value)), (fun _ v_ => v_ = ((.agg ((.int .i64 1) :: ((.int .i64 2) :: ((.int .i64 ((-1))) :: ((.int .i64 0) :: (Dig.zero.cells ++ ((.slice none 0 0) :: ((.slice none 0 0) :: []))))))).toArray) : Value)), (fun _ v_ => v_ = ((.agg ((.int .i64 1) :: ((.int .i64 1) :: ((.int .i64 0) :: ((.int .i64 99) :: (Dig.zero.cells ++ ((.slice none 0 0) :: ((.slice none 0 0) :: []))))))).toArray) : Value)), (fun _ v_ => v_ = ((.agg ((.int .i64 1) :: ((.int .i64 2) :: ((.int .i64 1) :: ((.int .i64 99) :: (Dig.zero.cells ++ ((.slice none 0 0) :: ((.slice none 0 0) :: []))))))).toArray) : Value)), (fun _ v_ => v_ = ((.agg (((digN ((1 : UInt8))))).cells.toArray) : Value)), (fun _ v_ => v_ = ((.agg ((.int .i64 1) :: ((.int .i64 2) :: ((.int .i64 2) :: ((.int .i64 8) :: ((((digN ((1 : UInt8))))).cells ++ ((.slice none 0 0) :: ((.slice none 0 0) :: []))))))).toArray) : Value)), (fun _ v_ => v_ = ((.agg (((digN ((1 : UInt8))))).cells.toArray) : Value)), (fun _ v_ => v_ = ((.agg ((.int .i64 1) :: ((.int .i64 2) :: ((.int .i64 0) :: ((.int .i64 8) :: ((((digN ((1 : UInt8))))).cells ++ ((.slice none 0 0) :: ((.slice none 0 0) :: []))))))).toArray) : Value)), (fun _ v_ => v_ = ((.agg (((digN ((2 : UInt8))))).cells.toArray) : Value)), (fun _ v_ => v_ = ((.agg ((.int .i64 1) :: ((.int .i64 2) :: ((.int .i64 2) :: ((.int .i64 8) :: ((((digN ((2 : UInt8))))).cells ++ ((.slice none 0 0) :: ((.slice none 0 0) :: []))))))).toArray) : Value)), (fun _ v_ => v_ = ((.agg (((digN ((1 : UInt8))))).cells.toArray) : Value)), (fun _ v_ => v_ = ((.agg ((.int .i64 1) :: ((.int .i64 2) :: ((.int .i64 2) :: ((.int .i64 8) :: ((((digN ((1 : UInt8))))).cells ++ ((.slice none 0 0) :: ((.slice none 0 0) :: []))))))).toArray) : Value)), (fun _ v_ => v_ = ((.agg ((.int .i64 2) :: ((.int .i64 9) :: ((.int .i64 0) :: ((.int .i64 0) :: (Dig.zero.cells ++ ((.slice none 0 0) :: ((.slice none 0 0) :: []))))))).toArray) : Value)), (fun _ v_ => v_ = ((.agg (((digN ((1 : UInt8))))).cells.toArray) : Value)), (fun _ v_ => v_ = ((.agg ((.int .i64 2) :: ((.int .i64 1) :: ((.int .i64 0) :: ((.int .i64 8) :: ((((digN ((1 : UInt8))))).cells ++ ((.slice none 0 0) :: ((.slice none 0 0) :: []))))))).toArray) : Value)), (fun _ v_ => v_ = ((.agg ((.int .i64 2) :: ((.int .i64 1) :: ((.int .i64 ((-1))) :: ((.int .i64 0) :: (Dig.zero.cells ++ ((.slice none 0 0) :: ((.slice none 0 0) :: []))))))).toArray) : Value)), (fun _ v_ => v_ = ((.agg ((.int .i64 2) :: ((.int .i64 1) :: ((.int .i64 0) :: ((.int .i64 0) :: (Dig.zero.cells ++ ((.slice none 0 0) :: ((.slice none 0 0) :: []))))))).toArray) : Value)), (fun _ v_ => v_ = ((.agg (((digN ((2 : UInt8))))).cells.toArray) : Value)), (fun _ v_ => v_ = ((.agg ((.int .i64 2) :: ((.int .i64 1) :: ((.int .i64 0) :: ((.int .i64 8) :: ((((digN ((2 : UInt8))))).cells ++ ((.slice none 0 0) :: ((.slice none 0 0) :: []))))))).toArray) : Value)), (fun _ v_ => v_ = ((.agg ((.int .i64 3) :: ((.int .i64 0) :: ((.int .i64 0) :: ((.int .i64 ((-1))) :: (Dig.zero.cells ++ ((.slice none 0 0) :: ((.slice none 0 0) :: []))))))).toArray) : Value)), (fun _ v_ => v_ = ((.agg ((.int .i64 3) :: ((.int .i64 0) :: ((.int .i64 0) :: ((.int .i64 9007199254740991) :: (Dig.zero.cells ++ ((.slice none 0 0) :: ((.slice none 0 0) :: []))))))).toArray) : Value)), (fun _ v_ => v_ = ((.slice (some ⟨b30, 0, none⟩) 4 4) : Value)), (fun _ v_ => v_ = ((.agg ((.int .i64 4) :: ((.int .i64 0) :: ((.int .i64 0) :: ((.int .i64 0) :: (Dig.zero.cells ++ ((.slice none 0 0) :: ((.slice (some ⟨b30, 0, none⟩) 4 4) :: []))))))).toArray) : Value)), (fun _ v_ => v_ = ((.slice (some ⟨b30, 0, none⟩) 4 4) : Value)), (fun _ v_ => v_ = ((.agg (((digN ((5 : UInt8))))).cells.toArray) : Value)), (fun _ v_ => v_ = ((.agg ((.int .i64 2) :: ((((digN ((5 : UInt8))))).cells ++ ((.int .i64 3) :: []))).toArray) : Value)), (fun G v => ∃ bb_, v = .slice (some ⟨bb_, 0, none⟩) 1 1 ∧ Sl G v ([(Stand.mk 2 (((digN ((5 : UInt8))))) 3)] : List Stand)), ((fun G v => ∃ A cap, v = .slice A ([(Stand.mk 2 (((digN ((1 : UInt8))))) 0), (Stand.mk 2 (((digN ((2 : UInt8))))) 0), (Stand.mk 2 (((digN ((3 : UInt8))))) 1), (Stand.mk 2 (((digN ((4 : UInt8))))) 2)] ++ [(Stand.mk 2 (((digN ((5 : UInt8))))) 3)]).length cap ∧ Sl G (.slice A ([(Stand.mk 2 (((digN ((1 : UInt8))))) 0), (Stand.mk 2 (((digN ((2 : UInt8))))) 0), (Stand.mk 2 (((digN ((3 : UInt8))))) 1), (Stand.mk 2 (((digN ((4 : UInt8))))) 2)] ++ [(Stand.mk 2 (((digN ((5 : UInt8))))) 3)]).length cap) (([(Stand.mk 2 (((digN ((1 : UInt8))))) 0), (Stand.mk 2 (((digN ((2 : UInt8))))) 0), (Stand.mk 2 (((digN ((3 : UInt8))))) 1), (Stand.mk 2 (((digN ((4 : UInt8))))) 2)] ++ [(Stand.mk 2 (((digN ((5 : UInt8))))) 3)]) : List Stand))), ((fun G v => ∃ cs_ : List Value, v = .agg cs_.toArray ∧ Rp.Is G cs_ ((Do.mk 4 0 0 0 Dig.zero ([]) (([(Stand.mk 2 (((digN ((1 : UInt8))))) 0), (Stand.mk 2 (((digN ((2 : UInt8))))) 0), (Stand.mk 2 (((digN ((3 : UInt8))))) 1), (Stand.mk 2 (((digN ((4 : UInt8))))) 2)] ++ [(Stand.mk 2 (((digN ((5 : UInt8))))) 3)]))) : Do))), (fun _ v_ => v_ = ((.slice (some ⟨b30, 0, none⟩) 4 4) : Value)), (fun _ v_ => v_ = ((.pointer (some ⟨b30, 0 + 1 * 34, none⟩)) : Value)), (fun _ v_ => v_ = ((.agg ((Stand.mk 2 (((digN ((2 : UInt8))))) 0)).cells.toArray) : Value)), (fun _ v_ => v_ = ((.slice (some ⟨b30, 0, none⟩) 4 4) : Value)), (fun _ v_ => v_ = ((.pointer (some ⟨b30, 0 + 0 * 34, none⟩)) : Value)), (fun _ v_ => v_ = ((.agg ((Stand.mk 2 (((digN ((1 : UInt8))))) 0)).cells.toArray) : Value)), (fun G v => ∃ bb_, v = .slice (some ⟨bb_, 0, none⟩) 2 2 ∧ Sl G v ([(Stand.mk 2 (((digN ((2 : UInt8))))) 0), (Stand.mk 2 (((digN ((1 : UInt8))))) 0)] : List Stand)), ((fun G v => ∃ cs_ : List Value, v = .agg cs_.toArray ∧ Rp.Is G cs_ ((Do.mk 4 0 0 0 Dig.zero ([]) ([(Stand.mk 2 (((digN ((2 : UInt8))))) 0), (Stand.mk 2 (((digN ((1 : UInt8))))) 0)])) : Do))), (fun _ v_ => v_ = ((.slice (some ⟨b30, 0, none⟩) 4 4) : Value)), (fun _ v_ => v_ = ((.pointer (some ⟨b30, 0 + 0 * 34, none⟩)) : Value)), (fun _ v_ => v_ = ((.agg ((Stand.mk 2 (((digN ((1 : UInt8))))) 0)).cells.toArray) : Value)), (fun _ v_ => v_ = ((.agg (((digN ((1 : UInt8))))).cells.toArray) : Value)), (fun _ v_ => v_ = ((.agg ((.int .i64 2) :: ((((digN ((1 : UInt8))))).cells ++ ((.int .i64 4) :: []))).toArray) : Value)), (fun G v => ∃ bb_, v = .slice (some ⟨bb_, 0, none⟩) 2 2 ∧ Sl G v ([(Stand.mk 2 (((digN ((1 : UInt8))))) 0), (Stand.mk 2 (((digN ((1 : UInt8))))) 4)] : List Stand)), ((fun G v => ∃ cs_ : List Value, v = .agg cs_.toArray ∧ Rp.Is G cs_ ((Do.mk 4 0 0 0 Dig.zero ([]) ([(Stand.mk 2 (((digN ((1 : UInt8))))) 0), (Stand.mk 2 (((digN ((1 : UInt8))))) 4)])) : Do))), (fun _ v_ => v_ = ((.agg ((.int .i64 9) :: (Dig.zero.cells ++ ((.int .i64 0) :: []))).toArray) : Value)), (fun G v => ∃ bb_, v = .slice (some ⟨bb_, 0, none⟩) 1 1 ∧ Sl G v ([(Stand.mk 9 Dig.zero 0)] : List Stand)), ((fun G v => ∃ cs_ : List Value, v = .agg cs_.toArray ∧ Rp.Is G cs_ ((Do.mk 4 0 0 0 Dig.zero ([]) ([(Stand.mk 9 Dig.zero 0)])) : Do))), (fun _ v_ => v_ = ((.agg ((.int .i64 3) :: (Dig.zero.cells ++ ((.int .i64 ((-1))) :: []))).toArray) : Value)), (fun G v => ∃ bb_, v = .slice (some ⟨bb_, 0, none⟩) 1 1 ∧ Sl G v ([(Stand.mk 3 Dig.zero ((-1)))] : List Stand)), ((fun G v => ∃ cs_ : List Value, v = .agg cs_.toArray ∧ Rp.Is G cs_ ((Do.mk 4 0 0 0 Dig.zero ([]) ([(Stand.mk 3 Dig.zero ((-1)))])) : Do))), (fun _ v_ => v_ = ((.agg (((digN ((1 : UInt8))))).cells.toArray) : Value)), (fun _ v_ => v_ = ((.agg ((.int .i64 3) :: ((((digN ((1 : UInt8))))).cells ++ ((.int .i64 0) :: []))).toArray) : Value)), (fun _ v_ => v_ = ((.agg (((digN ((2 : UInt8))))).cells.toArray) : Value)), (fun _ v_ => v_ = ((.agg ((.int .i64 3) :: ((((digN ((2 : UInt8))))).cells ++ ((.int .i64 0) :: []))).toArray) : Value)), (fun G v => ∃ bb_, v = .slice (some ⟨bb_, 0, none⟩) 2 2 ∧ Sl G v ([(Stand.mk 3 (((digN ((1 : UInt8))))) 0), (Stand.mk 3 (((digN ((2 : UInt8))))) 0)] : List Stand)), ((fun G v => ∃ cs_ : List Value, v = .agg cs_.toArray ∧ Rp.Is G cs_ ((Do.mk 4 0 0 0 Dig.zero ([(Stand.mk 3 (((digN ((1 : UInt8))))) 0), (Stand.mk 3 (((digN ((2 : UInt8))))) 0)]) ([])) : Do))), (fun _ v_ => v_ = ((.agg ((.int .i64 3) :: (Dig.zero.cells ++ ((.int .i64 1048577) :: []))).toArray) : Value)), (fun G v => ∃ bb_, v = .slice (some ⟨bb_, 0, none⟩) 1 1 ∧ Sl G v ([(Stand.mk 3 Dig.zero 1048577)] : List Stand)), ((fun G v => ∃ cs_ : List Value, v = .agg cs_.toArray ∧ Rp.Is G cs_ ((Do.mk 4 0 0 0 Dig.zero ([(Stand.mk 3 Dig.zero 1048577)]) ([])) : Do))), (fun _ v_ => v_ = ((.slice (some ⟨b30, 0, none⟩) 4 4) : Value)), (fun _ v_ => v_ = ((.slice (some ⟨b30, 0, none⟩) 1 4) : Value)), (fun _ v_ => v_ = ((.slice (some ⟨b30, 0, none⟩) 4 4) : Value)), (fun _ v_ => v_ = ((.agg ((.int .i64 4) :: ((.int .i64 0) :: ((.int .i64 0) :: ((.int .i64 0) :: (Dig.zero.cells ++ ((.slice (some ⟨b30, 0, none⟩) 1 4) :: ((.slice (some ⟨b30, 0, none⟩) 4 4) :: []))))))).toArray) : Value)), (fun _ v_ => v_ = ((.agg (((digN ((6 : UInt8))))).cells.toArray) : Value)), (fun _ v_ => v_ = ((.agg ((.int .i64 0) :: ((.int .i64 0) :: ((.int .i64 2) :: ((.int .i64 2) :: ((((digN ((6 : UInt8))))).cells ++ ((.slice none 0 0) :: ((.slice none 0 0) :: []))))))).toArray) : Value)), (fun _ v_ => v_ = ((.agg (((digN ((6 : UInt8))))).cells.toArray) : Value)), (fun _ v_ => v_ = ((.agg ((.int .i64 0) :: ((.int .i64 0) :: ((.int .i64 5) :: ((.int .i64 2) :: ((((digN ((6 : UInt8))))).cells ++ ((.slice none 0 0) :: ((.slice none 0 0) :: []))))))).toArray) : Value)), (fun _ v_ => v_ = ((.agg ((.int .i64 3) :: ((.int .i64 0) :: ((.int .i64 0) :: ((.int .i64 1) :: (Dig.zero.cells ++ ((.slice none 0 0) :: ((.slice none 0 0) :: []))))))).toArray) : Value)), (fun _ v_ => v_ = ((.agg ((.int .i64 3) :: ((.int .i64 0) :: ((.int .i64 0) :: ((.int .i64 5) :: (Dig.zero.cells ++ ((.slice none 0 0) :: ((.slice none 0 0) :: []))))))).toArray) : Value)), (fun _ v_ => v_ = ((.agg ((.int .i64 3) :: ((.int .i64 0) :: ((.int .i64 0) :: ((.int .i64 1099511627776) :: (Dig.zero.cells ++ ((.slice none 0 0) :: ((.slice none 0 0) :: []))))))).toArray) : Value)), (fun G v => ∃ bb_, v = .slice (some ⟨bb_, 0, none⟩) 36 36 ∧ Sl G v ([(Do.mk 0 0 ((-1)) 1 Dig.zero ([]) ([])), (Do.mk 0 0 1048577 1 Dig.zero ([]) ([])), (Do.mk 0 0 1048576 1 (((digN ((1 : UInt8))))) ([]) ([])), (Do.mk 0 0 3 1 Dig.zero ([]) ([])), (Do.mk 0 0 0 0 Dig.zero ([]) ([])), (Do.mk 0 0 0 9 Dig.zero ([]) ([])), (Do.mk 0 0 0 8 (((digN ((1 : UInt8))))) ([]) ([])), (Do.mk 1 9 0 0 Dig.zero ([]) ([])), (Do.mk 1 2 ((-1)) 0 Dig.zero ([]) ([])), (Do.mk 1 1 0 99 Dig.zero ([]) ([])), (Do.mk 1 2 1 99 Dig.zero ([]) ([])), (Do.mk 1 2 2 8 (((digN ((1 : UInt8))))) ([]) ([])), (Do.mk 1 2 0 8 (((digN ((1 : UInt8))))) ([]) ([])), (Do.mk 1 2 2 8 (((digN ((2 : UInt8))))) ([]) ([])), (Do.mk 1 2 2 8 (((digN ((1 : UInt8))))) ([]) ([])), (Do.mk 2 9 0 0 Dig.zero ([]) ([])), (Do.mk 2 1 0 8 (((digN ((1 : UInt8))))) ([]) ([])), (Do.mk 2 1 ((-1)) 0 Dig.zero ([]) ([])), (Do.mk 2 1 0 0 Dig.zero ([]) ([])), (Do.mk 2 1 0 8 (((digN ((2 : UInt8))))) ([]) ([])), (Do.mk 3 0 0 ((-1)) Dig.zero ([]) ([])), (Do.mk 3 0 0 9007199254740991 Dig.zero ([]) ([])), (Do.mk 4 0 0 0 Dig.zero ([]) ([(Stand.mk 2 (((digN ((1 : UInt8))))) 0), (Stand.mk 2 (((digN ((2 : UInt8))))) 0), (Stand.mk 2 (((digN ((3 : UInt8))))) 1), (Stand.mk 2 (((digN ((4 : UInt8))))) 2)])), (Do.mk 4 0 0 0 Dig.zero ([]) (([(Stand.mk 2 (((digN ((1 : UInt8))))) 0), (Stand.mk 2 (((digN ((2 : UInt8))))) 0), (Stand.mk 2 (((digN ((3 : UInt8))))) 1), (Stand.mk 2 (((digN ((4 : UInt8))))) 2)] ++ [(Stand.mk 2 (((digN ((5 : UInt8))))) 3)]))), (Do.mk 4 0 0 0 Dig.zero ([]) ([(Stand.mk 2 (((digN ((2 : UInt8))))) 0), (Stand.mk 2 (((digN ((1 : UInt8))))) 0)])), (Do.mk 4 0 0 0 Dig.zero ([]) ([(Stand.mk 2 (((digN ((1 : UInt8))))) 0), (Stand.mk 2 (((digN ((1 : UInt8))))) 4)])), (Do.mk 4 0 0 0 Dig.zero ([]) ([(Stand.mk 9 Dig.zero 0)])), (Do.mk 4 0 0 0 Dig.zero ([]) ([(Stand.mk 3 Dig.zero ((-1)))])), (Do.mk 4 0 0 0 Dig.zero ([(Stand.mk 3 (((digN ((1 : UInt8))))) 0), (Stand.mk 3 (((digN ((2 : UInt8))))) 0)]) ([])), (Do.mk 4 0 0 0 Dig.zero ([(Stand.mk 3 Dig.zero 1048577)]) ([])), (Do.mk 4 0 0 0 Dig.zero (([(Stand.mk 2 (((digN ((1 : UInt8))))) 0), (Stand.mk 2 (((digN ((2 : UInt8))))) 0), (Stand.mk 2 (((digN ((3 : UInt8))))) 1), (Stand.mk 2 (((digN ((4 : UInt8))))) 2)].take 1)) ([(Stand.mk 2 (((digN ((1 : UInt8))))) 0), (Stand.mk 2 (((digN ((2 : UInt8))))) 0), (Stand.mk 2 (((digN ((3 : UInt8))))) 1), (Stand.mk 2 (((digN ((4 : UInt8))))) 2)])), (Do.mk 0 0 2 2 (((digN ((6 : UInt8))))) ([]) ([])), (Do.mk 0 0 5 2 (((digN ((6 : UInt8))))) ([]) ([])), (Do.mk 3 0 0 1 Dig.zero ([]) ([])), (Do.mk 3 0 0 5 Dig.zero ([]) ([])), (Do.mk 3 0 0 1099511627776 Dig.zero ([]) ([]))] : List Do)), (fun G v => ∃ bb_, v = .slice (some ⟨bb_, 0, none⟩) 36 36 ∧ Sl G v ([(Do.mk 0 0 ((-1)) 1 Dig.zero ([]) ([])), (Do.mk 0 0 1048577 1 Dig.zero ([]) ([])), (Do.mk 0 0 1048576 1 (((digN ((1 : UInt8))))) ([]) ([])), (Do.mk 0 0 3 1 Dig.zero ([]) ([])), (Do.mk 0 0 0 0 Dig.zero ([]) ([])), (Do.mk 0 0 0 9 Dig.zero ([]) ([])), (Do.mk 0 0 0 8 (((digN ((1 : UInt8))))) ([]) ([])), (Do.mk 1 9 0 0 Dig.zero ([]) ([])), (Do.mk 1 2 ((-1)) 0 Dig.zero ([]) ([])), (Do.mk 1 1 0 99 Dig.zero ([]) ([])), (Do.mk 1 2 1 99 Dig.zero ([]) ([])), (Do.mk 1 2 2 8 (((digN ((1 : UInt8))))) ([]) ([])), (Do.mk 1 2 0 8 (((digN ((1 : UInt8))))) ([]) ([])), (Do.mk 1 2 2 8 (((digN ((2 : UInt8))))) ([]) ([])), (Do.mk 1 2 2 8 (((digN ((1 : UInt8))))) ([]) ([])), (Do.mk 2 9 0 0 Dig.zero ([]) ([])), (Do.mk 2 1 0 8 (((digN ((1 : UInt8))))) ([]) ([])), (Do.mk 2 1 ((-1)) 0 Dig.zero ([]) ([])), (Do.mk 2 1 0 0 Dig.zero ([]) ([])), (Do.mk 2 1 0 8 (((digN ((2 : UInt8))))) ([]) ([])), (Do.mk 3 0 0 ((-1)) Dig.zero ([]) ([])), (Do.mk 3 0 0 9007199254740991 Dig.zero ([]) ([])), (Do.mk 4 0 0 0 Dig.zero ([]) ([(Stand.mk 2 (((digN ((1 : UInt8))))) 0), (Stand.mk 2 (((digN ((2 : UInt8))))) 0), (Stand.mk 2 (((digN ((3 : UInt8))))) 1), (Stand.mk 2 (((digN ((4 : UInt8))))) 2)])), (Do.mk 4 0 0 0 Dig.zero ([]) (([(Stand.mk 2 (((digN ((1 : UInt8))))) 0), (Stand.mk 2 (((digN ((2 : UInt8))))) 0), (Stand.mk 2 (((digN ((3 : UInt8))))) 1), (Stand.mk 2 (((digN ((4 : UInt8))))) 2)] ++ [(Stand.mk 2 (((digN ((5 : UInt8))))) 3)]))), (Do.mk 4 0 0 0 Dig.zero ([]) ([(Stand.mk 2 (((digN ((2 : UInt8))))) 0), (Stand.mk 2 (((digN ((1 : UInt8))))) 0)])), (Do.mk 4 0 0 0 Dig.zero ([]) ([(Stand.mk 2 (((digN ((1 : UInt8))))) 0), (Stand.mk 2 (((digN ((1 : UInt8))))) 4)])), (Do.mk 4 0 0 0 Dig.zero ([]) ([(Stand.mk 9 Dig.zero 0)])), (Do.mk 4 0 0 0 Dig.zero ([]) ([(Stand.mk 3 Dig.zero ((-1)))])), (Do.mk 4 0 0 0 Dig.zero ([(Stand.mk 3 (((digN ((1 : UInt8))))) 0), (Stand.mk 3 (((digN ((2 : UInt8))))) 0)]) ([])), (Do.mk 4 0 0 0 Dig.zero ([(Stand.mk 3 Dig.zero 1048577)]) ([])), (Do.mk 4 0 0 0 Dig.zero (([(Stand.mk 2 (((digN ((1 : UInt8))))) 0), (Stand.mk 2 (((digN ((2 : UInt8))))) 0), (Stand.mk 2 (((digN ((3 : UInt8))))) 1), (Stand.mk 2 (((digN ((4 : UInt8))))) 2)].take 1)) ([(Stand.mk 2 (((digN ((1 : UInt8))))) 0), (Stand.mk 2 (((digN ((2 : UInt8))))) 0), (Stand.mk 2 (((digN ((3 : UInt8))))) 1), (Stand.mk 2 (((digN ((4 : UInt8))))) 2)])), (Do.mk 0 0 2 2 (((digN ((6 : UInt8))))) ([]) ([])), (Do.mk 0 0 5 2 (((digN ((6 : UInt8))))) ([]) ([])), (Do.mk 3 0 0 1 Dig.zero ([]) ([])), (Do.mk 3 0 0 5 Dig.zero ([]) ([])), (Do.mk 3 0 0 1099511627776 Dig.zero ([]) ([]))] : List Do))]) (fun _ _ G' w => Cx w0 G0 G' w ∧ Bxs G' w w0.heap.size ([(b29, 37, (((digN ((2 : UInt8))))).cells), (b28, 37, (((digN ((1 : UInt8))))).cells), (b27, 56, [(.int .i64 0), (.slice none 0 0), (.int .i64 0), (.map none)]), (b16, 44, (((Stand.mk 0 Dig.zero 0))).cells), (b2, 44, (((Stand.mk 0 Dig.zero 0))).cells), (b1, 37, Dig.zero.cells)] ++ (Option.toList o24 ++ (Option.toList o19 ++ (Option.toList o10 ++ (Option.toList o5 ++ []))))) ∧ GLe G G') G (vAt_mono ⟨fun _ _ _ _ h => h, fun _ _ _ _ h => h, fun _ _ _ _ h => h, fun _ _ _ _ h => h, fun _ _ _ _ h => h, fun _ _ _ _ h => h, fun _ _ _ _ h => h, fun _ _ _ _ h => h, fun _ _ _ _ h => h, fun _ _ _ _ h => h, fun _ _ _ _ h => h, fun _ _ _ _ h => h, fun _ _ _ _ h => h, fun _ _ _ _ h => h, fun _ _ _ _ h => h, fun _ _ _ _ h => h, fun _ _ _ _ h => h, fun _ _ _ _ h => h, fun _ _ _ _ h => h, fun _ _ _ _ h => h, fun _ _ _ _ h => h, fun _ _ _ _ h => h, fun _ _ _ _ h => h, fun _ _ _ _ h => h, fun _ _ _ _ h => h, fun _ _ _ _ h => h, fun _ _ _ _ h => h, fun _ _ _ _ h => h, fun _ _ _ _ h => h, fun _ _ _ _ h => h, fun _ _ _ _ h => h, fun _ _ _ _ h => h, fun _ _ _ _ h => h, fun _ _ _ _ h => h, fun _ _ _ _ h => h, fun _ _ _ hg => fun ⟨b, h1, h2⟩ => ⟨b, h1, h2.mono hg⟩, fun _ _ _ hg => fun ⟨A, cap, e, hs⟩ => ⟨A, cap, e, hs.mono hg⟩, fun _ _ _ hg => fun ⟨cs_, e_, h_⟩ => ⟨cs_, e_, Rp.mono hg h_⟩, fun _ _ _ _ h => h, fun _ _ _ _ h => h, fun _ _ _ _ h => h, fun _ _ _ _ h => h, fun _ _ _ _ h => h, fun _ _ _ _ h => h, fun _ _ _ hg => fun ⟨b, h1, h2⟩ => ⟨b, h1, h2.mono hg⟩, fun _ _ _ hg => fun ⟨cs_, e_, h_⟩ => ⟨cs_, e_, Rp.mono hg h_⟩, fun _ _ _ _ h => h, fun _ _ _ _ h => h, fun _ _ _ _ h => h, fun _ _ _ _ h => h, fun _ _ _ _ h => h, fun _ _ _ hg => fun ⟨b, h1, h2⟩ => ⟨b, h1, h2.mono hg⟩, fun _ _ _ hg => fun ⟨cs_, e_, h_⟩ => ⟨cs_, e_, Rp.mono hg h_⟩, fun _ _ _ _ h => h, fun _ _ _ hg => fun ⟨b, h1, h2⟩ => ⟨b, h1, h2.mono hg⟩, fun _ _ _ hg => fun ⟨cs_, e_, h_⟩ => ⟨cs_, e_, Rp.mono hg h_⟩, fun _ _ _ _ h => h, fun _ _ _ hg => fun ⟨b, h1, h2⟩ => ⟨b, h1, h2.mono hg⟩, fun _ _ _ hg => fun ⟨cs_, e_, h_⟩ => ⟨cs_, e_, Rp.mono hg h_⟩, fun _ _ _ _ h => h, fun _ _ _ _ h => h, fun _ _ _ _ h => h, fun _ _ _ _ h => h, fun _ _ _ hg => fun ⟨b, h1, h2⟩ => ⟨b, h1, h2.mono hg⟩, fun _ _ _ hg => fun ⟨cs_, e_, h_⟩ => ⟨cs_, e_, Rp.mono hg h_⟩, fun _ _ _ _ h => h, fun _ _ _ hg => fun ⟨b, h1, h2⟩ => ⟨b, h1, h2.mono hg⟩, fun _ _ _ hg => fun ⟨cs_, e_, h_⟩ => ⟨cs_, e_, Rp.mono hg h_⟩, fun _ _ _ _ h => h, fun _ _ _ _ h => h, fun _ _ _ _ h => h, fun _ _ _ _ h => h, fun _ _ _ _ h => h, fun _ _ _ _ h => h, fun _ _ _ _ h => h, fun _ _ _ _ h => h, fun _ _ _ _ h => h, fun _ _ _ _ h => h, fun _ _ _ _ h => h, fun _ _ _ hg => fun ⟨b, h1, h2⟩ => ⟨b, h1, h2.mono hg⟩, fun _ _ _ hg => fun ⟨b, h1, h2⟩ => ⟨b, h1, h2.mono hg⟩, trivial⟩) (fun _ _ => ⟨hC.drew, hB.drew, fun _ _ h => h⟩) ?_ ?_
 ·
  refine dsNone (j := 1) rfl ?_ ?_
  ·
   intro done G w ac_ hd hp hn ⟨hC, hB, hg⟩ hM
   have hF := hM.fr
   exact OpVal.draw hF (B_ (ps := [(0, .const (.int .i64 0)), (2, .const (.int .i64 (-1))), (3, .const (.int .i64 1))]) (cs := ((.int .i64 0) :: ((.int .i64 0) :: ((.int .i64 ((-1))) :: ((.int .i64 1) :: (Dig.zero.cells ++ ((.slice none 0 0) :: ((.slice none 0 0) :: [])))))))) so40 zero40 rfl rfl) ⟨G, fun _ _ h => h, ⟨hC, hB, hg⟩, (by show _ = _; rfl)⟩
  refine dsNone (j := 2) rfl ?_ ?_
  ·
   intro done G w ac_ hd hp hn ⟨hC, hB, hg⟩ hM
   have hF := hM.fr
   exact OpVal.draw hF (B_ (ps := [(0, .const (.int .i64 0)), (2, .const (.int .i64 1048577)), (3, .const (.int .i64 1))]) (cs := ((.int .i64 0) :: ((.int .i64 0) :: ((.int .i64 1048577) :: ((.int .i64 1) :: (Dig.zero.cells ++ ((.slice none 0 0) :: ((.slice none 0 0) :: [])))))))) so40 zero40 rfl rfl) ⟨G, fun _ _ h => h, ⟨hC, hB, hg⟩, (by show _ = _; rfl)⟩
  refine dsNone (j := 3) rfl ?_ ?_
  ·
   intro done G w ac_ hd hp hn ⟨hC, hB, hg⟩ hM
   have f6 : ac_.tmps[6]? = some (.pointer (some ⟨b28, 0, none⟩)) := hM.old0 rfl rfl
   have hF := (hM.fr.add f6)
   exact OpVal.draw hF (opLoadRow (cs := (((digN ((1 : UInt8))))).cells) rfl (hB.range (i := 1) (m := 32) rfl (by simp [cl_])) row37 (by simp [cl_])) ⟨G, fun _ _ h => h, ⟨hC, hB, hg⟩, rfl⟩
  refine dsNone (j := 4) rfl ?_ ?_
  ·
   intro done G w ac_ hd hp hn ⟨hC, hB, hg⟩ hM
   have f88 := hM.eqv (s := 88) 2 rfl (hp 2 rfl) rfl rfl
   have hF := (hM.fr.add f88)
   exact OpVal.draw hF (B_ (ps := [(0, .const (.int .i64 0)), (2, .const (.int .i64 1048576)), (3, .const (.int .i64 1)), (4, .tmp 88)]) (cs := ((.int .i64 0) :: ((.int .i64 0) :: ((.int .i64 1048576) :: ((.int .i64 1) :: ((((digN ((1 : UInt8))))).cells ++ ((.slice none 0 0) :: ((.slice none 0 0) :: [])))))))) so40 zero40 rfl rfl) ⟨G, fun _ _ h => h, ⟨hC, hB, hg⟩, (by show _ = _; rfl)⟩
  refine dsNone (j := 5) rfl ?_ ?_
  ·
   intro done G w ac_ hd hp hn ⟨hC, hB, hg⟩ hM
   have hF := hM.fr
   exact OpVal.draw hF (B_ (ps := [(0, .const (.int .i64 0)), (2, .const (.int .i64 3)), (3, .const (.int .i64 1))]) (cs := ((.int .i64 0) :: ((.int .i64 0) :: ((.int .i64 3) :: ((.int .i64 1) :: (Dig.zero.cells ++ ((.slice none 0 0) :: ((.slice none 0 0) :: [])))))))) so40 zero40 rfl rfl) ⟨G, fun _ _ h => h, ⟨hC, hB, hg⟩, (by show _ = _; rfl)⟩
  refine dsNone (j := 6) rfl ?_ ?_
  ·
   intro done G w ac_ hd hp hn ⟨hC, hB, hg⟩ hM
   have hF := hM.fr
   exact OpVal.draw hF (B_ (ps := [(0, .const (.int .i64 0)), (3, .const (.int .i64 0))]) (cs := ((.int .i64 0) :: ((.int .i64 0) :: ((.int .i64 0) :: ((.int .i64 0) :: (Dig.zero.cells ++ ((.slice none 0 0) :: ((.slice none 0 0) :: [])))))))) so40 zero40 rfl rfl) ⟨G, fun _ _ h => h, ⟨hC, hB, hg⟩, (by show _ = _; rfl)⟩
  refine dsNone (j := 7) rfl ?_ ?_
  ·
   intro done G w ac_ hd hp hn ⟨hC, hB, hg⟩ hM
   have hF := hM.fr
   exact OpVal.draw hF (B_ (ps := [(0, .const (.int .i64 0)), (3, .const (.int .i64 9))]) (cs := ((.int .i64 0) :: ((.int .i64 0) :: ((.int .i64 0) :: ((.int .i64 9) :: (Dig.zero.cells ++ ((.slice none 0 0) :: ((.slice none 0 0) :: [])))))))) so40 zero40 rfl rfl) ⟨G, fun _ _ h => h, ⟨hC, hB, hg⟩, (by show _ = _; rfl)⟩
  refine dsNone (j := 8) rfl ?_ ?_
  ·
   intro done G w ac_ hd hp hn ⟨hC, hB, hg⟩ hM
   have f6 : ac_.tmps[6]? = some (.pointer (some ⟨b28, 0, none⟩)) := hM.old0 rfl rfl
   have hF := (hM.fr.add f6)
   exact OpVal.draw hF (opLoadRow (cs := (((digN ((1 : UInt8))))).cells) rfl (hB.range (i := 1) (m := 32) rfl (by simp [cl_])) row37 (by simp [cl_])) ⟨G, fun _ _ h => h, ⟨hC, hB, hg⟩, rfl⟩
  refine dsNone (j := 9) rfl ?_ ?_
  ·
   intro done G w ac_ hd hp hn ⟨hC, hB, hg⟩ hM
   have f93 := hM.eqv (s := 93) 7 rfl (hp 7 rfl) rfl rfl
   have hF := (hM.fr.add f93)
   exact OpVal.draw hF (B_ (ps := [(0, .const (.int .i64 0)), (3, .const (.int .i64 8)), (4, .tmp 93)]) (cs := ((.int .i64 0) :: ((.int .i64 0) :: ((.int .i64 0) :: ((.int .i64 8) :: ((((digN ((1 : UInt8))))).cells ++ ((.slice none 0 0) :: ((.slice none 0 0) :: [])))))))) so40 zero40 rfl rfl) ⟨G, fun _ _ h => h, ⟨hC, hB, hg⟩, (by show _ = _; rfl)⟩
  refine dsNone (j := 10) rfl ?_ ?_
  ·
   intro done G w ac_ hd hp hn ⟨hC, hB, hg⟩ hM
   have hF := hM.fr
   exact OpVal.draw hF (B_ (ps := [(0, .const (.int .i64 1)), (1, .const (.int .i64 9))]) (cs := ((.int .i64 1) :: ((.int .i64 9) :: ((.int .i64 0) :: ((.int .i64 0) :: (Dig.zero.cells ++ ((.slice none 0 0) :: ((.slice none 0 0) :: [])))))))) so40 zero40 rfl rfl) ⟨G, fun _ _ h => h, ⟨hC, hB, hg⟩, (by show _ = _; rfl)⟩
  refine dsNone (j := 11) rfl ?_ ?_
  ·
   intro done G w ac_ hd hp hn ⟨hC, hB, hg⟩ hM
   have hF := hM.fr
   exact OpVal.draw hF (B_ (ps := [(0, .const (.int .i64 1)), (1, .const (.int .i64 2)), (2, .const (.int .i64 (-1)))]) (cs := ((.int .i64 1) :: ((.int .i64 2) :: ((.int .i64 ((-1))) :: ((.int .i64 0) :: (Dig.zero.cells ++ ((.slice none 0 0) :: ((.slice none 0 0) :: [])))))))) so40 zero40 rfl rfl) ⟨G, fun _ _ h => h, ⟨hC, hB, hg⟩, (by show _ = _; rfl)⟩
  refine dsNone (j := 12) rfl ?_ ?_
  ·
   intro done G w ac_ hd hp hn ⟨hC, hB, hg⟩ hM
   have hF := hM.fr
   exact OpVal.draw hF (B_ (ps := [(0, .const (.int .i64 1)), (1, .const (.int .i64 1)), (3, .const (.int .i64 99))]) (cs := ((.int .i64 1) :: ((.int .i64 1) :: ((.int .i64 0) :: ((.int .i64 99) :: (Dig.zero.cells ++ ((.slice none 0 0) :: ((.slice none 0 0) :: [])))))))) so40 zero40 rfl rfl) ⟨G, fun _ _ h => h, ⟨hC, hB, hg⟩, (by show _ = _; rfl)⟩
  refine dsNone (j := 13) rfl ?_ ?_
  ·
   intro done G w ac_ hd hp hn ⟨hC, hB, hg⟩ hM
   have hF := hM.fr
   exact OpVal.draw hF (B_ (ps := [(0, .const (.int .i64 1)), (1, .const (.int .i64 2)), (2, .const (.int .i64 1)), (3, .const (.int .i64 99))]) (cs := ((.int .i64 1) :: ((.int .i64 2) :: ((.int .i64 1) :: ((.int .i64 99) :: (Dig.zero.cells ++ ((.slice none 0 0) :: ((.slice none 0 0) :: [])))))))) so40 zero40 rfl rfl) ⟨G, fun _ _ h => h, ⟨hC, hB, hg⟩, (by show _ = _; rfl)⟩
  refine dsNone (j := 14) rfl ?_ ?_
  ·
   intro done G w ac_ hd hp hn ⟨hC, hB, hg⟩ hM
   have f6 : ac_.tmps[6]? = some (.pointer (some ⟨b28, 0, none⟩)) := hM.old0 rfl rfl
   have hF := (hM.fr.add f6)
   exact OpVal.draw hF (opLoadRow (cs := (((digN ((1 : UInt8))))).cells) rfl (hB.range (i := 1) (m := 32) rfl (by simp [cl_])) row37 (by simp [cl_])) ⟨G, fun _ _ h => h, ⟨hC, hB, hg⟩, rfl⟩
  refine dsNone (j := 15) rfl ?_ ?_
  ·
   intro done G w ac_ hd hp hn ⟨hC, hB, hg⟩ hM
   have f99 := hM.eqv (s := 99) 13 rfl (hp 13 rfl) rfl rfl
   have hF := (hM.fr.add f99)
   exact OpVal.draw hF (B_ (ps := [(0, .const (.int .i64 1)), (1, .const (.int .i64 2)), (2, .const (.int .i64 2)), (3, .const (.int .i64 8)), (4, .tmp 99)]) (cs := ((.int .i64 1) :: ((.int .i64 2) :: ((.int .i64 2) :: ((.int .i64 8) :: ((((digN ((1 : UInt8))))).cells ++ ((.slice none 0 0) :: ((.slice none 0 0) :: [])))))))) so40 zero40 rfl rfl) ⟨G, fun _ _ h => h, ⟨hC, hB, hg⟩, (by show _ = _; rfl)⟩
  refine dsNone (j := 16) rfl ?_ ?_
  ·
   intro done G w ac_ hd hp hn ⟨hC, hB, hg⟩ hM
   have f6 : ac_.tmps[6]? = some (.pointer (some ⟨b28, 0, none⟩)) := hM.old0 rfl rfl
   have hF := (hM.fr.add f6)
   exact OpVal.draw hF (opLoadRow (cs := (((digN ((1 : UInt8))))).cells) rfl (hB.range (i := 1) (m := 32) rfl (by simp [cl_])) row37 (by simp [cl_])) ⟨G, fun _ _ h => h, ⟨hC, hB, hg⟩, rfl⟩
  refine dsNone (j := 17) rfl ?_ ?_
  ·
   intro done G w ac_ hd hp hn ⟨hC, hB, hg⟩ hM
   have f101 := hM.eqv (s := 101) 15 rfl (hp 15 rfl) rfl rfl
   have hF := (hM.fr.add f101)
   exact OpVal.draw hF (B_ (ps := [(0, .const (.int .i64 1)), (1, .const (.int .i64 2)), (2, .const (.int .i64 0)), (3, .const (.int .i64 8)), (4, .tmp 101)]) (cs := ((.int .i64 1) :: ((.int .i64 2) :: ((.int .i64 0) :: ((.int .i64 8) :: ((((digN ((1 : UInt8))))).cells ++ ((.slice none 0 0) :: ((.slice none 0 0) :: [])))))))) so40 zero40 rfl rfl) ⟨G, fun _ _ h => h, ⟨hC, hB, hg⟩, (by show _ = _; rfl)⟩
  refine dsNone (j := 18) rfl ?_ ?_
  ·
   intro done G w ac_ hd hp hn ⟨hC, hB, hg⟩ hM
   have f7 : ac_.tmps[7]? = some (.pointer (some ⟨b29, 0, none⟩)) := hM.old0 rfl rfl
   have hF := (hM.fr.add f7)
   exact OpVal.draw hF (opLoadRow (cs := (((digN ((2 : UInt8))))).cells) rfl (hB.range (i := 0) (m := 32) rfl (by simp [cl_])) row37 (by simp [cl_])) ⟨G, fun _ _ h => h, ⟨hC, hB, hg⟩, rfl⟩
  refine dsNone (j := 19) rfl ?_ ?_
  ·
   intro done G w ac_ hd hp hn ⟨hC, hB, hg⟩ hM
   have f103 := hM.eqv (s := 103) 17 rfl (hp 17 rfl) rfl rfl
   have hF := (hM.fr.add f103)
   exact OpVal.draw hF (B_ (ps := [(0, .const (.int .i64 1)), (1, .const (.int .i64 2)), (2, .const (.int .i64 2)), (3, .const (.int .i64 8)), (4, .tmp 103)]) (cs := ((.int .i64 1) :: ((.int .i64 2) :: ((.int .i64 2) :: ((.int .i64 8) :: ((((digN ((2 : UInt8))))).cells ++ ((.slice none 0 0) :: ((.slice none 0 0) :: [])))))))) so40 zero40 rfl rfl) ⟨G, fun _ _ h => h, ⟨hC, hB, hg⟩, (by show _ = _; rfl)⟩
  refine dsNone (j := 20) rfl ?_ ?_
  ·
   intro done G w ac_ hd hp hn ⟨hC, hB, hg⟩ hM
   have f6 : ac_.tmps[6]? = some (.pointer (some ⟨b28, 0, none⟩)) := hM.old0 rfl rfl
   have hF := (hM.fr.add f6)
   exact OpVal.draw hF (opLoadRow (cs := (((digN ((1 : UInt8))))).cells) rfl (hB.range (i := 1) (m := 32) rfl (by simp [cl_])) row37 (by simp [cl_])) ⟨G, fun _ _ h => h, ⟨hC, hB, hg⟩, rfl⟩
  refine dsNone (j := 21) rfl ?_ ?_
  ·
   intro done G w ac_ hd hp hn ⟨hC, hB, hg⟩ hM
   have f105 := hM.eqv (s := 105) 19 rfl (hp 19 rfl) rfl rfl
   have hF := (hM.fr.add f105)
   exact OpVal.draw hF (B_ (ps := [(0, .const (.int .i64 1)), (1, .const (.int .i64 2)), (2, .const (.int .i64 2)), (3, .const (.int .i64 8)), (4, .tmp 105)]) (cs := ((.int .i64 1) :: ((.int .i64 2) :: ((.int .i64 2) :: ((.int .i64 8) :: ((((digN ((1 : UInt8))))).cells ++ ((.slice none 0 0) :: ((.slice none 0 0) :: [])))))))) so40 zero40 rfl rfl) ⟨G, fun _ _ h => h, ⟨hC, hB, hg⟩, (by show _ = _; rfl)⟩
  refine dsNone (j := 22) rfl ?_ ?_
  ·
   intro done G w ac_ hd hp hn ⟨hC, hB, hg⟩ hM
   have hF := hM.fr
   exact OpVal.draw hF (B_ (ps := [(0, .const (.int .i64 2)), (1, .const (.int .i64 9))]) (cs := ((.int .i64 2) :: ((.int .i64 9) :: ((.int .i64 0) :: ((.int .i64 0) :: (Dig.zero.cells ++ ((.slice none 0 0) :: ((.slice none 0 0) :: [])))))))) so40 zero40 rfl rfl) ⟨G, fun _ _ h => h, ⟨hC, hB, hg⟩, (by show _ = _; rfl)⟩
  refine dsNone (j := 23) rfl ?_ ?_
  ·
   intro done G w ac_ hd hp hn ⟨hC, hB, hg⟩ hM
   have f6 : ac_.tmps[6]? = some (.pointer (some ⟨b28, 0, none⟩)) := hM.old0 rfl rfl
   have hF := (hM.fr.add f6)
   exact OpVal.draw hF (opLoadRow (cs := (((digN ((1 : UInt8))))).cells) rfl (hB.range (i := 1) (m := 32) rfl (by simp [cl_])) row37 (by simp [cl_])) ⟨G, fun _ _ h => h, ⟨hC, hB, hg⟩, rfl⟩
  refine dsNone (j := 24) rfl ?_ ?_
  ·
   intro done G w ac_ hd hp hn ⟨hC, hB, hg⟩ hM
   have f108 := hM.eqv (s := 108) 22 rfl (hp 22 rfl) rfl rfl
   have hF := (hM.fr.add f108)
   exact OpVal.draw hF (B_ (ps := [(0, .const (.int .i64 2)), (1, .const (.int .i64 1)), (2, .const (.int .i64 0)), (3, .const (.int .i64 8)), (4, .tmp 108)]) (cs := ((.int .i64 2) :: ((.int .i64 1) :: ((.int .i64 0) :: ((.int .i64 8) :: ((((digN ((1 : UInt8))))).cells ++ ((.slice none 0 0) :: ((.slice none 0 0) :: [])))))))) so40 zero40 rfl rfl) ⟨G, fun _ _ h => h, ⟨hC, hB, hg⟩, (by show _ = _; rfl)⟩
  refine dsNone (j := 25) rfl ?_ ?_
  ·
   intro done G w ac_ hd hp hn ⟨hC, hB, hg⟩ hM
   have hF := hM.fr
   exact OpVal.draw hF (B_ (ps := [(0, .const (.int .i64 2)), (1, .const (.int .i64 1)), (2, .const (.int .i64 (-1)))]) (cs := ((.int .i64 2) :: ((.int .i64 1) :: ((.int .i64 ((-1))) :: ((.int .i64 0) :: (Dig.zero.cells ++ ((.slice none 0 0) :: ((.slice none 0 0) :: [])))))))) so40 zero40 rfl rfl) ⟨G, fun _ _ h => h, ⟨hC, hB, hg⟩, (by show _ = _; rfl)⟩
  refine dsNone (j := 26) rfl ?_ ?_
  ·
   intro done G w ac_ hd hp hn ⟨hC, hB, hg⟩ hM
   have hF := hM.fr
   exact OpVal.draw hF (B_ (ps := [(0, .const (.int .i64 2)), (1, .const (.int .i64 1)), (3, .const (.int .i64 0))]) (cs := ((.int .i64 2) :: ((.int .i64 1) :: ((.int .i64 0) :: ((.int .i64 0) :: (Dig.zero.cells ++ ((.slice none 0 0) :: ((.slice none 0 0) :: [])))))))) so40 zero40 rfl rfl) ⟨G, fun _ _ h => h, ⟨hC, hB, hg⟩, (by show _ = _; rfl)⟩
  refine dsNone (j := 27) rfl ?_ ?_
  ·
   intro done G w ac_ hd hp hn ⟨hC, hB, hg⟩ hM
   have f7 : ac_.tmps[7]? = some (.pointer (some ⟨b29, 0, none⟩)) := hM.old0 rfl rfl
   have hF := (hM.fr.add f7)
   exact OpVal.draw hF (opLoadRow (cs := (((digN ((2 : UInt8))))).cells) rfl (hB.range (i := 0) (m := 32) rfl (by simp [cl_])) row37 (by simp [cl_])) ⟨G, fun _ _ h => h, ⟨hC, hB, hg⟩, rfl⟩
  refine dsNone (j := 28) rfl ?_ ?_
  ·
   intro done G w ac_ hd hp hn ⟨hC, hB, hg⟩ hM
   have f112 := hM.eqv (s := 112) 26 rfl (hp 26 rfl) rfl rfl
   have hF := (hM.fr.add f112)
   exact OpVal.draw hF (B_ (ps := [(0, .const (.int .i64 2)), (1, .const (.int .i64 1)), (2, .const (.int .i64 0)), (3, .const (.int .i64 8)), (4, .tmp 112)]) (cs := ((.int .i64 2) :: ((.int .i64 1) :: ((.int .i64 0) :: ((.int .i64 8) :: ((((digN ((2 : UInt8))))).cells ++ ((.slice none 0 0) :: ((.slice none 0 0) :: [])))))))) so40 zero40 rfl rfl) ⟨G, fun _ _ h => h, ⟨hC, hB, hg⟩, (by show _ = _; rfl)⟩
  refine dsNone (j := 29) rfl ?_ ?_
  ·
   intro done G w ac_ hd hp hn ⟨hC, hB, hg⟩ hM
   have hF := hM.fr
   exact OpVal.draw hF (B_ (ps := [(0, .const (.int .i64 3)), (3, .const (.int .i64 (-1)))]) (cs := ((.int .i64 3) :: ((.int .i64 0) :: ((.int .i64 0) :: ((.int .i64 ((-1))) :: (Dig.zero.cells ++ ((.slice none 0 0) :: ((.slice none 0 0) :: [])))))))) so40 zero40 rfl rfl) ⟨G, fun _ _ h => h, ⟨hC, hB, hg⟩, (by show _ = _; rfl)⟩
  refine dsNone (j := 30) rfl ?_ ?_
  ·
   intro done G w ac_ hd hp hn ⟨hC, hB, hg⟩ hM
   have hF := hM.fr
   exact OpVal.draw hF (B_ (ps := [(0, .const (.int .i64 3)), (3, .const (.int .i64 9007199254740991))]) (cs := ((.int .i64 3) :: ((.int .i64 0) :: ((.int .i64 0) :: ((.int .i64 9007199254740991) :: (Dig.zero.cells ++ ((.slice none 0 0) :: ((.slice none 0 0) :: [])))))))) so40 zero40 rfl rfl) ⟨G, fun _ _ h => h, ⟨hC, hB, hg⟩, (by show _ = _; rfl)⟩
  refine dsNone (j := 31) rfl ?_ ?_
  ·
   intro done G w ac_ hd hp hn ⟨hC, hB, hg⟩ hM
   have f8 : ac_.tmps[8]? = some (.slice (some ⟨b30, 0, none⟩) 4 4) := hM.old0 rfl rfl
   have hF := (hM.fr.add f8)
   exact OpVal.draw hF (opMove rfl) ⟨G, fun _ _ h => h, ⟨hC, hB, hg⟩, rfl⟩
  refine dsNone (j := 32) rfl ?_ ?_
  ·
   intro done G w ac_ hd hp hn ⟨hC, hB, hg⟩ hM
   have f116 := hM.eqv (s := 116) 30 rfl (hp 30 rfl) rfl rfl
   have hF := (hM.fr.add f116)
   exact OpVal.draw hF (B_ (ps := [(0, .const (.int .i64 4)), (6, .tmp 116)]) (cs := ((.int .i64 4) :: ((.int .i64 0) :: ((.int .i64 0) :: ((.int .i64 0) :: (Dig.zero.cells ++ ((.slice none 0 0) :: ((.slice (some ⟨b30, 0, none⟩) 4 4) :: [])))))))) so40 zero40 rfl rfl) ⟨G, fun _ _ h => h, ⟨hC, hB, hg⟩, (by show _ = _; rfl)⟩
  refine dsNone (j := 33) rfl ?_ ?_
  ·
   intro done G w ac_ hd hp hn ⟨hC, hB, hg⟩ hM
   have f8 : ac_.tmps[8]? = some (.slice (some ⟨b30, 0, none⟩) 4 4) := hM.old0 rfl rfl
   have hF := (hM.fr.add f8)
   exact OpVal.draw hF (opMove rfl) ⟨G, fun _ _ h => h, ⟨hC, hB, hg⟩, rfl⟩
  refine dsNone (j := 34) rfl ?_ ?_
  ·
   intro done G w ac_ hd hp hn ⟨hC, hB, hg⟩ hM
   have hF := hM.fr
   exact drawCallS hF rfl co21 rfl (digest_ret _ _ hC.holds ((5 : UInt8))) (fun w' hk => ⟨G, fun _ _ h => h, ⟨hC.trans hk, hB.ext hk, hg⟩, rfl⟩)
  refine dsNone (j := 35) rfl ?_ ?_
  ·
   intro done G w ac_ hd hp hn ⟨hC, hB, hg⟩ hM
   have f119 := hM.eqv (s := 119) 33 rfl (hp 33 rfl) rfl rfl
   have hF := (hM.fr.add f119)
   exact OpVal.draw hF (B_ (ps := [(0, .const (.int .i64 2)), (1, .tmp 119), (2, .const (.int .i64 3))]) (cs := ((.int .i64 2) :: ((((digN ((5 : UInt8))))).cells ++ ((.int .i64 3) :: [])))) so44 zero44 rfl rfl) ⟨G, fun _ _ h => h, ⟨hC, hB, hg⟩, (by show _ = _; rfl)⟩
  refine dsNone (j := 36) rfl ?_ ?_
  ·
   intro done G w ac_ hd hp hn ⟨hC, hB, hg⟩ hM
   have f120 := hM.eqv (s := 120) 34 rfl (hp 34 rfl) rfl rfl
   have hF := (hM.fr.add f120)
   exact drawBsl hF (α := Stand) (ps := [(0, .tmp 120)]) (xs := [(Stand.mk 2 (((digN ((5 : UInt8))))) 3)]) (rows := [((.int .i64 2) :: ((((digN ((5 : UInt8))))).cells ++ ((.int .i64 3) :: [])))]) elo38 rfl rfl hC.holds rfl rfl rfl ⟨rfl, trivial⟩ (fun b G' w' hk hr => ⟨G', hk.gle, ⟨hC.trans hk, hB.ext hk, fun b o h => hk.gle b o (hg b o h)⟩, ⟨b, rfl, hr⟩⟩)
  refine dsNone (j := 37) rfl ?_ ?_
  ·
   intro done G w ac_ hd hp hn ⟨hC, hB, hg⟩ hM
   replace hs31 := hs31.mono hg
   have f118 := hM.eqv (s := 118) 32 rfl (hp 32 rfl) rfl rfl
   obtain ⟨v_, f121, ⟨b58, rfl, hs59⟩⟩ := hM.new 35 _ _ rfl (hp 35 rfl) rfl
   have hF := ((hM.fr.add f118).add f121)
   exact drawAppendFull (α := Stand) hF elo38 hC.holds rfl rfl hs31 hs59 (Nat.le_refl _) (by decide) (by decide) (by decide) rfl (fun v G' w' hk hr => ⟨G', hk.gle, ⟨hC.trans hk, hB.ext hk, fun b o h => hk.gle b o (hg b o h)⟩, hr⟩)
  refine dsNone (j := 38) rfl ?_ ?_
  ·
   intro done G w ac_ hd hp hn ⟨hC, hB, hg⟩ hM
   obtain ⟨v_, f122, ⟨A60, cap61, rfl, hs62⟩⟩ := hM.new 36 _ _ rfl (hp 36 rfl) rfl
   have hF := (hM.fr.add f122)
   exact OpVal.draw hF (B_ (ps := [(0, .const (.int .i64 4)), (6, .tmp 122)]) (cs := ((.int .i64 4) :: ((.int .i64 0) :: ((.int .i64 0) :: ((.int .i64 0) :: (Dig.zero.cells ++ ((.slice none 0 0) :: ((.slice A60 (([(Stand.mk 2 (((digN ((1 : UInt8))))) 0), (Stand.mk 2 (((digN ((2 : UInt8))))) 0), (Stand.mk 2 (((digN ((3 : UInt8))))) 1), (Stand.mk 2 (((digN ((4 : UInt8))))) 2)] ++ [(Stand.mk 2 (((digN ((5 : UInt8))))) 3)]).length) cap61) :: [])))))))) so40 zero40 rfl rfl) ⟨G, fun _ _ h => h, ⟨hC, hB, hg⟩, ⟨_, rfl, (Do.mkIs (x := (Do.mk 4 0 0 0 Dig.zero ([]) (([(Stand.mk 2 (((digN ((1 : UInt8))))) 0), (Stand.mk 2 (((digN ((2 : UInt8))))) 0), (Stand.mk 2 (((digN ((3 : UInt8))))) 1), (Stand.mk 2 (((digN ((4 : UInt8))))) 2)] ++ [(Stand.mk 2 (((digN ((5 : UInt8))))) 3)])))) (Sl.nil_ _) hs62)⟩⟩
  refine dsNone (j := 39) rfl ?_ ?_
  ·
   intro done G w ac_ hd hp hn ⟨hC, hB, hg⟩ hM
   have f8 : ac_.tmps[8]? = some (.slice (some ⟨b30, 0, none⟩) 4 4) := hM.old0 rfl rfl
   have hF := (hM.fr.add f8)
   exact OpVal.draw hF (opMove rfl) ⟨G, fun _ _ h => h, ⟨hC, hB, hg⟩, rfl⟩
  refine dsNone (j := 40) rfl ?_ ?_
  ·
   intro done G w ac_ hd hp hn ⟨hC, hB, hg⟩ hM
   have f124 := hM.eqv (s := 124) 38 rfl (hp 38 rfl) rfl rfl
   have hF := (hM.fr.add f124)
   exact OpVal.draw hF (opIndexAddr rfl rfl slo38 (by decide)) ⟨G, fun _ _ h => h, ⟨hC, hB, hg⟩, rfl⟩
  refine dsNone (j := 41) rfl ?_ ?_
  ·
   intro done G w ac_ hd hp hn ⟨hC, hB, hg⟩ hM
   replace hr42 := hr42.mono hg
   have f125 := hM.eqv (s := 125) 39 rfl (hp 39 rfl) rfl rfl
   have hF := (hM.fr.add f125)
   exact OpVal.draw hF (opLoadRow (cs := ((Stand.mk 2 (((digN ((2 : UInt8))))) 0)).cells) rfl (RowG.range hC.holds hr42) row44 (by simp [cl_])) ⟨G, fun _ _ h => h, ⟨hC, hB, hg⟩, rfl⟩
  refine dsNone (j := 42) rfl ?_ ?_
  ·
   intro done G w ac_ hd hp hn ⟨hC, hB, hg⟩ hM
   have f8 : ac_.tmps[8]? = some (.slice (some ⟨b30, 0, none⟩) 4 4) := hM.old0 rfl rfl
   have hF := (hM.fr.add f8)
   exact OpVal.draw hF (opMove rfl) ⟨G, fun _ _ h => h, ⟨hC, hB, hg⟩, rfl⟩
  refine dsNone (j := 43) rfl ?_ ?_
  ·
   intro done G w ac_ hd hp hn ⟨hC, hB, hg⟩ hM
   have f127 := hM.eqv (s := 127) 41 rfl (hp 41 rfl) rfl rfl
   have hF := (hM.fr.add f127)
   exact OpVal.draw hF (opIndexAddr rfl rfl slo38 (by decide)) ⟨G, fun _ _ h => h, ⟨hC, hB, hg⟩, rfl⟩
  refine dsNone (j := 44) rfl ?_ ?_
  ·
   intro done G w ac_ hd hp hn ⟨hC, hB, hg⟩ hM
   replace hr55 := hr55.mono hg
   have f128 := hM.eqv (s := 128) 42 rfl (hp 42 rfl) rfl rfl
   have hF := (hM.fr.add f128)
   exact OpVal.draw hF (opLoadRow (cs := ((Stand.mk 2 (((digN ((1 : UInt8))))) 0)).cells) rfl (RowG.range hC.holds hr55) row44 (by simp [cl_])) ⟨G, fun _ _ h => h, ⟨hC, hB, hg⟩, rfl⟩
  refine dsNone (j := 45) rfl ?_ ?_
  ·
   intro done G w ac_ hd hp hn ⟨hC, hB, hg⟩ hM
   have f126 := hM.eqv (s := 126) 40 rfl (hp 40 rfl) rfl rfl
   have f129 := hM.eqv (s := 129) 43 rfl (hp 43 rfl) rfl rfl
   have hF := ((hM.fr.add f126).add f129)
   exact drawBsl hF (α := Stand) (ps := [(0, .tmp 126), (1, .tmp 129)]) (xs := [(Stand.mk 2 (((digN ((2 : UInt8))))) 0), (Stand.mk 2 (((digN ((1 : UInt8))))) 0)]) (rows := [((Stand.mk 2 (((digN ((2 : UInt8))))) 0)).cells, ((Stand.mk 2 (((digN ((1 : UInt8))))) 0)).cells]) elo38 rfl rfl hC.holds rfl rfl rfl ⟨rfl, rfl, trivial⟩ (fun b G' w' hk hr => ⟨G', hk.gle, ⟨hC.trans hk, hB.ext hk, fun b o h => hk.gle b o (hg b o h)⟩, ⟨b, rfl, hr⟩⟩)
  refine dsNone (j := 46) rfl ?_ ?_
  ·
   intro done G w ac_ hd hp hn ⟨hC, hB, hg⟩ hM
   obtain ⟨v_, f130, ⟨b65, rfl, hs66⟩⟩ := hM.new 44 _ _ rfl (hp 44 rfl) rfl
   have hF := (hM.fr.add f130)
   exact OpVal.draw hF (B_ (ps := [(0, .const (.int .i64 4)), (6, .tmp 130)]) (cs := ((.int .i64 4) :: ((.int .i64 0) :: ((.int .i64 0) :: ((.int .i64 0) :: (Dig.zero.cells ++ ((.slice none 0 0) :: ((.slice (some ⟨b65, 0, none⟩) 2 2) :: [])))))))) so40 zero40 rfl rfl) ⟨G, fun _ _ h => h, ⟨hC, hB, hg⟩, ⟨_, rfl, (Do.mkIs (x := (Do.mk 4 0 0 0 Dig.zero ([]) ([(Stand.mk 2 (((digN ((2 : UInt8))))) 0), (Stand.mk 2 (((digN ((1 : UInt8))))) 0)]))) (Sl.nil_ _) hs66)⟩⟩
  refine dsNone (j := 47) rfl ?_ ?_
  ·
   intro done G w ac_ hd hp hn ⟨hC, hB, hg⟩ hM
   have f8 : ac_.tmps[8]? = some (.slice (some ⟨b30, 0, none⟩) 4 4) := hM.old0 rfl rfl
   have hF := (hM.fr.add f8)
   exact OpVal.draw hF (opMove rfl) ⟨G, fun _ _ h => h, ⟨hC, hB, hg⟩, rfl⟩
  refine dsNone (j := 48) rfl ?_ ?_
  ·
   intro done G w ac_ hd hp hn ⟨hC, hB, hg⟩ hM
   have f132 := hM.eqv (s := 132) 46 rfl (hp 46 rfl) rfl rfl
   have hF := (hM.fr.add f132)
   exact OpVal.draw hF (opIndexAddr rfl rfl slo38 (by decide)) ⟨G, fun _ _ h => h, ⟨hC, hB, hg⟩, rfl⟩
  refine dsNone (j := 49) rfl ?_ ?_
  ·
   intro done G w ac_ hd hp hn ⟨hC, hB, hg⟩ hM
   replace hr55 := hr55.mono hg
   have f133 := hM.eqv (s := 133) 47 rfl (hp 47 rfl) rfl rfl
   have hF := (hM.fr.add f133)
   exact OpVal.draw hF (opLoadRow (cs := ((Stand.mk 2 (((digN ((1 : UInt8))))) 0)).cells) rfl (RowG.range hC.holds hr55) row44 (by simp [cl_])) ⟨G, fun _ _ h => h, ⟨hC, hB, hg⟩, rfl⟩
  refine dsNone (j := 50) rfl ?_ ?_
  ·
   intro done G w ac_ hd hp hn ⟨hC, hB, hg⟩ hM
   have f6 : ac_.tmps[6]? = some (.pointer (some ⟨b28, 0, none⟩)) := hM.old0 rfl rfl
   have hF := (hM.fr.add f6)
   exact OpVal.draw hF (opLoadRow (cs := (((digN ((1 : UInt8))))).cells) rfl (hB.range (i := 1) (m := 32) rfl (by simp [cl_])) row37 (by simp [cl_])) ⟨G, fun _ _ h => h, ⟨hC, hB, hg⟩, rfl⟩
  refine dsNone (j := 51) rfl ?_ ?_
  ·
   intro done G w ac_ hd hp hn ⟨hC, hB, hg⟩ hM
   have f135 := hM.eqv (s := 135) 49 rfl (hp 49 rfl) rfl rfl
   have hF := (hM.fr.add f135)
   exact OpVal.draw hF (B_ (ps := [(0, .const (.int .i64 2)), (1, .tmp 135), (2, .const (.int .i64 4))]) (cs := ((.int .i64 2) :: ((((digN ((1 : UInt8))))).cells ++ ((.int .i64 4) :: [])))) so44 zero44 rfl rfl) ⟨G, fun _ _ h => h, ⟨hC, hB, hg⟩, (by show _ = _; rfl)⟩
  refine dsNone (j := 52) rfl ?_ ?_
  ·
   intro done G w ac_ hd hp hn ⟨hC, hB, hg⟩ hM
   have f134 := hM.eqv (s := 134) 48 rfl (hp 48 rfl) rfl rfl
   have f136 := hM.eqv (s := 136) 50 rfl (hp 50 rfl) rfl rfl
   have hF := ((hM.fr.add f134).add f136)
   exact drawBsl hF (α := Stand) (ps := [(0, .tmp 134), (1, .tmp 136)]) (xs := [(Stand.mk 2 (((digN ((1 : UInt8))))) 0), (Stand.mk 2 (((digN ((1 : UInt8))))) 4)]) (rows := [((Stand.mk 2 (((digN ((1 : UInt8))))) 0)).cells, ((.int .i64 2) :: ((((digN ((1 : UInt8))))).cells ++ ((.int .i64 4) :: [])))]) elo38 rfl rfl hC.holds rfl rfl rfl ⟨rfl, rfl, trivial⟩ (fun b G' w' hk hr => ⟨G', hk.gle, ⟨hC.trans hk, hB.ext hk, fun b o h => hk.gle b o (hg b o h)⟩, ⟨b, rfl, hr⟩⟩)
  refine dsNone (j := 53) rfl ?_ ?_
  ·
   intro done G w ac_ hd hp hn ⟨hC, hB, hg⟩ hM
   obtain ⟨v_, f137, ⟨b69, rfl, hs70⟩⟩ := hM.new 51 _ _ rfl (hp 51 rfl) rfl
   have hF := (hM.fr.add f137)
   exact OpVal.draw hF (B_ (ps := [(0, .const (.int .i64 4)), (6, .tmp 137)]) (cs := ((.int .i64 4) :: ((.int .i64 0) :: ((.int .i64 0) :: ((.int .i64 0) :: (Dig.zero.cells ++ ((.slice none 0 0) :: ((.slice (some ⟨b69, 0, none⟩) 2 2) :: [])))))))) so40 zero40 rfl rfl) ⟨G, fun _ _ h => h, ⟨hC, hB, hg⟩, ⟨_, rfl, (Do.mkIs (x := (Do.mk 4 0 0 0 Dig.zero ([]) ([(Stand.mk 2 (((digN ((1 : UInt8))))) 0), (Stand.mk 2 (((digN ((1 : UInt8))))) 4)]))) (Sl.nil_ _) hs70)⟩⟩
  refine dsNone (j := 54) rfl ?_ ?_
  ·
   intro done G w ac_ hd hp hn ⟨hC, hB, hg⟩ hM
   have hF := hM.fr
   exact OpVal.draw hF (B_ (ps := [(0, .const (.int .i64 9))]) (cs := ((.int .i64 9) :: (Dig.zero.cells ++ ((.int .i64 0) :: [])))) so44 zero44 rfl rfl) ⟨G, fun _ _ h => h, ⟨hC, hB, hg⟩, (by show _ = _; rfl)⟩
  refine dsNone (j := 55) rfl ?_ ?_
  ·
   intro done G w ac_ hd hp hn ⟨hC, hB, hg⟩ hM
   have f139 := hM.eqv (s := 139) 53 rfl (hp 53 rfl) rfl rfl
   have hF := (hM.fr.add f139)
   exact drawBsl hF (α := Stand) (ps := [(0, .tmp 139)]) (xs := [(Stand.mk 9 Dig.zero 0)]) (rows := [((.int .i64 9) :: (Dig.zero.cells ++ ((.int .i64 0) :: [])))]) elo38 rfl rfl hC.holds rfl rfl rfl ⟨rfl, trivial⟩ (fun b G' w' hk hr => ⟨G', hk.gle, ⟨hC.trans hk, hB.ext hk, fun b o h => hk.gle b o (hg b o h)⟩, ⟨b, rfl, hr⟩⟩)
  refine dsNone (j := 56) rfl ?_ ?_
  ·
   intro done G w ac_ hd hp hn ⟨hC, hB, hg⟩ hM
   obtain ⟨v_, f140, ⟨b73, rfl, hs74⟩⟩ := hM.new 54 _ _ rfl (hp 54 rfl) rfl
   have hF := (hM.fr.add f140)
   exact OpVal.draw hF (B_ (ps := [(0, .const (.int .i64 4)), (6, .tmp 140)]) (cs := ((.int .i64 4) :: ((.int .i64 0) :: ((.int .i64 0) :: ((.int .i64 0) :: (Dig.zero.cells ++ ((.slice none 0 0) :: ((.slice (some ⟨b73, 0, none⟩) 1 1) :: [])))))))) so40 zero40 rfl rfl) ⟨G, fun _ _ h => h, ⟨hC, hB, hg⟩, ⟨_, rfl, (Do.mkIs (x := (Do.mk 4 0 0 0 Dig.zero ([]) ([(Stand.mk 9 Dig.zero 0)]))) (Sl.nil_ _) hs74)⟩⟩
  refine dsNone (j := 57) rfl ?_ ?_
  ·
   intro done G w ac_ hd hp hn ⟨hC, hB, hg⟩ hM
   have hF := hM.fr
   exact OpVal.draw hF (B_ (ps := [(0, .const (.int .i64 3)), (2, .const (.int .i64 (-1)))]) (cs := ((.int .i64 3) :: (Dig.zero.cells ++ ((.int .i64 ((-1))) :: [])))) so44 zero44 rfl rfl) ⟨G, fun _ _ h => h, ⟨hC, hB, hg⟩, (by show _ = _; rfl)⟩
  refine dsNone (j := 58) rfl ?_ ?_
  ·
   intro done G w ac_ hd hp hn ⟨hC, hB, hg⟩ hM
   have f142 := hM.eqv (s := 142) 56 rfl (hp 56 rfl) rfl rfl
   have hF := (hM.fr.add f142)
   exact drawBsl hF (α := Stand) (ps := [(0, .tmp 142)]) (xs := [(Stand.mk 3 Dig.zero ((-1)))]) (rows := [((.int .i64 3) :: (Dig.zero.cells ++ ((.int .i64 ((-1))) :: [])))]) elo38 rfl rfl hC.holds rfl rfl rfl ⟨rfl, trivial⟩ (fun b G' w' hk hr => ⟨G', hk.gle, ⟨hC.trans hk, hB.ext hk, fun b o h => hk.gle b o (hg b o h)⟩, ⟨b, rfl, hr⟩⟩)
  refine dsNone (j := 59) rfl ?_ ?_
  ·
   intro done G w ac_ hd hp hn ⟨hC, hB, hg⟩ hM
   obtain ⟨v_, f143, ⟨b77, rfl, hs78⟩⟩ := hM.new 57 _ _ rfl (hp 57 rfl) rfl
   have hF := (hM.fr.add f143)
   exact OpVal.draw hF (B_ (ps := [(0, .const (.int .i64 4)), (6, .tmp 143)]) (cs := ((.int .i64 4) :: ((.int .i64 0) :: ((.int .i64 0) :: ((.int .i64 0) :: (Dig.zero.cells ++ ((.slice none 0 0) :: ((.slice (some ⟨b77, 0, none⟩) 1 1) :: [])))))))) so40 zero40 rfl rfl) ⟨G, fun _ _ h => h, ⟨hC, hB, hg⟩, ⟨_, rfl, (Do.mkIs (x := (Do.mk 4 0 0 0 Dig.zero ([]) ([(Stand.mk 3 Dig.zero ((-1)))]))) (Sl.nil_ _) hs78)⟩⟩
  refine dsNone (j := 60) rfl ?_ ?_
  ·
   intro done G w ac_ hd hp hn ⟨hC, hB, hg⟩ hM
   have f6 : ac_.tmps[6]? = some (.pointer (some ⟨b28, 0, none⟩)) := hM.old0 rfl rfl
   have hF := (hM.fr.add f6)
   exact OpVal.draw hF (opLoadRow (cs := (((digN ((1 : UInt8))))).cells) rfl (hB.range (i := 1) (m := 32) rfl (by simp [cl_])) row37 (by simp [cl_])) ⟨G, fun _ _ h => h, ⟨hC, hB, hg⟩, rfl⟩
  refine dsNone (j := 61) rfl ?_ ?_
  ·
   intro done G w ac_ hd hp hn ⟨hC, hB, hg⟩ hM
   have f145 := hM.eqv (s := 145) 59 rfl (hp 59 rfl) rfl rfl
   have hF := (hM.fr.add f145)
   exact OpVal.draw hF (B_ (ps := [(0, .const (.int .i64 3)), (1, .tmp 145)]) (cs := ((.int .i64 3) :: ((((digN ((1 : UInt8))))).cells ++ ((.int .i64 0) :: [])))) so44 zero44 rfl rfl) ⟨G, fun _ _ h => h, ⟨hC, hB, hg⟩, (by show _ = _; rfl)⟩
  refine dsNone (j := 62) rfl ?_ ?_
  ·
   intro done G w ac_ hd hp hn ⟨hC, hB, hg⟩ hM
   have f7 : ac_.tmps[7]? = some (.pointer (some ⟨b29, 0, none⟩)) := hM.old0 rfl rfl
   have hF := (hM.fr.add f7)
   exact OpVal.draw hF (opLoadRow (cs := (((digN ((2 : UInt8))))).cells) rfl (hB.range (i := 0) (m := 32) rfl (by simp [cl_])) row37 (by simp [cl_])) ⟨G, fun _ _ h => h, ⟨hC, hB, hg⟩, rfl⟩
  refine dsNone (j := 63) rfl ?_ ?_
  ·
   intro done G w ac_ hd hp hn ⟨hC, hB, hg⟩ hM
   have f147 := hM.eqv (s := 147) 61 rfl (hp 61 rfl) rfl rfl
   have hF := (hM.fr.add f147)
   exact OpVal.draw hF (B_ (ps := [(0, .const (.int .i64 3)), (1, .tmp 147)]) (cs := ((.int .i64 3) :: ((((digN ((2 : UInt8))))).cells ++ ((.int .i64 0) :: [])))) so44 zero44 rfl rfl) ⟨G, fun _ _ h => h, ⟨hC, hB, hg⟩, (by show _ = _; rfl)⟩
  refine dsNone (j := 64) rfl ?_ ?_
  ·
   intro done G w ac_ hd hp hn ⟨hC, hB, hg⟩ hM
   have f146 := hM.eqv (s := 146) 60 rfl (hp 60 rfl) rfl rfl
   have f148 := hM.eqv (s := 148) 62 rfl (hp 62 rfl) rfl rfl
   have hF := ((hM.fr.add f146).add f148)
   exact drawBsl hF (α := Stand) (ps := [(0, .tmp 146), (1, .tmp 148)]) (xs := [(Stand.mk 3 (((digN ((1 : UInt8))))) 0), (Stand.mk 3 (((digN ((2 : UInt8))))) 0)]) (rows := [((.int .i64 3) :: ((((digN ((1 : UInt8))))).cells ++ ((.int .i64 0) :: []))), ((.int .i64 3) :: ((((digN ((2 : UInt8))))).cells ++ ((.int .i64 0) :: [])))]) elo38 rfl rfl hC.holds rfl rfl rfl ⟨rfl, rfl, trivial⟩ (fun b G' w' hk hr => ⟨G', hk.gle, ⟨hC.trans hk, hB.ext hk, fun b o h => hk.gle b o (hg b o h)⟩, ⟨b, rfl, hr⟩⟩)
  refine dsNone (j := 65) rfl ?_ ?_
  ·
   intro done G w ac_ hd hp hn ⟨hC, hB, hg⟩ hM
   obtain ⟨v_, f149, ⟨b81, rfl, hs82⟩⟩ := hM.new 63 _ _ rfl (hp 63 rfl) rfl
   have hF := (hM.fr.add f149)
   exact OpVal.draw hF (B_ (ps := [(0, .const (.int .i64 4)), (5, .tmp 149)]) (cs := ((.int .i64 4) :: ((.int .i64 0) :: ((.int .i64 0) :: ((.int .i64 0) :: (Dig.zero.cells ++ ((.slice (some ⟨b81, 0, none⟩) 2 2) :: ((.slice none 0 0) :: [])))))))) so40 zero40 rfl rfl) ⟨G, fun _ _ h => h, ⟨hC, hB, hg⟩, ⟨_, rfl, (Do.mkIs (x := (Do.mk 4 0 0 0 Dig.zero ([(Stand.mk 3 (((digN ((1 : UInt8))))) 0), (Stand.mk 3 (((digN ((2 : UInt8))))) 0)]) ([]))) hs82 (Sl.nil_ _))⟩⟩
  refine dsNone (j := 66) rfl ?_ ?_
  ·
   intro done G w ac_ hd hp hn ⟨hC, hB, hg⟩ hM
   have hF := hM.fr
   exact OpVal.draw hF (B_ (ps := [(0, .const (.int .i64 3)), (2, .const (.int .i64 1048577))]) (cs := ((.int .i64 3) :: (Dig.zero.cells ++ ((.int .i64 1048577) :: [])))) so44 zero44 rfl rfl) ⟨G, fun _ _ h => h, ⟨hC, hB, hg⟩, (by show _ = _; rfl)⟩
  refine dsNone (j := 67) rfl ?_ ?_
  ·
   intro done G w ac_ hd hp hn ⟨hC, hB, hg⟩ hM
   have f151 := hM.eqv (s := 151) 65 rfl (hp 65 rfl) rfl rfl
   have hF := (hM.fr.add f151)
   exact drawBsl hF (α := Stand) (ps := [(0, .tmp 151)]) (xs := [(Stand.mk 3 Dig.zero 1048577)]) (rows := [((.int .i64 3) :: (Dig.zero.cells ++ ((.int .i64 1048577) :: [])))]) elo38 rfl rfl hC.holds rfl rfl rfl ⟨rfl, trivial⟩ (fun b G' w' hk hr => ⟨G', hk.gle, ⟨hC.trans hk, hB.ext hk, fun b o h => hk.gle b o (hg b o h)⟩, ⟨b, rfl, hr⟩⟩)
  refine dsNone (j := 68) rfl ?_ ?_
  ·
   intro done G w ac_ hd hp hn ⟨hC, hB, hg⟩ hM
   obtain ⟨v_, f152, ⟨b85, rfl, hs86⟩⟩ := hM.new 66 _ _ rfl (hp 66 rfl) rfl
   have hF := (hM.fr.add f152)
   exact OpVal.draw hF (B_ (ps := [(0, .const (.int .i64 4)), (5, .tmp 152)]) (cs := ((.int .i64 4) :: ((.int .i64 0) :: ((.int .i64 0) :: ((.int .i64 0) :: (Dig.zero.cells ++ ((.slice (some ⟨b85, 0, none⟩) 1 1) :: ((.slice none 0 0) :: [])))))))) so40 zero40 rfl rfl) ⟨G, fun _ _ h => h, ⟨hC, hB, hg⟩, ⟨_, rfl, (Do.mkIs (x := (Do.mk 4 0 0 0 Dig.zero ([(Stand.mk 3 Dig.zero 1048577)]) ([]))) hs86 (Sl.nil_ _))⟩⟩
  refine dsNone (j := 69) rfl ?_ ?_
  ·
   intro done G w ac_ hd hp hn ⟨hC, hB, hg⟩ hM
   have f8 : ac_.tmps[8]? = some (.slice (some ⟨b30, 0, none⟩) 4 4) := hM.old0 rfl rfl
   have hF := (hM.fr.add f8)
   exact OpVal.draw hF (opMove rfl) ⟨G, fun _ _ h => h, ⟨hC, hB, hg⟩, rfl⟩
  refine dsNone (j := 70) rfl ?_ ?_
  ·
   intro done G w ac_ hd hp hn ⟨hC, hB, hg⟩ hM
   replace hs31 := hs31.mono hg
   have f154 := hM.eqv (s := 154) 68 rfl (hp 68 rfl) rfl rfl
   have hF := (hM.fr.add f154)
   exact OpVal.draw hF (opSliceTo (h := 1) slo38 rfl rfl (Sl.capOf hs31 (by decide))) ⟨G, fun _ _ h => h, ⟨hC, hB, hg⟩, rfl⟩
  refine dsNone (j := 71) rfl ?_ ?_
  ·
   intro done G w ac_ hd hp hn ⟨hC, hB, hg⟩ hM
   have f8 : ac_.tmps[8]? = some (.slice (some ⟨b30, 0, none⟩) 4 4) := hM.old0 rfl rfl
   have hF := (hM.fr.add f8)
   exact OpVal.draw hF (opMove rfl) ⟨G, fun _ _ h => h, ⟨hC, hB, hg⟩, rfl⟩
  refine dsNone (j := 72) rfl ?_ ?_
  ·
   intro done G w ac_ hd hp hn ⟨hC, hB, hg⟩ hM
   have f155 := hM.eqv (s := 155) 69 rfl (hp 69 rfl) rfl rfl
   have f156 := hM.eqv (s := 156) 70 rfl (hp 70 rfl) rfl rfl
   have hF := ((hM.fr.add f155).add f156)
   exact OpVal.draw hF (B_ (ps := [(0, .const (.int .i64 4)), (5, .tmp 155), (6, .tmp 156)]) (cs := ((.int .i64 4) :: ((.int .i64 0) :: ((.int .i64 0) :: ((.int .i64 0) :: (Dig.zero.cells ++ ((.slice (some ⟨b30, 0, none⟩) 1 4) :: ((.slice (some ⟨b30, 0, none⟩) 4 4) :: [])))))))) so40 zero40 rfl rfl) ⟨G, fun _ _ h => h, ⟨hC, hB, hg⟩, (by show _ = _; rfl)⟩
  refine dsNone (j := 73) rfl ?_ ?_
  ·
   intro done G w ac_ hd hp hn ⟨hC, hB, hg⟩ hM
   have hF := hM.fr
   exact drawCallS hF rfl co21 rfl (digest_ret _ _ hC.holds ((6 : UInt8))) (fun w' hk => ⟨G, fun _ _ h => h, ⟨hC.trans hk, hB.ext hk, hg⟩, rfl⟩)
  refine dsNone (j := 74) rfl ?_ ?_
  ·
   intro done G w ac_ hd hp hn ⟨hC, hB, hg⟩ hM
   have f158 := hM.eqv (s := 158) 72 rfl (hp 72 rfl) rfl rfl
   have hF := (hM.fr.add f158)
   exact OpVal.draw hF (B_ (ps := [(0, .const (.int .i64 0)), (2, .const (.int .i64 2)), (3, .const (.int .i64 2)), (4, .tmp 158)]) (cs := ((.int .i64 0) :: ((.int .i64 0) :: ((.int .i64 2) :: ((.int .i64 2) :: ((((digN ((6 : UInt8))))).cells ++ ((.slice none 0 0) :: ((.slice none 0 0) :: [])))))))) so40 zero40 rfl rfl) ⟨G, fun _ _ h => h, ⟨hC, hB, hg⟩, (by show _ = _; rfl)⟩
  refine dsNone (j := 75) rfl ?_ ?_
  ·
   intro done G w ac_ hd hp hn ⟨hC, hB, hg⟩ hM
   have hF := hM.fr
   exact drawCallS hF rfl co21 rfl (digest_ret _ _ hC.holds ((6 : UInt8))) (fun w' hk => ⟨G, fun _ _ h => h, ⟨hC.trans hk, hB.ext hk, hg⟩, rfl⟩)
  refine dsNone (j := 76) rfl ?_ ?_
  ·
   intro done G w ac_ hd hp hn ⟨hC, hB, hg⟩ hM
   have f160 := hM.eqv (s := 160) 74 rfl (hp 74 rfl) rfl rfl
   have hF := (hM.fr.add f160)
   exact OpVal.draw hF (B_ (ps := [(0, .const (.int .i64 0)), (2, .const (.int .i64 5)), (3, .const (.int .i64 2)), (4, .tmp 160)]) (cs := ((.int .i64 0) :: ((.int .i64 0) :: ((.int .i64 5) :: ((.int .i64 2) :: ((((digN ((6 : UInt8))))).cells ++ ((.slice none 0 0) :: ((.slice none 0 0) :: [])))))))) so40 zero40 rfl rfl) ⟨G, fun _ _ h => h, ⟨hC, hB, hg⟩, (by show _ = _; rfl)⟩
  refine dsNone (j := 77) rfl ?_ ?_
  ·
   intro done G w ac_ hd hp hn ⟨hC, hB, hg⟩ hM
   have hF := hM.fr
   exact OpVal.draw hF (B_ (ps := [(0, .const (.int .i64 3)), (3, .const (.int .i64 1))]) (cs := ((.int .i64 3) :: ((.int .i64 0) :: ((.int .i64 0) :: ((.int .i64 1) :: (Dig.zero.cells ++ ((.slice none 0 0) :: ((.slice none 0 0) :: [])))))))) so40 zero40 rfl rfl) ⟨G, fun _ _ h => h, ⟨hC, hB, hg⟩, (by show _ = _; rfl)⟩
  refine dsNone (j := 78) rfl ?_ ?_
  ·
   intro done G w ac_ hd hp hn ⟨hC, hB, hg⟩ hM
   have hF := hM.fr
   exact OpVal.draw hF (B_ (ps := [(0, .const (.int .i64 3)), (3, .const (.int .i64 5))]) (cs := ((.int .i64 3) :: ((.int .i64 0) :: ((.int .i64 0) :: ((.int .i64 5) :: (Dig.zero.cells ++ ((.slice none 0 0) :: ((.slice none 0 0) :: [])))))))) so40 zero40 rfl rfl) ⟨G, fun _ _ h => h, ⟨hC, hB, hg⟩, (by show _ = _; rfl)⟩
  refine dsNone (j := 79) rfl ?_ ?_
  ·
   intro done G w ac_ hd hp hn ⟨hC, hB, hg⟩ hM
   have hF := hM.fr
   exact OpVal.draw hF (B_ (ps := [(0, .const (.int .i64 3)), (3, .const (.int .i64 1099511627776))]) (cs := ((.int .i64 3) :: ((.int .i64 0) :: ((.int .i64 0) :: ((.int .i64 1099511627776) :: (Dig.zero.cells ++ ((.slice none 0 0) :: ((.slice none 0 0) :: [])))))))) so40 zero40 rfl rfl) ⟨G, fun _ _ h => h, ⟨hC, hB, hg⟩, (by show _ = _; rfl)⟩
  refine dsNone (j := 80) rfl ?_ ?_
  ·
   intro done G w ac_ hd hp hn ⟨hC, hB, hg⟩ hM
   replace hs31 := hs31.mono hg
   have f86 := hM.eqv (s := 86) 0 rfl (hp 0 rfl) rfl rfl
   have f87 := hM.eqv (s := 87) 1 rfl (hp 1 rfl) rfl rfl
   have f89 := hM.eqv (s := 89) 3 rfl (hp 3 rfl) rfl rfl
   have f90 := hM.eqv (s := 90) 4 rfl (hp 4 rfl) rfl rfl
   have f91 := hM.eqv (s := 91) 5 rfl (hp 5 rfl) rfl rfl
   have f92 := hM.eqv (s := 92) 6 rfl (hp 6 rfl) rfl rfl
   have f94 := hM.eqv (s := 94) 8 rfl (hp 8 rfl) rfl rfl
   have f95 := hM.eqv (s := 95) 9 rfl (hp 9 rfl) rfl rfl
   have f96 := hM.eqv (s := 96) 10 rfl (hp 10 rfl) rfl rfl
   have f97 := hM.eqv (s := 97) 11 rfl (hp 11 rfl) rfl rfl
   have f98 := hM.eqv (s := 98) 12 rfl (hp 12 rfl) rfl rfl
   have f100 := hM.eqv (s := 100) 14 rfl (hp 14 rfl) rfl rfl
   have f102 := hM.eqv (s := 102) 16 rfl (hp 16 rfl) rfl rfl
   have f104 := hM.eqv (s := 104) 18 rfl (hp 18 rfl) rfl rfl
   have f106 := hM.eqv (s := 106) 20 rfl (hp 20 rfl) rfl rfl
   have f107 := hM.eqv (s := 107) 21 rfl (hp 21 rfl) rfl rfl
   have f109 := hM.eqv (s := 109) 23 rfl (hp 23 rfl) rfl rfl
   have f110 := hM.eqv (s := 110) 24 rfl (hp 24 rfl) rfl rfl
   have f111 := hM.eqv (s := 111) 25 rfl (hp 25 rfl) rfl rfl
   have f113 := hM.eqv (s := 113) 27 rfl (hp 27 rfl) rfl rfl
   have f114 := hM.eqv (s := 114) 28 rfl (hp 28 rfl) rfl rfl
   have f115 := hM.eqv (s := 115) 29 rfl (hp 29 rfl) rfl rfl
   have f117 := hM.eqv (s := 117) 31 rfl (hp 31 rfl) rfl rfl
   obtain ⟨v_, f123, ⟨cs63, rfl, hI64⟩⟩ := hM.new 37 _ _ rfl (hp 37 rfl) rfl
   obtain ⟨v_, f131, ⟨cs67, rfl, hI68⟩⟩ := hM.new 45 _ _ rfl (hp 45 rfl) rfl
   obtain ⟨v_, f138, ⟨cs71, rfl, hI72⟩⟩ := hM.new 52 _ _ rfl (hp 52 rfl) rfl
   obtain ⟨v_, f141, ⟨cs75, rfl, hI76⟩⟩ := hM.new 55 _ _ rfl (hp 55 rfl) rfl
   obtain ⟨v_, f144, ⟨cs79, rfl, hI80⟩⟩ := hM.new 58 _ _ rfl (hp 58 rfl) rfl
   obtain ⟨v_, f150, ⟨cs83, rfl, hI84⟩⟩ := hM.new 64 _ _ rfl (hp 64 rfl) rfl
   obtain ⟨v_, f153, ⟨cs87, rfl, hI88⟩⟩ := hM.new 67 _ _ rfl (hp 67 rfl) rfl
   have f157 := hM.eqv (s := 157) 71 rfl (hp 71 rfl) rfl rfl
   have f159 := hM.eqv (s := 159) 73 rfl (hp 73 rfl) rfl rfl
   have f161 := hM.eqv (s := 161) 75 rfl (hp 75 rfl) rfl rfl
   have f162 := hM.eqv (s := 162) 76 rfl (hp 76 rfl) rfl rfl
   have f163 := hM.eqv (s := 163) 77 rfl (hp 77 rfl) rfl rfl
   have f164 := hM.eqv (s := 164) 78 rfl (hp 78 rfl) rfl rfl
   have hF := ((((((((((((((((((((((((((((((((((((hM.fr.add f86).add f87).add f89).add f90).add f91).add f92).add f94).add f95).add f96).add f97).add f98).add f100).add f102).add f104).add f106).add f107).add f109).add f110).add f111).add f113).add f114).add f115).add f117).add f123).add f131).add f138).add f141).add f144).add f150).add f153).add f157).add f159).add f161).add f162).add f163).add f164)
   exact drawBsl hF (α := Do) (ps := [(0, .tmp 86), (1, .tmp 87), (2, .tmp 89), (3, .tmp 90), (4, .tmp 91), (5, .tmp 92), (6, .tmp 94), (7, .tmp 95), (8, .tmp 96), (9, .tmp 97), (10, .tmp 98), (11, .tmp 100), (12, .tmp 102), (13, .tmp 104), (14, .tmp 106), (15, .tmp 107), (16, .tmp 109), (17, .tmp 110), (18, .tmp 111), (19, .tmp 113), (20, .tmp 114), (21, .tmp 115), (22, .tmp 117), (23, .tmp 123), (24, .tmp 131), (25, .tmp 138), (26, .tmp 141), (27, .tmp 144), (28, .tmp 150), (29, .tmp 153), (30, .tmp 157), (31, .tmp 159), (32, .tmp 161), (33, .tmp 162), (34, .tmp 163), (35, .tmp 164)]) (xs := [(Do.mk 0 0 ((-1)) 1 Dig.zero ([]) ([])), (Do.mk 0 0 1048577 1 Dig.zero ([]) ([])), (Do.mk 0 0 1048576 1 (((digN ((1 : UInt8))))) ([]) ([])), (Do.mk 0 0 3 1 Dig.zero ([]) ([])), (Do.mk 0 0 0 0 Dig.zero ([]) ([])), (Do.mk 0 0 0 9 Dig.zero ([]) ([])), (Do.mk 0 0 0 8 (((digN ((1 : UInt8))))) ([]) ([])), (Do.mk 1 9 0 0 Dig.zero ([]) ([])), (Do.mk 1 2 ((-1)) 0 Dig.zero ([]) ([])), (Do.mk 1 1 0 99 Dig.zero ([]) ([])), (Do.mk 1 2 1 99 Dig.zero ([]) ([])), (Do.mk 1 2 2 8 (((digN ((1 : UInt8))))) ([]) ([])), (Do.mk 1 2 0 8 (((digN ((1 : UInt8))))) ([]) ([])), (Do.mk 1 2 2 8 (((digN ((2 : UInt8))))) ([]) ([])), (Do.mk 1 2 2 8 (((digN ((1 : UInt8))))) ([]) ([])), (Do.mk 2 9 0 0 Dig.zero ([]) ([])), (Do.mk 2 1 0 8 (((digN ((1 : UInt8))))) ([]) ([])), (Do.mk 2 1 ((-1)) 0 Dig.zero ([]) ([])), (Do.mk 2 1 0 0 Dig.zero ([]) ([])), (Do.mk 2 1 0 8 (((digN ((2 : UInt8))))) ([]) ([])), (Do.mk 3 0 0 ((-1)) Dig.zero ([]) ([])), (Do.mk 3 0 0 9007199254740991 Dig.zero ([]) ([])), (Do.mk 4 0 0 0 Dig.zero ([]) ([(Stand.mk 2 (((digN ((1 : UInt8))))) 0), (Stand.mk 2 (((digN ((2 : UInt8))))) 0), (Stand.mk 2 (((digN ((3 : UInt8))))) 1), (Stand.mk 2 (((digN ((4 : UInt8))))) 2)])), (Do.mk 4 0 0 0 Dig.zero ([]) (([(Stand.mk 2 (((digN ((1 : UInt8))))) 0), (Stand.mk 2 (((digN ((2 : UInt8))))) 0), (Stand.mk 2 (((digN ((3 : UInt8))))) 1), (Stand.mk 2 (((digN ((4 : UInt8))))) 2)] ++ [(Stand.mk 2 (((digN ((5 : UInt8))))) 3)]))), (Do.mk 4 0 0 0 Dig.zero ([]) ([(Stand.mk 2 (((digN ((2 : UInt8))))) 0), (Stand.mk 2 (((digN ((1 : UInt8))))) 0)])), (Do.mk 4 0 0 0 Dig.zero ([]) ([(Stand.mk 2 (((digN ((1 : UInt8))))) 0), (Stand.mk 2 (((digN ((1 : UInt8))))) 4)])), (Do.mk 4 0 0 0 Dig.zero ([]) ([(Stand.mk 9 Dig.zero 0)])), (Do.mk 4 0 0 0 Dig.zero ([]) ([(Stand.mk 3 Dig.zero ((-1)))])), (Do.mk 4 0 0 0 Dig.zero ([(Stand.mk 3 (((digN ((1 : UInt8))))) 0), (Stand.mk 3 (((digN ((2 : UInt8))))) 0)]) ([])), (Do.mk 4 0 0 0 Dig.zero ([(Stand.mk 3 Dig.zero 1048577)]) ([])), (Do.mk 4 0 0 0 Dig.zero (([(Stand.mk 2 (((digN ((1 : UInt8))))) 0), (Stand.mk 2 (((digN ((2 : UInt8))))) 0), (Stand.mk 2 (((digN ((3 : UInt8))))) 1), (Stand.mk 2 (((digN ((4 : UInt8))))) 2)].take 1)) ([(Stand.mk 2 (((digN ((1 : UInt8))))) 0), (Stand.mk 2 (((digN ((2 : UInt8))))) 0), (Stand.mk 2 (((digN ((3 : UInt8))))) 1), (Stand.mk 2 (((digN ((4 : UInt8))))) 2)])), (Do.mk 0 0 2 2 (((digN ((6 : UInt8))))) ([]) ([])), (Do.mk 0 0 5 2 (((digN ((6 : UInt8))))) ([]) ([])), (Do.mk 3 0 0 1 Dig.zero ([]) ([])), (Do.mk 3 0 0 5 Dig.zero ([]) ([])), (Do.mk 3 0 0 1099511627776 Dig.zero ([]) ([]))]) (rows := [((.int .i64 0) :: ((.int .i64 0) :: ((.int .i64 ((-1))) :: ((.int .i64 1) :: (Dig.zero.cells ++ ((.slice none 0 0) :: ((.slice none 0 0) :: []))))))), ((.int .i64 0) :: ((.int .i64 0) :: ((.int .i64 1048577) :: ((.int .i64 1) :: (Dig.zero.cells ++ ((.slice none 0 0) :: ((.slice none 0 0) :: []))))))), ((.int .i64 0) :: ((.int .i64 0) :: ((.int .i64 1048576) :: ((.int .i64 1) :: ((((digN ((1 : UInt8))))).cells ++ ((.slice none 0 0) :: ((.slice none 0 0) :: []))))))), ((.int .i64 0) :: ((.int .i64 0) :: ((.int .i64 3) :: ((.int .i64 1) :: (Dig.zero.cells ++ ((.slice none 0 0) :: ((.slice none 0 0) :: []))))))), ((.int .i64 0) :: ((.int .i64 0) :: ((.int .i64 0) :: ((.int .i64 0) :: (Dig.zero.cells ++ ((.slice none 0 0) :: ((.slice none 0 0) :: []))))))), ((.int .i64 0) :: ((.int .i64 0) :: ((.int .i64 0) :: ((.int .i64 9) :: (Dig.zero.cells ++ ((.slice none 0 0) :: ((.slice none 0 0) :: []))))))), ((.int .i64 0) :: ((.int .i64 0) :: ((.int .i64 0) :: ((.int .i64 8) :: ((((digN ((1 : UInt8))))).cells ++ ((.slice none 0 0) :: ((.slice none 0 0) :: []))))))), ((.int .i64 1) :: ((.int .i64 9) :: ((.int .i64 0) :: ((.int .i64 0) :: (Dig.zero.cells ++ ((.slice none 0 0) :: ((.slice none 0 0) :: []))))))), ((.int .i64 1) :: ((.int .i64 2) :: ((.int .i64 ((-1))) :: ((.int .i64 0) :: (Dig.zero.cells ++ ((.slice none 0 0) :: ((.slice none 0 0) :: []))))))), ((.int .i64 1) :: ((.int .i64 1) :: ((.int .i64 0) :: ((.int .i64 99) :: (Dig.zero.cells ++ ((.slice none 0 0) :: ((.slice none 0 0) :: []))))))), ((.int .i64 1) :: ((.int .i64 2) :: ((.int .i64 1) :: ((.int .i64 99) :: (Dig.zero.cells ++ ((.slice none 0 0) :: ((.slice none 0 0) :: []))))))), ((.int .i64 1) :: ((.int .i64 2) :: ((.int .i64 2) :: ((.int .i64 8) :: ((((digN ((1 : UInt8))))).cells ++ ((.slice none 0 0) :: ((.slice none 0 0) :: []))))))), ((.int .i64 1) :: ((.int .i64 2) :: ((.int .i64 0) :: ((.int .i64 8) :: ((((digN ((1 : UInt8))))).cells ++ ((.slice none 0 0) :: ((.slice none 0 0) :: []))))))), ((.int .i64 1) :: ((.int .i64 2) :: ((.int .i64 2) :: ((.int .i64 8) :: ((((digN ((2 : UInt8))))).cells ++ ((.slice none 0 0) :: ((.slice none 0 0) :: []))))))), ((.int .i64 1) :: ((.int .i64 2) :: ((.int .i64 2) :: ((.int .i64 8) :: ((((digN ((1 : UInt8))))).cells ++ ((.slice none 0 0) :: ((.slice none 0 0) :: []))))))), ((.int .i64 2) :: ((.int .i64 9) :: ((.int .i64 0) :: ((.int .i64 0) :: (Dig.zero.cells ++ ((.slice none 0 0) :: ((.slice none 0 0) :: []))))))), ((.int .i64 2) :: ((.int .i64 1) :: ((.int .i64 0) :: ((.int .i64 8) :: ((((digN ((1 : UInt8))))).cells ++ ((.slice none 0 0) :: ((.slice none 0 0) :: []))))))), ((.int .i64 2) :: ((.int .i64 1) :: ((.int .i64 ((-1))) :: ((.int .i64 0) :: (Dig.zero.cells ++ ((.slice none 0 0) :: ((.slice none 0 0) :: []))))))), ((.int .i64 2) :: ((.int .i64 1) :: ((.int .i64 0) :: ((.int .i64 0) :: (Dig.zero.cells ++ ((.slice none 0 0) :: ((.slice none 0 0) :: []))))))), ((.int .i64 2) :: ((.int .i64 1) :: ((.int .i64 0) :: ((.int .i64 8) :: ((((digN ((2 : UInt8))))).cells ++ ((.slice none 0 0) :: ((.slice none 0 0) :: []))))))), ((.int .i64 3) :: ((.int .i64 0) :: ((.int .i64 0) :: ((.int .i64 ((-1))) :: (Dig.zero.cells ++ ((.slice none 0 0) :: ((.slice none 0 0) :: []))))))), ((.int .i64 3) :: ((.int .i64 0) :: ((.int .i64 0) :: ((.int .i64 9007199254740991) :: (Dig.zero.cells ++ ((.slice none 0 0) :: ((.slice none 0 0) :: []))))))), ((.int .i64 4) :: ((.int .i64 0) :: ((.int .i64 0) :: ((.int .i64 0) :: (Dig.zero.cells ++ ((.slice none 0 0) :: ((.slice (some ⟨b30, 0, none⟩) 4 4) :: []))))))), cs63, cs67, cs71, cs75, cs79, cs83, cs87, ((.int .i64 4) :: ((.int .i64 0) :: ((.int .i64 0) :: ((.int .i64 0) :: (Dig.zero.cells ++ ((.slice (some ⟨b30, 0, none⟩) 1 4) :: ((.slice (some ⟨b30, 0, none⟩) 4 4) :: []))))))), ((.int .i64 0) :: ((.int .i64 0) :: ((.int .i64 2) :: ((.int .i64 2) :: ((((digN ((6 : UInt8))))).cells ++ ((.slice none 0 0) :: ((.slice none 0 0) :: []))))))), ((.int .i64 0) :: ((.int .i64 0) :: ((.int .i64 5) :: ((.int .i64 2) :: ((((digN ((6 : UInt8))))).cells ++ ((.slice none 0 0) :: ((.slice none 0 0) :: []))))))), ((.int .i64 3) :: ((.int .i64 0) :: ((.int .i64 0) :: ((.int .i64 1) :: (Dig.zero.cells ++ ((.slice none 0 0) :: ((.slice none 0 0) :: []))))))), ((.int .i64 3) :: ((.int .i64 0) :: ((.int .i64 0) :: ((.int .i64 5) :: (Dig.zero.cells ++ ((.slice none 0 0) :: ((.slice none 0 0) :: []))))))), ((.int .i64 3) :: ((.int .i64 0) :: ((.int .i64 0) :: ((.int .i64 1099511627776) :: (Dig.zero.cells ++ ((.slice none 0 0) :: ((.slice none 0 0) :: [])))))))]) elo25 rfl rfl hC.holds rfl rfl rfl ⟨(Do.mkIs (x := (Do.mk 0 0 ((-1)) 1 Dig.zero ([]) ([]))) (Sl.nil_ _) (Sl.nil_ _)), (Do.mkIs (x := (Do.mk 0 0 1048577 1 Dig.zero ([]) ([]))) (Sl.nil_ _) (Sl.nil_ _)), (Do.mkIs (x := (Do.mk 0 0 1048576 1 (((digN ((1 : UInt8))))) ([]) ([]))) (Sl.nil_ _) (Sl.nil_ _)), (Do.mkIs (x := (Do.mk 0 0 3 1 Dig.zero ([]) ([]))) (Sl.nil_ _) (Sl.nil_ _)), (Do.mkIs (x := (Do.mk 0 0 0 0 Dig.zero ([]) ([]))) (Sl.nil_ _) (Sl.nil_ _)), (Do.mkIs (x := (Do.mk 0 0 0 9 Dig.zero ([]) ([]))) (Sl.nil_ _) (Sl.nil_ _)), (Do.mkIs (x := (Do.mk 0 0 0 8 (((digN ((1 : UInt8))))) ([]) ([]))) (Sl.nil_ _) (Sl.nil_ _)), (Do.mkIs (x := (Do.mk 1 9 0 0 Dig.zero ([]) ([]))) (Sl.nil_ _) (Sl.nil_ _)), (Do.mkIs (x := (Do.mk 1 2 ((-1)) 0 Dig.zero ([]) ([]))) (Sl.nil_ _) (Sl.nil_ _)), (Do.mkIs (x := (Do.mk 1 1 0 99 Dig.zero ([]) ([]))) (Sl.nil_ _) (Sl.nil_ _)), (Do.mkIs (x := (Do.mk 1 2 1 99 Dig.zero ([]) ([]))) (Sl.nil_ _) (Sl.nil_ _)), (Do.mkIs (x := (Do.mk 1 2 2 8 (((digN ((1 : UInt8))))) ([]) ([]))) (Sl.nil_ _) (Sl.nil_ _)), (Do.mkIs (x := (Do.mk 1 2 0 8 (((digN ((1 : UInt8))))) ([]) ([]))) (Sl.nil_ _) (Sl.nil_ _)), (Do.mkIs (x := (Do.mk 1 2 2 8 (((digN ((2 : UInt8))))) ([]) ([]))) (Sl.nil_ _) (Sl.nil_ _)), (Do.mkIs (x := (Do.mk 1 2 2 8 (((digN ((1 : UInt8))))) ([]) ([]))) (Sl.nil_ _) (Sl.nil_ _)), (Do.mkIs (x := (Do.mk 2 9 0 0 Dig.zero ([]) ([]))) (Sl.nil_ _) (Sl.nil_ _)), (Do.mkIs (x := (Do.mk 2 1 0 8 (((digN ((1 : UInt8))))) ([]) ([]))) (Sl.nil_ _) (Sl.nil_ _)), (Do.mkIs (x := (Do.mk 2 1 ((-1)) 0 Dig.zero ([]) ([]))) (Sl.nil_ _) (Sl.nil_ _)), (Do.mkIs (x := (Do.mk 2 1 0 0 Dig.zero ([]) ([]))) (Sl.nil_ _) (Sl.nil_ _)), (Do.mkIs (x := (Do.mk 2 1 0 8 (((digN ((2 : UInt8))))) ([]) ([]))) (Sl.nil_ _) (Sl.nil_ _)), (Do.mkIs (x := (Do.mk 3 0 0 ((-1)) Dig.zero ([]) ([]))) (Sl.nil_ _) (Sl.nil_ _)), (Do.mkIs (x := (Do.mk 3 0 0 9007199254740991 Dig.zero ([]) ([]))) (Sl.nil_ _) (Sl.nil_ _)), (Do.mkIs (x := (Do.mk 4 0 0 0 Dig.zero ([]) ([(Stand.mk 2 (((digN ((1 : UInt8))))) 0), (Stand.mk 2 (((digN ((2 : UInt8))))) 0), (Stand.mk 2 (((digN ((3 : UInt8))))) 1), (Stand.mk 2 (((digN ((4 : UInt8))))) 2)]))) (Sl.nil_ _) hs31), hI64, hI68, hI72, hI76, hI80, hI84, hI88, (Do.mkIs (x := (Do.mk 4 0 0 0 Dig.zero (([(Stand.mk 2 (((digN ((1 : UInt8))))) 0), (Stand.mk 2 (((digN ((2 : UInt8))))) 0), (Stand.mk 2 (((digN ((3 : UInt8))))) 1), (Stand.mk 2 (((digN ((4 : UInt8))))) 2)].take 1)) ([(Stand.mk 2 (((digN ((1 : UInt8))))) 0), (Stand.mk 2 (((digN ((2 : UInt8))))) 0), (Stand.mk 2 (((digN ((3 : UInt8))))) 1), (Stand.mk 2 (((digN ((4 : UInt8))))) 2)]))) (Sl.take hs31 (h := 1) (by decide)) hs31), (Do.mkIs (x := (Do.mk 0 0 2 2 (((digN ((6 : UInt8))))) ([]) ([]))) (Sl.nil_ _) (Sl.nil_ _)), (Do.mkIs (x := (Do.mk 0 0 5 2 (((digN ((6 : UInt8))))) ([]) ([]))) (Sl.nil_ _) (Sl.nil_ _)), (Do.mkIs (x := (Do.mk 3 0 0 1 Dig.zero ([]) ([]))) (Sl.nil_ _) (Sl.nil_ _)), (Do.mkIs (x := (Do.mk 3 0 0 5 Dig.zero ([]) ([]))) (Sl.nil_ _) (Sl.nil_ _)), (Do.mkIs (x := (Do.mk 3 0 0 1099511627776 Dig.zero ([]) ([]))) (Sl.nil_ _) (Sl.nil_ _)), trivial⟩ (fun b G' w' hk hr => ⟨G', hk.gle, ⟨hC.trans hk, hB.ext hk, fun b o h => hk.gle b o (hg b o h)⟩, ⟨b, rfl, hr⟩⟩)
  refine dsNone (j := 81) rfl ?_ ?_
  ·
   intro done G w ac_ hd hp hn ⟨hC, hB, hg⟩ hM
   obtain ⟨v_, f165, hV_⟩ := hM.new 79 _ _ rfl (hp 79 rfl) rfl
   have hF := (hM.fr.add f165)
   exact OpVal.draw hF (opAssign rfl) ⟨G, fun _ _ h => h, ⟨hC, hB, hg⟩, hV_⟩
  exact dsNil
 ·
  intro done G w ac_ hall ⟨hC, hB, hg⟩ hM
  replace hsil := hsil.mono hg
  obtain ⟨v_, f9, ⟨b90, rfl, hs91⟩⟩ := hM.new 80 _ _ rfl (hall 80 (by decide)) rfl
  refine ⟨(Env.nil.put 9 (.slice (some ⟨b90, 0, none⟩) 36 36)), (hM.fr.add f9), ?_⟩
  clear hM hall
  refine wcOf <| wcSeq <| wcRegion <| M_ rfl <| wlOn rfl rfl ?_
  refine wlCallS hC hB rfl co7 rfl rfl (awake_ret _ _ hC.holds hsil) ?_; intro w hk hC hB
  refine V_ (opPickT rfl rfl) <| M_ rfl <| wlOn rfl rfl ?_
  refine wlCallG hC hB rfl co22 rfl rfl (crewOf1_ret _ _ hC.holds ) ?_; rintro v94 G w hk hC hB ⟨r92, rfl, hr93⟩
  replace hs91 := hs91.mono hk.gle
  replace hsil := hsil.mono hk.gle
  obtain ⟨v95, rfl, hs96⟩ := Crew.opIs hr93
  obtain ⟨A97, cap98, rfl⟩ := hs96.form
  refine wlOn rfl rfl <| M_ rfl <| wlOn rfl rfl ?_
  refine wlCallS hC hB rfl co3 rfl rfl (plays_ret _ _ hC.holds _ (((crewI 1))) (Crew.mkIs (x := ((crewI 1))) hs96) 0 _ _ hs91 hsil (by decide)) ?_; intro w hk hC hB
  refine V_ (opPickT rfl rfl) <| M_ rfl <| wlOn rfl rfl ?_
  refine wlCallG hC hB rfl co22 rfl rfl (crewOf2_ret _ _ hC.holds ) ?_; rintro v101 G w hk hC hB ⟨r99, rfl, hr100⟩
  replace hs91 := hs91.mono hk.gle
  replace hsil := hsil.mono hk.gle
  obtain ⟨v102, rfl, hs103⟩ := Crew.opIs hr100
  obtain ⟨A104, cap105, rfl⟩ := hs103.form
  refine wlOn rfl rfl <| M_ rfl <| wlOn rfl rfl ?_
  refine wlCallS hC hB rfl co3 rfl rfl (plays_ret _ _ hC.holds _ (((crewI 2))) (Crew.mkIs (x := ((crewI 2))) hs103) 0 _ _ hs91 hsil (by decide)) ?_; intro w hk hC hB
  refine V_ (opPickT rfl rfl) <| M_ rfl <| wlOn rfl rfl ?_
  refine wlCallG hC hB rfl co22 rfl rfl (crewOf1_ret _ _ hC.holds ) ?_; rintro v108 G w hk hC hB ⟨r106, rfl, hr107⟩
  replace hs91 := hs91.mono hk.gle
  replace hsil := hsil.mono hk.gle
  obtain ⟨v109, rfl, hs110⟩ := Crew.opIs hr107
  obtain ⟨A111, cap112, rfl⟩ := hs110.form
  refine wlOn rfl rfl <| M_ rfl <| wlOn rfl rfl ?_
  refine wlCallS hC hB rfl co3 rfl rfl (plays_ret _ _ hC.holds _ (((crewI 1))) (Crew.mkIs (x := ((crewI 1))) hs110) 9007199254740983 _ _ hs91 hsil (by decide)) ?_; intro w hk hC hB
  refine V_ (opPickT rfl rfl) <| M_ rfl <| wlOn rfl rfl ?_
  refine wlCallG hC hB rfl co22 rfl rfl (crewOf1_ret _ _ hC.holds ) ?_; rintro v115 G w hk hC hB ⟨r113, rfl, hr114⟩
  replace hsil := hsil.mono hk.gle
  obtain ⟨v116, rfl, hs117⟩ := Crew.opIs hr114
  obtain ⟨A118, cap119, rfl⟩ := hs117.form
  refine wlOn rfl rfl ?_
  refine wlCallS hC hB rfl co3 rfl rfl (plays_ret _ _ hC.holds _ (((crewI 1))) (Crew.mkIs (x := ((crewI 1))) hs117) 9007199254740984 _ _ (Sl.nil_ _) hsil (by decide)) ?_; intro w hk hC hB
  refine V_ (opPickT rfl rfl) <| M_ rfl <| wlOn rfl rfl ?_
  refine wlCallG hC hB rfl co22 rfl rfl (crewOf1_ret _ _ hC.holds ) ?_; rintro v122 G w hk hC hB ⟨r120, rfl, hr121⟩
  replace hsil := hsil.mono hk.gle
  obtain ⟨v123, rfl, hs124⟩ := Crew.opIs hr121
  obtain ⟨A125, cap126, rfl⟩ := hs124.form
  refine wlOn rfl rfl ?_
  refine wlCallS hC hB rfl co3 rfl rfl (plays_ret _ _ hC.holds _ (((crewI 1))) (Crew.mkIs (x := ((crewI 1))) hs124) ((-1)) _ _ (Sl.nil_ _) hsil (by decide)) ?_; intro w hk hC hB
  refine V_ (opPickT rfl rfl) <| M_ rfl <| wlOn rfl rfl <| V_ (B_ (ps := []) (cs := [(.int .i64 0), (.slice none 0 0)]) so24 zero24 rfl rfl) <| wlOn rfl rfl ?_
  refine wlCallS hC hB rfl co3 rfl rfl (plays_ret _ _ hC.holds _ ((Crew.mk 0 ([]))) (Crew.mkIs (x := (Crew.mk 0 ([]))) (Sl.nil_ _)) 0 _ _ (Sl.nil_ _) hsil (by decide)) ?_; intro w hk hC hB
  refine V_ (opPickT rfl rfl) <| M_ rfl <| wlOn rfl rfl ?_
  refine wlBuildSlice (α := Int) (ps := [(0, .const (.int .i64 1)), (1, .const (.int .i64 2)), (2, .const (.int .i64 3))]) (xs := [1, 2, 3]) (rows := [[(.int .i64 1)], [(.int .i64 2)], [(.int .i64 3)]]) elo22 rfl rfl hC hB rfl rfl rfl ⟨rfl, rfl, rfl, trivial⟩ rfl ?_; intro b127 G w hk hC hB hs128
  replace hsil := hsil.mono hk.gle
  refine wlOn rfl rfl <| V_ (B_ (ps := [(0, .const (.int .i64 1)), (1, .tmp 197)]) (cs := [(.int .i64 1), (.slice (some ⟨b127, 0, none⟩) 3 3)]) so24 zero24 rfl rfl) <| wlOn rfl rfl ?_
  refine wlCallS hC hB rfl co3 rfl rfl (plays_ret _ _ hC.holds _ ((Crew.mk 1 ([1, 2, 3]))) (Crew.mkIs (x := (Crew.mk 1 ([1, 2, 3]))) hs128) 0 _ _ (Sl.nil_ _) hsil (by decide)) ?_; intro w hk hC hB
  refine V_ (opPickT rfl rfl) <| A_ rfl <| wlThen <| wcRet ?_
  exact r1_ hQ rfl rfl (endS hC hw rfl)

end Go.Proofs.YtljcgggflgbenaaGreatDoor
