/- What functions of the marks seat return, part 15. No condition. -/
import Derived.Test.YtbmanooiphghmaaMkG14
import Derived.Test.YtbmanooiphghmaaMkRais
set_option linter.all false
namespace Go.Proofs.Ytbmanooiphghmaa
open Go Go.Gx Go.RowKit
theorem zero55 : (Try.prog.info? 55).bind (fun i => i.zero.map Value.cells) = some ([(.slice none 0 0), (.slice none 0 0), (.slice none 0 0), (.slice none 0 0), (.slice none 0 0)] : List Value).toArray := by kernel_rfl
theorem ar55 : arrOk Try.prog 55 5 54 1 = true := by kernel_rfl
theorem raised_ret (G0 : Gh) (w0 : World) (hw : Holds G0 w0) (vl : Value) (l : List Word) (hl : Sl G0 vl l) (sq : Int) :
    RetS Try.prog 6 #[vl, .int .i64 sq] G0 w0 (.bool true) := by
  have hC := Cx.refl hw
  have hB : Bxs G0 w0 w0.heap.size [] := Bxs.nil _ _ _
  obtain ⟨A1, cap2, rfl⟩ := hl.form
  refine callsOf Try.func6 rfl _ Try.ntmps6 rfl _ (argsCons (argsCons argsNil (t := 0) rfl) (t := 1) rfl) ?_; intro Q0 hQ
  refine wcSeq ?_
  refine wcRegion ?_
  refine wlVal (opAssign rfl) rfl ?_
  refine wlThen ?_
  refine wcSeq ?_
  refine wcRegion ?_
  refine wlCallN (m := []) (B := []) hC hB rfl co18 rfl rfl (fresh1_ret _ _ hC.holds ) ?_; rintro v3 G O4 w hg hC hB ⟨b8, l9, o5, q6, rfl, h7, rfl⟩
  replace hl := hl.mono hg
  replace hC : Cx w0 G0 G w ⟨[], [(b8, o5), (l9, q6)]⟩ := hC
  replace hB : Bxs G w w0.heap.size [] ⟨[], [(b8, o5), (l9, q6)]⟩ := hB
  refine wlVal (opAssign rfl) rfl ?_
  refine wlThen ?_
  refine wcSeq ?_
  refine wcSeq ?_
  refine wcRegion ?_
  refine wlVal (opAssign rfl) rfl ?_
  refine wlThen ?_
  refine wcBlock ?_
  refine WC.sub (wrInd (ι := Nat × Obj × Obj × MSt) (fun i => match i with | (k, om, qm, ms) => l.length - k) (fun i G w => match i with | (k, om, qm, ms) => Cx w0 G0 G w ⟨[], [(b8, om), (l9, qm)]⟩ ∧ Bxs G w w0.heap.size [] ⟨[], [(b8, om), (l9, qm)]⟩ ∧ Sl G (.slice A1 l.length cap2) l ∧ MarksO G om qm l9 ms ∧ RsJ ms) (fun i => match i with | (k, om, qm, ms) => ((((Env.nil.put 0 (.slice A1 l.length cap2)).put 1 (.int .i64 sq)).put 5 (.pointer (some ⟨b8, 0, none⟩))).put 6 (.int .i64 (((k : Nat) : Int))))) ?_ (0, o5, q6, ((MSt.mk (crewI 1) (Mark.mk 0 Dig.zero) []))) _ _ ⟨hC, hB, hl, h7, rs_new⟩) (fun _ ha => ((((ha.start.cons ha (t := 0) rfl).cons ha (t := 1) rfl).cons ha (t := 5) rfl).cons ha (t := 6) rfl))
  rintro ⟨k, om, qm, ms⟩ G w N0 IH0 ⟨hC, hB, hl, hJms, hJ⟩
  show WC _ _ _ _ ((((Env.nil.put 0 (.slice A1 l.length cap2)).put 1 (.int .i64 sq)).put 5 (.pointer (some ⟨b8, 0, none⟩))).put 6 (.int .i64 (((k : Nat) : Int)))) w
  refine wcSeq ?_
  refine wcSeq ?_
  refine wcRegion ?_
  refine wlVal (opMove rfl) rfl ?_
  refine wlVal (opMove rfl) rfl ?_
  refine wlVal (opLen rfl isl45) rfl ?_
  refine wlVal (opLssN rfl rfl) rfl ?_
  refine wlVal (opMove rfl) rfl ?_
  cases h10 : decide (k < l.length)
  · skip
    refine wlOff rfl rfl rfl rfl ?_
    refine wlOff rfl rfl rfl rfl ?_
    refine wlVal (opPickF rfl rfl) rfl ?_
    refine wlThen ?_
    refine wcCondF rfl ?_
    refine wcExit ?_
    refine wcOf ?_
    refine wcSeq ?_
    refine wcRegion ?_
    refine wlVal (opMove rfl) rfl ?_
    refine wlCallS hC hB rfl co11 rfl rfl (bring_ret _ _ hC.holds sq 8) ?_; intro w hk hC hB
    refine wlVal (opAssign rfl) rfl ?_
    refine wlThen ?_
    refine wcSeq ?_
    refine wcRegion ?_
    refine wlAlloc hC hB zero55 rfl ?_; intro b11 w hk hC hB
    refine wlThen ?_
    refine wcSeq ?_
    refine wcSeq ?_
    refine wcRegion ?_
    refine wlVal (opAssign rfl) rfl ?_
    refine wlThen ?_
    refine wcBlock ?_
    refine wcLoop 6 ?_
    refine wrSucc ?_
    refine wcSeq ?_
    refine wcSeq ?_
    refine wcRegion ?_
    refine wlVal (opMove rfl) rfl ?_
    refine wlVal (opLss rfl rfl) rfl ?_
    refine wlThen ?_
    refine wcCondT rfl ?_
    refine wcSkip ?_
    refine wcOf ?_
    refine wcSeq ?_
    refine wcBlock ?_
    refine wcRegion ?_
    refine wlVal (opMove rfl) rfl ?_
    refine wlVal (opMove rfl) rfl ?_
    refine wlVal (opMove rfl) rfl ?_
    refine wlCallO (bl := [(b11, 55, [(.slice none 0 0), (.slice none 0 0), (.slice none 0 0), (.slice none 0 0), (.slice none 0 0)])]) (r := []) hC hB rfl co22 rfl rfl (RetO.lend hC (fun _ _ _ _ ⟨A, cap, e, h⟩ => ⟨A, cap, e, h.any (fun _ _ _ _ h => h)⟩) (fun G_ hg_ hh_ hL_ => of_ret _ _ hh_ b8 l9 _ _ ms (hL_ (b8, om) (by simp)) (hL_ (l9, qm) (by simp)) (show MarksO G_ om qm l9 ms from (hJms.mono hg_)) 1)) ?_; rintro v16 G o14 w hk hC hB ⟨A12, cap13, rfl, hO15⟩
    replace hl := hl.mono hk.gle; replace hJms := hJms.mono hk.gle
    refine wlVal (opIndexArr (i := 1) rfl rfl ar55 (by decide)) rfl ?_
    obtain ⟨G, hg18, hC, hB, hs17⟩ := Ow.freeze' (bl := [(b11, 55, [(.slice none 0 0), (.slice none 0 0), (.slice none 0 0), (.slice none 0 0), (.slice none 0 0)])]) (r := []) hO15 hC (Nat.le_refl _) hB (Nat.le_trans (good_len hJms _) (by decide))
    replace hl := hl.mono hg18; replace hJms := hJms.mono hg18
    replace hB : Bxs G w w0.heap.size [(b11, 55, [(.slice none 0 0), (.slice none 0 0), (.slice none 0 0), (.slice none 0 0), (.slice none 0 0)])] ⟨[], [(b8, om), (l9, qm)]⟩ := hB
    refine wlStore 0 (vs := [(.slice A12 (((((mget ms.list 1).getD []))).length) cap13)]) (cs := [(.slice none 0 0), (.slice none 0 0), (.slice none 0 0), (.slice none 0 0), (.slice none 0 0)]) (cs' := [(.slice none 0 0), (.slice A12 (((((mget ms.list 1).getD []))).length) cap13), (.slice none 0 0), (.slice none 0 0), (.slice none 0 0)]) hC hB rfl rfl rfl sz54 rfl rfl rfl (by simp [Mark.cells, Do.cells, Word.cells]) rfl rfl ?_; intro w hC hB
    refine wlNil ?_
    refine wcOf ?_
    refine wcRegion ?_
    refine wlVal (opMove rfl) rfl ?_
    refine wlVal (OpVal.cast (v' := .int .i64 2) (opAdd rfl rfl) (congrArg (Value.int .i64) (by decide))) rfl ?_
    refine wlVal (opAssign rfl) rfl ?_
    refine wlRound ?_
    refine wrSucc ?_
    refine wcSeq ?_
    refine wcSeq ?_
    refine wcRegion ?_
    refine wlVal (opMove rfl) rfl ?_
    refine wlVal (opLss rfl rfl) rfl ?_
    refine wlThen ?_
    refine wcCondT rfl ?_
    refine wcSkip ?_
    refine wcOf ?_
    refine wcSeq ?_
    refine wcBlock ?_
    refine wcRegion ?_
    refine wlVal (opMove rfl) rfl ?_
    refine wlVal (opMove rfl) rfl ?_
    refine wlVal (opMove rfl) rfl ?_
    refine wlCallO (bl := [(b11, 55, [(.slice none 0 0), (.slice A12 (((((mget ms.list 1).getD []))).length) cap13), (.slice none 0 0), (.slice none 0 0), (.slice none 0 0)])]) (r := []) hC hB rfl co22 rfl rfl (RetO.lend hC (fun _ _ _ _ ⟨A, cap, e, h⟩ => ⟨A, cap, e, h.any (fun _ _ _ _ h => h)⟩) (fun G_ hg_ hh_ hL_ => of_ret _ _ hh_ b8 l9 _ _ ms (hL_ (b8, om) (by simp)) (hL_ (l9, qm) (by simp)) (show MarksO G_ om qm l9 ms from (hJms.mono hg_)) 2)) ?_; rintro v23 G o21 w hk hC hB ⟨A19, cap20, rfl, hO22⟩
    replace hl := hl.mono hk.gle; replace hJms := hJms.mono hk.gle; replace hs17 := hs17.mono hk.gle
    refine wlVal (opIndexArr (i := 2) rfl rfl ar55 (by decide)) rfl ?_
    obtain ⟨G, hg25, hC, hB, hs24⟩ := Ow.freeze' (bl := [(b11, 55, [(.slice none 0 0), (.slice A12 (((((mget ms.list 1).getD []))).length) cap13), (.slice none 0 0), (.slice none 0 0), (.slice none 0 0)])]) (r := []) hO22 hC (Nat.le_refl _) hB (Nat.le_trans (good_len hJms _) (by decide))
    replace hl := hl.mono hg25; replace hJms := hJms.mono hg25; replace hs17 := hs17.mono hg25
    replace hB : Bxs G w w0.heap.size [(b11, 55, [(.slice none 0 0), (.slice A12 (((((mget ms.list 1).getD []))).length) cap13), (.slice none 0 0), (.slice none 0 0), (.slice none 0 0)])] ⟨[], [(b8, om), (l9, qm)]⟩ := hB
    refine wlStore 0 (vs := [(.slice A19 (((((mget ms.list 2).getD []))).length) cap20)]) (cs := [(.slice none 0 0), (.slice A12 (((((mget ms.list 1).getD []))).length) cap13), (.slice none 0 0), (.slice none 0 0), (.slice none 0 0)]) (cs' := [(.slice none 0 0), (.slice A12 (((((mget ms.list 1).getD []))).length) cap13), (.slice A19 (((((mget ms.list 2).getD []))).length) cap20), (.slice none 0 0), (.slice none 0 0)]) hC hB rfl rfl rfl sz54 rfl rfl rfl (by simp [Mark.cells, Do.cells, Word.cells]) rfl rfl ?_; intro w hC hB
    refine wlNil ?_
    refine wcOf ?_
    refine wcRegion ?_
    refine wlVal (opMove rfl) rfl ?_
    refine wlVal (OpVal.cast (v' := .int .i64 3) (opAdd rfl rfl) (congrArg (Value.int .i64) (by decide))) rfl ?_
    refine wlVal (opAssign rfl) rfl ?_
    refine wlRound ?_
    refine wrSucc ?_
    refine wcSeq ?_
    refine wcSeq ?_
    refine wcRegion ?_
    refine wlVal (opMove rfl) rfl ?_
    refine wlVal (opLss rfl rfl) rfl ?_
    refine wlThen ?_
    refine wcCondT rfl ?_
    refine wcSkip ?_
    refine wcOf ?_
    refine wcSeq ?_
    refine wcBlock ?_
    refine wcRegion ?_
    refine wlVal (opMove rfl) rfl ?_
    refine wlVal (opMove rfl) rfl ?_
    refine wlVal (opMove rfl) rfl ?_
    refine wlCallO (bl := [(b11, 55, [(.slice none 0 0), (.slice A12 (((((mget ms.list 1).getD []))).length) cap13), (.slice A19 (((((mget ms.list 2).getD []))).length) cap20), (.slice none 0 0), (.slice none 0 0)])]) (r := []) hC hB rfl co22 rfl rfl (RetO.lend hC (fun _ _ _ _ ⟨A, cap, e, h⟩ => ⟨A, cap, e, h.any (fun _ _ _ _ h => h)⟩) (fun G_ hg_ hh_ hL_ => of_ret _ _ hh_ b8 l9 _ _ ms (hL_ (b8, om) (by simp)) (hL_ (l9, qm) (by simp)) (show MarksO G_ om qm l9 ms from (hJms.mono hg_)) 3)) ?_; rintro v30 G o28 w hk hC hB ⟨A26, cap27, rfl, hO29⟩
    replace hl := hl.mono hk.gle; replace hJms := hJms.mono hk.gle; replace hs17 := hs17.mono hk.gle; replace hs24 := hs24.mono hk.gle
    refine wlVal (opIndexArr (i := 3) rfl rfl ar55 (by decide)) rfl ?_
    obtain ⟨G, hg32, hC, hB, hs31⟩ := Ow.freeze' (bl := [(b11, 55, [(.slice none 0 0), (.slice A12 (((((mget ms.list 1).getD []))).length) cap13), (.slice A19 (((((mget ms.list 2).getD []))).length) cap20), (.slice none 0 0), (.slice none 0 0)])]) (r := []) hO29 hC (Nat.le_refl _) hB (Nat.le_trans (good_len hJms _) (by decide))
    replace hl := hl.mono hg32; replace hJms := hJms.mono hg32; replace hs17 := hs17.mono hg32; replace hs24 := hs24.mono hg32
    replace hB : Bxs G w w0.heap.size [(b11, 55, [(.slice none 0 0), (.slice A12 (((((mget ms.list 1).getD []))).length) cap13), (.slice A19 (((((mget ms.list 2).getD []))).length) cap20), (.slice none 0 0), (.slice none 0 0)])] ⟨[], [(b8, om), (l9, qm)]⟩ := hB
    refine wlStore 0 (vs := [(.slice A26 (((((mget ms.list 3).getD []))).length) cap27)]) (cs := [(.slice none 0 0), (.slice A12 (((((mget ms.list 1).getD []))).length) cap13), (.slice A19 (((((mget ms.list 2).getD []))).length) cap20), (.slice none 0 0), (.slice none 0 0)]) (cs' := [(.slice none 0 0), (.slice A12 (((((mget ms.list 1).getD []))).length) cap13), (.slice A19 (((((mget ms.list 2).getD []))).length) cap20), (.slice A26 (((((mget ms.list 3).getD []))).length) cap27), (.slice none 0 0)]) hC hB rfl rfl rfl sz54 rfl rfl rfl (by simp [Mark.cells, Do.cells, Word.cells]) rfl rfl ?_; intro w hC hB
    refine wlNil ?_
    refine wcOf ?_
    refine wcRegion ?_
    refine wlVal (opMove rfl) rfl ?_
    refine wlVal (OpVal.cast (v' := .int .i64 4) (opAdd rfl rfl) (congrArg (Value.int .i64) (by decide))) rfl ?_
    refine wlVal (opAssign rfl) rfl ?_
    refine wlRound ?_
    refine wrSucc ?_
    refine wcSeq ?_
    refine wcSeq ?_
    refine wcRegion ?_
    refine wlVal (opMove rfl) rfl ?_
    refine wlVal (opLss rfl rfl) rfl ?_
    refine wlThen ?_
    refine wcCondT rfl ?_
    refine wcSkip ?_
    refine wcOf ?_
    refine wcSeq ?_
    refine wcBlock ?_
    refine wcRegion ?_
    refine wlVal (opMove rfl) rfl ?_
    refine wlVal (opMove rfl) rfl ?_
    refine wlVal (opMove rfl) rfl ?_
    refine wlCallO (bl := [(b11, 55, [(.slice none 0 0), (.slice A12 (((((mget ms.list 1).getD []))).length) cap13), (.slice A19 (((((mget ms.list 2).getD []))).length) cap20), (.slice A26 (((((mget ms.list 3).getD []))).length) cap27), (.slice none 0 0)])]) (r := []) hC hB rfl co22 rfl rfl (RetO.lend hC (fun _ _ _ _ ⟨A, cap, e, h⟩ => ⟨A, cap, e, h.any (fun _ _ _ _ h => h)⟩) (fun G_ hg_ hh_ hL_ => of_ret _ _ hh_ b8 l9 _ _ ms (hL_ (b8, om) (by simp)) (hL_ (l9, qm) (by simp)) (show MarksO G_ om qm l9 ms from (hJms.mono hg_)) 4)) ?_; rintro v37 G o35 w hk hC hB ⟨A33, cap34, rfl, hO36⟩
    replace hl := hl.mono hk.gle; replace hJms := hJms.mono hk.gle; replace hs17 := hs17.mono hk.gle; replace hs24 := hs24.mono hk.gle; replace hs31 := hs31.mono hk.gle
    refine wlVal (opIndexArr (i := 4) rfl rfl ar55 (by decide)) rfl ?_
    obtain ⟨G, hg39, hC, hB, hs38⟩ := Ow.freeze' (bl := [(b11, 55, [(.slice none 0 0), (.slice A12 (((((mget ms.list 1).getD []))).length) cap13), (.slice A19 (((((mget ms.list 2).getD []))).length) cap20), (.slice A26 (((((mget ms.list 3).getD []))).length) cap27), (.slice none 0 0)])]) (r := []) hO36 hC (Nat.le_refl _) hB (Nat.le_trans (good_len hJms _) (by decide))
    replace hl := hl.mono hg39; replace hJms := hJms.mono hg39; replace hs17 := hs17.mono hg39; replace hs24 := hs24.mono hg39; replace hs31 := hs31.mono hg39
    replace hB : Bxs G w w0.heap.size [(b11, 55, [(.slice none 0 0), (.slice A12 (((((mget ms.list 1).getD []))).length) cap13), (.slice A19 (((((mget ms.list 2).getD []))).length) cap20), (.slice A26 (((((mget ms.list 3).getD []))).length) cap27), (.slice none 0 0)])] ⟨[], [(b8, om), (l9, qm)]⟩ := hB
    refine wlStore 0 (vs := [(.slice A33 (((((mget ms.list 4).getD []))).length) cap34)]) (cs := [(.slice none 0 0), (.slice A12 (((((mget ms.list 1).getD []))).length) cap13), (.slice A19 (((((mget ms.list 2).getD []))).length) cap20), (.slice A26 (((((mget ms.list 3).getD []))).length) cap27), (.slice none 0 0)]) (cs' := [(.slice none 0 0), (.slice A12 (((((mget ms.list 1).getD []))).length) cap13), (.slice A19 (((((mget ms.list 2).getD []))).length) cap20), (.slice A26 (((((mget ms.list 3).getD []))).length) cap27), (.slice A33 (((((mget ms.list 4).getD []))).length) cap34)]) hC hB rfl rfl rfl sz54 rfl rfl rfl (by simp [Mark.cells, Do.cells, Word.cells]) rfl rfl ?_; intro w hC hB
    refine wlNil ?_
    refine wcOf ?_
    refine wcRegion ?_
    refine wlVal (opMove rfl) rfl ?_
    refine wlVal (OpVal.cast (v' := .int .i64 5) (opAdd rfl rfl) (congrArg (Value.int .i64) (by decide))) rfl ?_
    refine wlVal (opAssign rfl) rfl ?_
    refine wlRound ?_
    refine wrSucc ?_
    refine wcSeq ?_
    refine wcSeq ?_
    refine wcRegion ?_
    refine wlVal (opMove rfl) rfl ?_
    refine wlVal (opLss rfl rfl) rfl ?_
    refine wlThen ?_
    refine wcCondF rfl ?_
    refine wcExit ?_
    refine wcOf ?_
    refine wcSeq ?_
    refine wcSeq ?_
    refine wcRegion ?_
    refine wlVal (opMove rfl) rfl ?_
    refine wlVal (opMove rfl) rfl ?_
    refine wlCallS hC hB rfl co19 rfl rfl (mark_ret _ _ hC.holds (((bringI sq 8))) ((9 : UInt8))) ?_; intro w hk hC hB
    refine wlCallM (A := []) (O := [(b8, om), (l9, qm)]) (B := []) hC hB rfl co14 rfl rfl (raise_ret _ _ hC.holds b8 l9 _ _ ms ⟨hC.heldAt 0 rfl, hC.heldG 0 rfl⟩ ⟨hC.heldAt 1 rfl, hC.heldG 1 rfl⟩ (by have e_ := hC.hnd; simp at e_; omega) hJms (((markI (((bringI sq 8))) ((9 : UInt8)))))) ?_; rintro v40 G O41 w hg hC hB ⟨o42, q43, rfl, h44, rfl⟩
    replace hl := hl.mono hg; replace hs17 := hs17.mono hg; replace hs24 := hs24.mono hg; replace hs31 := hs31.mono hg; replace hs38 := hs38.mono hg
    replace hC : Cx w0 G0 G w ⟨[], [(b8, o42), (l9, q43)]⟩ := hC
    replace hB : Bxs G w w0.heap.size [(b11, 55, [(.slice none 0 0), (.slice A12 (((((mget ms.list 1).getD []))).length) cap13), (.slice A19 (((((mget ms.list 2).getD []))).length) cap20), (.slice A26 (((((mget ms.list 3).getD []))).length) cap27), (.slice A33 (((((mget ms.list 4).getD []))).length) cap34)])] ⟨[], [(b8, o42), (l9, q43)]⟩ := hB
    refine wlVal (opNeq rfl rfl) rfl ?_
    refine wlVal (opMove rfl) rfl ?_
    cases h45 : (((raiseM ms (((markI (((bringI sq 8))) ((9 : UInt8)))))).2)) != 0
    · skip
      refine wlOn rfl rfl ?_
      refine wlVal (opMove rfl) rfl ?_
      refine wlOn rfl rfl ?_
      refine wlCallS hC hB rfl co23 rfl rfl (RetS.lend hC (fun G_ hg_ hh_ hL_ => low_ret _ _ hh_ b8 l9 _ _ (((raiseM ms (((markI (((bringI sq 8))) ((9 : UInt8)))))).1)) (hL_ (b8, o42) (by simp)) (hL_ (l9, q43) (by simp)) (show MarksO G_ o42 q43 l9 (((raiseM ms (((markI (((bringI sq 8))) ((9 : UInt8)))))).1)) from (h44.mono hg_)))) ?_; intro w hk hC hB
      refine wlOn rfl rfl ?_
      refine wlVal (opMove rfl) rfl ?_
      refine wlOn rfl rfl ?_
      refine wlCallS hC hB rfl co19 rfl rfl (mark_ret _ _ hC.holds (((bringI sq 8))) ((9 : UInt8))) ?_; intro w hk hC hB
      refine wlOn rfl rfl ?_
      refine wlVal (opNeRow (eq28 _ (((((raiseM ms (((markI (((bringI sq 8))) ((9 : UInt8)))))).1)).low)) (((markI (((bringI sq 8))) ((9 : UInt8)))))) eg28 rfl rfl) rfl ?_
      refine wlVal (opPickF rfl rfl) rfl ?_
      refine wlThen ?_
      cases h46 : decide (((((raiseM ms (((markI (((bringI sq 8))) ((9 : UInt8)))))).1)).low) = ((markI (((bringI sq 8))) ((9 : UInt8)))))
      · skip
        exact absurd h46 (by rw [rs_raise hJ]; simp)
      · skip
        refine wcCondF rfl ?_
        refine wcSkip ?_
        refine wcOf ?_
        refine wcSeq ?_
        refine wcSeq ?_
        refine wcRegion ?_
        refine wlVal (opAssign rfl) rfl ?_
        refine wlThen ?_
        refine wcBlock ?_
        refine wcLoop 6 ?_
        refine wrSucc ?_
        refine wcSeq ?_
        refine wcSeq ?_
        refine wcRegion ?_
        refine wlVal (opMove rfl) rfl ?_
        refine wlVal (opLss rfl rfl) rfl ?_
        refine wlThen ?_
        refine wcCondT rfl ?_
        refine wcSkip ?_
        refine wcOf ?_
        refine wcSeq ?_
        refine wcBlock ?_
        refine wcSeq ?_
        refine wcRegion ?_
        refine wlVal (opAssign rfl) rfl ?_
        refine wlThen ?_
        refine wcSeq ?_
        refine wcSeq ?_
        refine wcRegion ?_
        refine wlVal (opAssign rfl) rfl ?_
        refine wlThen ?_
        refine wcBlock ?_
        refine WC.sub (wrInd (ι := Nat × (Option Addr) × Nat × (Option Bx) × (List Mark)) (fun i => match i with | (i1_, out1_A, out1_C, out1_O, out1_) => ((mget ms.list 1).getD []).length - i1_) (fun i G w => match i with | (i1_, out1_A, out1_C, out1_O, out1_) => Cx w0 G0 G w ⟨[], [(b8, o42), (l9, q43)]⟩ ∧ Bxs G w w0.heap.size ([(b11, 55, [(.slice none 0 0), (.slice A12 (((((mget ms.list 1).getD []))).length) cap13), (.slice A19 (((((mget ms.list 2).getD []))).length) cap20), (.slice A26 (((((mget ms.list 3).getD []))).length) cap27), (.slice A33 (((((mget ms.list 4).getD []))).length) cap34)])] ++ (Option.toList out1_O ++ [])) ⟨[], [(b8, o42), (l9, q43)]⟩ ∧ Sl G (.slice A1 l.length cap2) l ∧ Sl G (.slice A12 (((((mget ms.list 1).getD []))).length) cap13) ((((mget ms.list 1).getD []))) ∧ Sl G (.slice A19 (((((mget ms.list 2).getD []))).length) cap20) ((((mget ms.list 2).getD []))) ∧ Sl G (.slice A26 (((((mget ms.list 3).getD []))).length) cap27) ((((mget ms.list 3).getD []))) ∧ Sl G (.slice A33 (((((mget ms.list 4).getD []))).length) cap34) ((((mget ms.list 4).getD []))) ∧ MarksO G o42 q43 l9 ((raiseM ms (((markI (((bringI sq 8))) ((9 : UInt8)))))).1) ∧ Ow G out1_O 28 (.slice out1_A out1_.length out1_C) out1_ ∧ i1_ ≤ ((mget ms.list 1).getD []).length ∧ out1_ = (((mget ms.list 1).getD []).take i1_).filter (fun a => decide (bringI sq 8 < a.seq))) (fun i => match i with | (i1_, out1_A, out1_C, out1_O, out1_) => ((((((Env.nil.put 5 (.pointer (some ⟨b8, 0, none⟩))).put 7 (.int .i64 (((bringI sq 8))))).put 8 (.pointer (some ⟨b11, 0, none⟩))).put 10 (.int .i64 1)).put 11 (.slice out1_A out1_.length out1_C)).put 12 (.int .i64 (((i1_ : Nat) : Int))))) ?_ (0, none, 0, none, []) _ _ ⟨hC, hB, hl, hs17, hs24, hs31, hs38, h44, (Ow.nil_ _ 28), (Nat.zero_le _), rfl⟩) (fun _ ha => ((((((ha.start.cons ha (t := 5) rfl).cons ha (t := 7) rfl).cons ha (t := 8) rfl).cons ha (t := 10) rfl).cons ha (t := 11) rfl).cons ha (t := 12) rfl))
        rintro ⟨i1_, out1_A, out1_C, out1_O, out1_⟩ G w N3 IH3 ⟨hC, hB, hl, hs17, hs24, hs31, hs38, h44, hOout1_, hil, hO2⟩
        show WC _ _ _ _ ((((((Env.nil.put 5 (.pointer (some ⟨b8, 0, none⟩))).put 7 (.int .i64 (((bringI sq 8))))).put 8 (.pointer (some ⟨b11, 0, none⟩))).put 10 (.int .i64 1)).put 11 (.slice out1_A out1_.length out1_C)).put 12 (.int .i64 (((i1_ : Nat) : Int)))) w
        refine wcSeq ?_
        refine wcSeq ?_
        refine wcRegion ?_
        refine wlVal (opMove rfl) rfl ?_
        refine wlVal (opMove rfl) rfl ?_
        refine wlVal (opIndexArr (i := 1) rfl rfl ar55 (by decide)) rfl ?_
        refine wlVal (opLoadOne (v := (.slice A12 (((((mget ms.list 1).getD []))).length) cap13)) rfl (hB.cell (i := 0) rfl rfl) one54) rfl ?_
        refine wlVal (opLen rfl isl54) rfl ?_
        refine wlVal (opLssN rfl rfl) rfl ?_
        refine wlThen ?_
        cases h47 : decide (i1_ < ((((mget ms.list 1).getD []))).length)
        · skip
          refine wcCondF rfl ?_
          refine wcExit ?_
          refine wcOf ?_
          refine wcSeq ?_
          refine wcRegion ?_
          refine wlVal (opMove rfl) rfl ?_
          refine wlVal (opMove rfl) rfl ?_
          refine wlCallO (bl := [(b11, 55, [(.slice none 0 0), (.slice A12 (((((mget ms.list 1).getD []))).length) cap13), (.slice A19 (((((mget ms.list 2).getD []))).length) cap20), (.slice A26 (((((mget ms.list 3).getD []))).length) cap27), (.slice A33 (((((mget ms.list 4).getD []))).length) cap34)])]) (r := (Option.toList out1_O ++ [])) hC hB rfl co22 rfl rfl (RetO.lend hC (fun _ _ _ _ ⟨A, cap, e, h⟩ => ⟨A, cap, e, h.any (fun _ _ _ _ h => h)⟩) (fun G_ hg_ hh_ hL_ => of_ret _ _ hh_ b8 l9 _ _ (((raiseM ms (((markI (((bringI sq 8))) ((9 : UInt8)))))).1)) (hL_ (b8, o42) (by simp)) (hL_ (l9, q43) (by simp)) (show MarksO G_ o42 q43 l9 (((raiseM ms (((markI (((bringI sq 8))) ((9 : UInt8)))))).1)) from (h44.mono hg_)) 1)) ?_; rintro v52 G o50 w hk hC hB ⟨A48, cap49, rfl, hO51⟩
          replace hl := hl.mono hk.gle; replace hs17 := hs17.mono hk.gle; replace hs24 := hs24.mono hk.gle; replace hs31 := hs31.mono hk.gle; replace hs38 := hs38.mono hk.gle; replace h44 := h44.mono hk.gle; replace hOout1_ := hOout1_.mono hk.gle
          refine wlVal (opMove rfl) rfl ?_
          obtain ⟨G, hg54, hC, hB, hs53⟩ := Ow.freeze' (bl := [(b11, 55, [(.slice none 0 0), (.slice A12 (((((mget ms.list 1).getD []))).length) cap13), (.slice A19 (((((mget ms.list 2).getD []))).length) cap20), (.slice A26 (((((mget ms.list 3).getD []))).length) cap27), (.slice A33 (((((mget ms.list 4).getD []))).length) cap34)])]) (r := (Option.toList out1_O ++ [])) hO51 hC (Nat.le_refl _) hB (by rw [rs_of hJ]; exact Nat.le_trans (List.length_filter_le _ _) (Nat.le_trans (good_len hJms _) (by decide)))
          replace hl := hl.mono hg54; replace hs17 := hs17.mono hg54; replace hs24 := hs24.mono hg54; replace hs31 := hs31.mono hg54; replace hs38 := hs38.mono hg54; replace h44 := h44.mono hg54; replace hOout1_ := hOout1_.mono hg54
          replace hB : Bxs G w w0.heap.size ([(b11, 55, [(.slice none 0 0), (.slice A12 (((((mget ms.list 1).getD []))).length) cap13), (.slice A19 (((((mget ms.list 2).getD []))).length) cap20), (.slice A26 (((((mget ms.list 3).getD []))).length) cap27), (.slice A33 (((((mget ms.list 4).getD []))).length) cap34)])] ++ (Option.toList out1_O ++ [])) ⟨[], [(b8, o42), (l9, q43)]⟩ := hB
          obtain ⟨G, hg56, hC, hB, hs55⟩ := Ow.freeze' (bl := [(b11, 55, [(.slice none 0 0), (.slice A12 (((((mget ms.list 1).getD []))).length) cap13), (.slice A19 (((((mget ms.list 2).getD []))).length) cap20), (.slice A26 (((((mget ms.list 3).getD []))).length) cap27), (.slice A33 (((((mget ms.list 4).getD []))).length) cap34)])]) (r := []) hOout1_ hC (Nat.le_refl _) hB (by unfold maxL; have q := rw_len (good_len hJms _) hO2; omega)
          replace hl := hl.mono hg56; replace hs17 := hs17.mono hg56; replace hs24 := hs24.mono hg56; replace hs31 := hs31.mono hg56; replace hs38 := hs38.mono hg56; replace h44 := h44.mono hg56; replace hs53 := hs53.mono hg56
          replace hB : Bxs G w w0.heap.size [(b11, 55, [(.slice none 0 0), (.slice A12 (((((mget ms.list 1).getD []))).length) cap13), (.slice A19 (((((mget ms.list 2).getD []))).length) cap20), (.slice A26 (((((mget ms.list 3).getD []))).length) cap27), (.slice A33 (((((mget ms.list 4).getD []))).length) cap34)])] ⟨[], [(b8, o42), (l9, q43)]⟩ := hB
          refine wlCallS hC hB rfl co24 rfl rfl (rsame_ret _ _ hC.holds _ ((((mget (((raiseM ms (((markI (((bringI sq 8))) ((9 : UInt8)))))).1)).list 1).getD []))) hs53 _ out1_ hs55) ?_; intro w hk hC hB
          refine wlVal (opNot rfl) rfl ?_
          refine wlThen ?_
          cases h57 : (decide (((((mget (((raiseM ms (((markI (((bringI sq 8))) ((9 : UInt8)))))).1)).list 1).getD []))) = out1_))
          · skip
            exact absurd (rw_end hJ hO2 h47) (of_decide_eq_false h57)
          · skip
            refine wcCondF rfl ?_
            refine wcSkip ?_
            refine wcOf ?_
            refine wcRegion ?_
            refine wlVal (opMove rfl) rfl ?_
            refine wlVal (OpVal.cast (v' := .int .i64 2) (opAdd rfl rfl) (congrArg (Value.int .i64) (by decide))) rfl ?_
            refine wlVal (opAssign rfl) rfl ?_
            refine wlRound ?_
            refine wrSucc ?_
            refine wcSeq ?_
            refine wcSeq ?_
            refine wcRegion ?_
            refine wlVal (opMove rfl) rfl ?_
            refine wlVal (opLss rfl rfl) rfl ?_
            refine wlThen ?_
            refine wcCondT rfl ?_
            refine wcSkip ?_
            refine wcOf ?_
            refine wcSeq ?_
            refine wcBlock ?_
            refine wcSeq ?_
            refine wcRegion ?_
            refine wlVal (opAssign rfl) rfl ?_
            refine wlThen ?_
            refine wcSeq ?_
            refine wcSeq ?_
            refine wcRegion ?_
            refine wlVal (opAssign rfl) rfl ?_
            refine wlThen ?_
            refine wcBlock ?_
            refine WC.sub (wrInd (ι := Nat × (Option Addr) × Nat × (Option Bx) × (List Mark)) (fun i => match i with | (i2_, out2_A, out2_C, out2_O, out2_) => ((mget ms.list 2).getD []).length - i2_) (fun i G w => match i with | (i2_, out2_A, out2_C, out2_O, out2_) => Cx w0 G0 G w ⟨[], [(b8, o42), (l9, q43)]⟩ ∧ Bxs G w w0.heap.size ([(b11, 55, [(.slice none 0 0), (.slice A12 (((((mget ms.list 1).getD []))).length) cap13), (.slice A19 (((((mget ms.list 2).getD []))).length) cap20), (.slice A26 (((((mget ms.list 3).getD []))).length) cap27), (.slice A33 (((((mget ms.list 4).getD []))).length) cap34)])] ++ (Option.toList out2_O ++ [])) ⟨[], [(b8, o42), (l9, q43)]⟩ ∧ Sl G (.slice A1 l.length cap2) l ∧ Sl G (.slice A12 (((((mget ms.list 1).getD []))).length) cap13) ((((mget ms.list 1).getD []))) ∧ Sl G (.slice A19 (((((mget ms.list 2).getD []))).length) cap20) ((((mget ms.list 2).getD []))) ∧ Sl G (.slice A26 (((((mget ms.list 3).getD []))).length) cap27) ((((mget ms.list 3).getD []))) ∧ Sl G (.slice A33 (((((mget ms.list 4).getD []))).length) cap34) ((((mget ms.list 4).getD []))) ∧ MarksO G o42 q43 l9 ((raiseM ms (((markI (((bringI sq 8))) ((9 : UInt8)))))).1) ∧ Sl G (.slice A48 (((((mget (((raiseM ms (((markI (((bringI sq 8))) ((9 : UInt8)))))).1)).list 1).getD []))).length) cap49) ((((mget (((raiseM ms (((markI (((bringI sq 8))) ((9 : UInt8)))))).1)).list 1).getD []))) ∧ Sl G (.slice out1_A out1_.length out1_C) out1_ ∧ Ow G out2_O 28 (.slice out2_A out2_.length out2_C) out2_ ∧ i2_ ≤ ((mget ms.list 2).getD []).length ∧ out2_ = (((mget ms.list 2).getD []).take i2_).filter (fun a => decide (bringI sq 8 < a.seq))) (fun i => match i with | (i2_, out2_A, out2_C, out2_O, out2_) => ((((((Env.nil.put 5 (.pointer (some ⟨b8, 0, none⟩))).put 7 (.int .i64 (((bringI sq 8))))).put 8 (.pointer (some ⟨b11, 0, none⟩))).put 10 (.int .i64 2)).put 11 (.slice out2_A out2_.length out2_C)).put 12 (.int .i64 (((i2_ : Nat) : Int))))) ?_ (0, none, 0, none, []) _ _ ⟨hC, hB, hl, hs17, hs24, hs31, hs38, h44, hs53, hs55, (Ow.nil_ _ 28), (Nat.zero_le _), rfl⟩) (fun _ ha => ((((((ha.start.cons ha (t := 5) rfl).cons ha (t := 7) rfl).cons ha (t := 8) rfl).cons ha (t := 10) rfl).cons ha (t := 11) rfl).cons ha (t := 12) rfl))
            rintro ⟨i2_, out2_A, out2_C, out2_O, out2_⟩ G w N3 IH3 ⟨hC, hB, hl, hs17, hs24, hs31, hs38, h44, hs53, hs55, hOout2_, hil, hO2⟩
            show WC _ _ _ _ ((((((Env.nil.put 5 (.pointer (some ⟨b8, 0, none⟩))).put 7 (.int .i64 (((bringI sq 8))))).put 8 (.pointer (some ⟨b11, 0, none⟩))).put 10 (.int .i64 2)).put 11 (.slice out2_A out2_.length out2_C)).put 12 (.int .i64 (((i2_ : Nat) : Int)))) w
            refine wcSeq ?_
            refine wcSeq ?_
            refine wcRegion ?_
            refine wlVal (opMove rfl) rfl ?_
            refine wlVal (opMove rfl) rfl ?_
            refine wlVal (opIndexArr (i := 2) rfl rfl ar55 (by decide)) rfl ?_
            refine wlVal (opLoadOne (v := (.slice A19 (((((mget ms.list 2).getD []))).length) cap20)) rfl (hB.cell (i := 0) rfl rfl) one54) rfl ?_
            refine wlVal (opLen rfl isl54) rfl ?_
            refine wlVal (opLssN rfl rfl) rfl ?_
            refine wlThen ?_
            cases h58 : decide (i2_ < ((((mget ms.list 2).getD []))).length)
            · skip
              refine wcCondF rfl ?_
              refine wcExit ?_
              refine wcOf ?_
              refine wcSeq ?_
              refine wcRegion ?_
              refine wlVal (opMove rfl) rfl ?_
              refine wlVal (opMove rfl) rfl ?_
              refine wlCallO (bl := [(b11, 55, [(.slice none 0 0), (.slice A12 (((((mget ms.list 1).getD []))).length) cap13), (.slice A19 (((((mget ms.list 2).getD []))).length) cap20), (.slice A26 (((((mget ms.list 3).getD []))).length) cap27), (.slice A33 (((((mget ms.list 4).getD []))).length) cap34)])]) (r := (Option.toList out2_O ++ [])) hC hB rfl co22 rfl rfl (RetO.lend hC (fun _ _ _ _ ⟨A, cap, e, h⟩ => ⟨A, cap, e, h.any (fun _ _ _ _ h => h)⟩) (fun G_ hg_ hh_ hL_ => of_ret _ _ hh_ b8 l9 _ _ (((raiseM ms (((markI (((bringI sq 8))) ((9 : UInt8)))))).1)) (hL_ (b8, o42) (by simp)) (hL_ (l9, q43) (by simp)) (show MarksO G_ o42 q43 l9 (((raiseM ms (((markI (((bringI sq 8))) ((9 : UInt8)))))).1)) from (h44.mono hg_)) 2)) ?_; rintro v63 G o61 w hk hC hB ⟨A59, cap60, rfl, hO62⟩
              replace hl := hl.mono hk.gle; replace hs17 := hs17.mono hk.gle; replace hs24 := hs24.mono hk.gle; replace hs31 := hs31.mono hk.gle; replace hs38 := hs38.mono hk.gle; replace h44 := h44.mono hk.gle; replace hs53 := hs53.mono hk.gle; replace hs55 := hs55.mono hk.gle; replace hOout2_ := hOout2_.mono hk.gle
              refine wlVal (opMove rfl) rfl ?_
              obtain ⟨G, hg65, hC, hB, hs64⟩ := Ow.freeze' (bl := [(b11, 55, [(.slice none 0 0), (.slice A12 (((((mget ms.list 1).getD []))).length) cap13), (.slice A19 (((((mget ms.list 2).getD []))).length) cap20), (.slice A26 (((((mget ms.list 3).getD []))).length) cap27), (.slice A33 (((((mget ms.list 4).getD []))).length) cap34)])]) (r := (Option.toList out2_O ++ [])) hO62 hC (Nat.le_refl _) hB (by rw [rs_of hJ]; exact Nat.le_trans (List.length_filter_le _ _) (Nat.le_trans (good_len hJms _) (by decide)))
              replace hl := hl.mono hg65; replace hs17 := hs17.mono hg65; replace hs24 := hs24.mono hg65; replace hs31 := hs31.mono hg65; replace hs38 := hs38.mono hg65; replace h44 := h44.mono hg65; replace hs53 := hs53.mono hg65; replace hs55 := hs55.mono hg65; replace hOout2_ := hOout2_.mono hg65
              replace hB : Bxs G w w0.heap.size ([(b11, 55, [(.slice none 0 0), (.slice A12 (((((mget ms.list 1).getD []))).length) cap13), (.slice A19 (((((mget ms.list 2).getD []))).length) cap20), (.slice A26 (((((mget ms.list 3).getD []))).length) cap27), (.slice A33 (((((mget ms.list 4).getD []))).length) cap34)])] ++ (Option.toList out2_O ++ [])) ⟨[], [(b8, o42), (l9, q43)]⟩ := hB
              obtain ⟨G, hg67, hC, hB, hs66⟩ := Ow.freeze' (bl := [(b11, 55, [(.slice none 0 0), (.slice A12 (((((mget ms.list 1).getD []))).length) cap13), (.slice A19 (((((mget ms.list 2).getD []))).length) cap20), (.slice A26 (((((mget ms.list 3).getD []))).length) cap27), (.slice A33 (((((mget ms.list 4).getD []))).length) cap34)])]) (r := []) hOout2_ hC (Nat.le_refl _) hB (by unfold maxL; have q := rw_len (good_len hJms _) hO2; omega)
              replace hl := hl.mono hg67; replace hs17 := hs17.mono hg67; replace hs24 := hs24.mono hg67; replace hs31 := hs31.mono hg67; replace hs38 := hs38.mono hg67; replace h44 := h44.mono hg67; replace hs53 := hs53.mono hg67; replace hs55 := hs55.mono hg67; replace hs64 := hs64.mono hg67
              replace hB : Bxs G w w0.heap.size [(b11, 55, [(.slice none 0 0), (.slice A12 (((((mget ms.list 1).getD []))).length) cap13), (.slice A19 (((((mget ms.list 2).getD []))).length) cap20), (.slice A26 (((((mget ms.list 3).getD []))).length) cap27), (.slice A33 (((((mget ms.list 4).getD []))).length) cap34)])] ⟨[], [(b8, o42), (l9, q43)]⟩ := hB
              refine wlCallS hC hB rfl co24 rfl rfl (rsame_ret _ _ hC.holds _ ((((mget (((raiseM ms (((markI (((bringI sq 8))) ((9 : UInt8)))))).1)).list 2).getD []))) hs64 _ out2_ hs66) ?_; intro w hk hC hB
              refine wlVal (opNot rfl) rfl ?_
              refine wlThen ?_
              cases h68 : (decide (((((mget (((raiseM ms (((markI (((bringI sq 8))) ((9 : UInt8)))))).1)).list 2).getD []))) = out2_))
              · skip
                exact absurd (rw_end hJ hO2 h58) (of_decide_eq_false h68)
              · skip
                refine wcCondF rfl ?_
                refine wcSkip ?_
                refine wcOf ?_
                refine wcRegion ?_
                refine wlVal (opMove rfl) rfl ?_
                refine wlVal (OpVal.cast (v' := .int .i64 3) (opAdd rfl rfl) (congrArg (Value.int .i64) (by decide))) rfl ?_
                refine wlVal (opAssign rfl) rfl ?_
                refine wlRound ?_
                refine wrSucc ?_
                refine wcSeq ?_
                refine wcSeq ?_
                refine wcRegion ?_
                refine wlVal (opMove rfl) rfl ?_
                refine wlVal (opLss rfl rfl) rfl ?_
                refine wlThen ?_
                refine wcCondT rfl ?_
                refine wcSkip ?_
                refine wcOf ?_
                refine wcSeq ?_
                refine wcBlock ?_
                refine wcSeq ?_
                refine wcRegion ?_
                refine wlVal (opAssign rfl) rfl ?_
                refine wlThen ?_
                refine wcSeq ?_
                refine wcSeq ?_
                refine wcRegion ?_
                refine wlVal (opAssign rfl) rfl ?_
                refine wlThen ?_
                refine wcBlock ?_
                refine WC.sub (wrInd (ι := Nat × (Option Addr) × Nat × (Option Bx) × (List Mark)) (fun i => match i with | (i3_, out3_A, out3_C, out3_O, out3_) => ((mget ms.list 3).getD []).length - i3_) (fun i G w => match i with | (i3_, out3_A, out3_C, out3_O, out3_) => Cx w0 G0 G w ⟨[], [(b8, o42), (l9, q43)]⟩ ∧ Bxs G w w0.heap.size ([(b11, 55, [(.slice none 0 0), (.slice A12 (((((mget ms.list 1).getD []))).length) cap13), (.slice A19 (((((mget ms.list 2).getD []))).length) cap20), (.slice A26 (((((mget ms.list 3).getD []))).length) cap27), (.slice A33 (((((mget ms.list 4).getD []))).length) cap34)])] ++ (Option.toList out3_O ++ [])) ⟨[], [(b8, o42), (l9, q43)]⟩ ∧ Sl G (.slice A1 l.length cap2) l ∧ Sl G (.slice A12 (((((mget ms.list 1).getD []))).length) cap13) ((((mget ms.list 1).getD []))) ∧ Sl G (.slice A19 (((((mget ms.list 2).getD []))).length) cap20) ((((mget ms.list 2).getD []))) ∧ Sl G (.slice A26 (((((mget ms.list 3).getD []))).length) cap27) ((((mget ms.list 3).getD []))) ∧ Sl G (.slice A33 (((((mget ms.list 4).getD []))).length) cap34) ((((mget ms.list 4).getD []))) ∧ MarksO G o42 q43 l9 ((raiseM ms (((markI (((bringI sq 8))) ((9 : UInt8)))))).1) ∧ Sl G (.slice A48 (((((mget (((raiseM ms (((markI (((bringI sq 8))) ((9 : UInt8)))))).1)).list 1).getD []))).length) cap49) ((((mget (((raiseM ms (((markI (((bringI sq 8))) ((9 : UInt8)))))).1)).list 1).getD []))) ∧ Sl G (.slice out1_A out1_.length out1_C) out1_ ∧ Sl G (.slice A59 (((((mget (((raiseM ms (((markI (((bringI sq 8))) ((9 : UInt8)))))).1)).list 2).getD []))).length) cap60) ((((mget (((raiseM ms (((markI (((bringI sq 8))) ((9 : UInt8)))))).1)).list 2).getD []))) ∧ Sl G (.slice out2_A out2_.length out2_C) out2_ ∧ Ow G out3_O 28 (.slice out3_A out3_.length out3_C) out3_ ∧ i3_ ≤ ((mget ms.list 3).getD []).length ∧ out3_ = (((mget ms.list 3).getD []).take i3_).filter (fun a => decide (bringI sq 8 < a.seq))) (fun i => match i with | (i3_, out3_A, out3_C, out3_O, out3_) => ((((((Env.nil.put 5 (.pointer (some ⟨b8, 0, none⟩))).put 7 (.int .i64 (((bringI sq 8))))).put 8 (.pointer (some ⟨b11, 0, none⟩))).put 10 (.int .i64 3)).put 11 (.slice out3_A out3_.length out3_C)).put 12 (.int .i64 (((i3_ : Nat) : Int))))) ?_ (0, none, 0, none, []) _ _ ⟨hC, hB, hl, hs17, hs24, hs31, hs38, h44, hs53, hs55, hs64, hs66, (Ow.nil_ _ 28), (Nat.zero_le _), rfl⟩) (fun _ ha => ((((((ha.start.cons ha (t := 5) rfl).cons ha (t := 7) rfl).cons ha (t := 8) rfl).cons ha (t := 10) rfl).cons ha (t := 11) rfl).cons ha (t := 12) rfl))
                rintro ⟨i3_, out3_A, out3_C, out3_O, out3_⟩ G w N3 IH3 ⟨hC, hB, hl, hs17, hs24, hs31, hs38, h44, hs53, hs55, hs64, hs66, hOout3_, hil, hO2⟩
                show WC _ _ _ _ ((((((Env.nil.put 5 (.pointer (some ⟨b8, 0, none⟩))).put 7 (.int .i64 (((bringI sq 8))))).put 8 (.pointer (some ⟨b11, 0, none⟩))).put 10 (.int .i64 3)).put 11 (.slice out3_A out3_.length out3_C)).put 12 (.int .i64 (((i3_ : Nat) : Int)))) w
                refine wcSeq ?_
                refine wcSeq ?_
                refine wcRegion ?_
                refine wlVal (opMove rfl) rfl ?_
                refine wlVal (opMove rfl) rfl ?_
                refine wlVal (opIndexArr (i := 3) rfl rfl ar55 (by decide)) rfl ?_
                refine wlVal (opLoadOne (v := (.slice A26 (((((mget ms.list 3).getD []))).length) cap27)) rfl (hB.cell (i := 0) rfl rfl) one54) rfl ?_
                refine wlVal (opLen rfl isl54) rfl ?_
                refine wlVal (opLssN rfl rfl) rfl ?_
                refine wlThen ?_
                cases h69 : decide (i3_ < ((((mget ms.list 3).getD []))).length)
                · skip
                  refine wcCondF rfl ?_
                  refine wcExit ?_
                  refine wcOf ?_
                  refine wcSeq ?_
                  refine wcRegion ?_
                  refine wlVal (opMove rfl) rfl ?_
                  refine wlVal (opMove rfl) rfl ?_
                  refine wlCallO (bl := [(b11, 55, [(.slice none 0 0), (.slice A12 (((((mget ms.list 1).getD []))).length) cap13), (.slice A19 (((((mget ms.list 2).getD []))).length) cap20), (.slice A26 (((((mget ms.list 3).getD []))).length) cap27), (.slice A33 (((((mget ms.list 4).getD []))).length) cap34)])]) (r := (Option.toList out3_O ++ [])) hC hB rfl co22 rfl rfl (RetO.lend hC (fun _ _ _ _ ⟨A, cap, e, h⟩ => ⟨A, cap, e, h.any (fun _ _ _ _ h => h)⟩) (fun G_ hg_ hh_ hL_ => of_ret _ _ hh_ b8 l9 _ _ (((raiseM ms (((markI (((bringI sq 8))) ((9 : UInt8)))))).1)) (hL_ (b8, o42) (by simp)) (hL_ (l9, q43) (by simp)) (show MarksO G_ o42 q43 l9 (((raiseM ms (((markI (((bringI sq 8))) ((9 : UInt8)))))).1)) from (h44.mono hg_)) 3)) ?_; rintro v74 G o72 w hk hC hB ⟨A70, cap71, rfl, hO73⟩
                  replace hl := hl.mono hk.gle; replace hs17 := hs17.mono hk.gle; replace hs24 := hs24.mono hk.gle; replace hs31 := hs31.mono hk.gle; replace hs38 := hs38.mono hk.gle; replace h44 := h44.mono hk.gle; replace hs53 := hs53.mono hk.gle; replace hs55 := hs55.mono hk.gle; replace hs64 := hs64.mono hk.gle; replace hs66 := hs66.mono hk.gle; replace hOout3_ := hOout3_.mono hk.gle
                  refine wlVal (opMove rfl) rfl ?_
                  obtain ⟨G, hg76, hC, hB, hs75⟩ := Ow.freeze' (bl := [(b11, 55, [(.slice none 0 0), (.slice A12 (((((mget ms.list 1).getD []))).length) cap13), (.slice A19 (((((mget ms.list 2).getD []))).length) cap20), (.slice A26 (((((mget ms.list 3).getD []))).length) cap27), (.slice A33 (((((mget ms.list 4).getD []))).length) cap34)])]) (r := (Option.toList out3_O ++ [])) hO73 hC (Nat.le_refl _) hB (by rw [rs_of hJ]; exact Nat.le_trans (List.length_filter_le _ _) (Nat.le_trans (good_len hJms _) (by decide)))
                  replace hl := hl.mono hg76; replace hs17 := hs17.mono hg76; replace hs24 := hs24.mono hg76; replace hs31 := hs31.mono hg76; replace hs38 := hs38.mono hg76; replace h44 := h44.mono hg76; replace hs53 := hs53.mono hg76; replace hs55 := hs55.mono hg76; replace hs64 := hs64.mono hg76; replace hs66 := hs66.mono hg76; replace hOout3_ := hOout3_.mono hg76
                  replace hB : Bxs G w w0.heap.size ([(b11, 55, [(.slice none 0 0), (.slice A12 (((((mget ms.list 1).getD []))).length) cap13), (.slice A19 (((((mget ms.list 2).getD []))).length) cap20), (.slice A26 (((((mget ms.list 3).getD []))).length) cap27), (.slice A33 (((((mget ms.list 4).getD []))).length) cap34)])] ++ (Option.toList out3_O ++ [])) ⟨[], [(b8, o42), (l9, q43)]⟩ := hB
                  obtain ⟨G, hg78, hC, hB, hs77⟩ := Ow.freeze' (bl := [(b11, 55, [(.slice none 0 0), (.slice A12 (((((mget ms.list 1).getD []))).length) cap13), (.slice A19 (((((mget ms.list 2).getD []))).length) cap20), (.slice A26 (((((mget ms.list 3).getD []))).length) cap27), (.slice A33 (((((mget ms.list 4).getD []))).length) cap34)])]) (r := []) hOout3_ hC (Nat.le_refl _) hB (by unfold maxL; have q := rw_len (good_len hJms _) hO2; omega)
                  replace hl := hl.mono hg78; replace hs17 := hs17.mono hg78; replace hs24 := hs24.mono hg78; replace hs31 := hs31.mono hg78; replace hs38 := hs38.mono hg78; replace h44 := h44.mono hg78; replace hs53 := hs53.mono hg78; replace hs55 := hs55.mono hg78; replace hs64 := hs64.mono hg78; replace hs66 := hs66.mono hg78; replace hs75 := hs75.mono hg78
                  replace hB : Bxs G w w0.heap.size [(b11, 55, [(.slice none 0 0), (.slice A12 (((((mget ms.list 1).getD []))).length) cap13), (.slice A19 (((((mget ms.list 2).getD []))).length) cap20), (.slice A26 (((((mget ms.list 3).getD []))).length) cap27), (.slice A33 (((((mget ms.list 4).getD []))).length) cap34)])] ⟨[], [(b8, o42), (l9, q43)]⟩ := hB
                  refine wlCallS hC hB rfl co24 rfl rfl (rsame_ret _ _ hC.holds _ ((((mget (((raiseM ms (((markI (((bringI sq 8))) ((9 : UInt8)))))).1)).list 3).getD []))) hs75 _ out3_ hs77) ?_; intro w hk hC hB
                  refine wlVal (opNot rfl) rfl ?_
                  refine wlThen ?_
                  cases h79 : (decide (((((mget (((raiseM ms (((markI (((bringI sq 8))) ((9 : UInt8)))))).1)).list 3).getD []))) = out3_))
                  · skip
                    exact absurd (rw_end hJ hO2 h69) (of_decide_eq_false h79)
                  · skip
                    refine wcCondF rfl ?_
                    refine wcSkip ?_
                    refine wcOf ?_
                    refine wcRegion ?_
                    refine wlVal (opMove rfl) rfl ?_
                    refine wlVal (OpVal.cast (v' := .int .i64 4) (opAdd rfl rfl) (congrArg (Value.int .i64) (by decide))) rfl ?_
                    refine wlVal (opAssign rfl) rfl ?_
                    refine wlRound ?_
                    refine wrSucc ?_
                    refine wcSeq ?_
                    refine wcSeq ?_
                    refine wcRegion ?_
                    refine wlVal (opMove rfl) rfl ?_
                    refine wlVal (opLss rfl rfl) rfl ?_
                    refine wlThen ?_
                    refine wcCondT rfl ?_
                    refine wcSkip ?_
                    refine wcOf ?_
                    refine wcSeq ?_
                    refine wcBlock ?_
                    refine wcSeq ?_
                    refine wcRegion ?_
                    refine wlVal (opAssign rfl) rfl ?_
                    refine wlThen ?_
                    refine wcSeq ?_
                    refine wcSeq ?_
                    refine wcRegion ?_
                    refine wlVal (opAssign rfl) rfl ?_
                    refine wlThen ?_
                    refine wcBlock ?_
                    refine WC.sub (wrInd (ι := Nat × (Option Addr) × Nat × (Option Bx) × (List Mark)) (fun i => match i with | (i4_, out4_A, out4_C, out4_O, out4_) => ((mget ms.list 4).getD []).length - i4_) (fun i G w => match i with | (i4_, out4_A, out4_C, out4_O, out4_) => Cx w0 G0 G w ⟨[], [(b8, o42), (l9, q43)]⟩ ∧ Bxs G w w0.heap.size ([(b11, 55, [(.slice none 0 0), (.slice A12 (((((mget ms.list 1).getD []))).length) cap13), (.slice A19 (((((mget ms.list 2).getD []))).length) cap20), (.slice A26 (((((mget ms.list 3).getD []))).length) cap27), (.slice A33 (((((mget ms.list 4).getD []))).length) cap34)])] ++ (Option.toList out4_O ++ [])) ⟨[], [(b8, o42), (l9, q43)]⟩ ∧ Sl G (.slice A1 l.length cap2) l ∧ Sl G (.slice A12 (((((mget ms.list 1).getD []))).length) cap13) ((((mget ms.list 1).getD []))) ∧ Sl G (.slice A19 (((((mget ms.list 2).getD []))).length) cap20) ((((mget ms.list 2).getD []))) ∧ Sl G (.slice A26 (((((mget ms.list 3).getD []))).length) cap27) ((((mget ms.list 3).getD []))) ∧ Sl G (.slice A33 (((((mget ms.list 4).getD []))).length) cap34) ((((mget ms.list 4).getD []))) ∧ MarksO G o42 q43 l9 ((raiseM ms (((markI (((bringI sq 8))) ((9 : UInt8)))))).1) ∧ Sl G (.slice A48 (((((mget (((raiseM ms (((markI (((bringI sq 8))) ((9 : UInt8)))))).1)).list 1).getD []))).length) cap49) ((((mget (((raiseM ms (((markI (((bringI sq 8))) ((9 : UInt8)))))).1)).list 1).getD []))) ∧ Sl G (.slice out1_A out1_.length out1_C) out1_ ∧ Sl G (.slice A59 (((((mget (((raiseM ms (((markI (((bringI sq 8))) ((9 : UInt8)))))).1)).list 2).getD []))).length) cap60) ((((mget (((raiseM ms (((markI (((bringI sq 8))) ((9 : UInt8)))))).1)).list 2).getD []))) ∧ Sl G (.slice out2_A out2_.length out2_C) out2_ ∧ Sl G (.slice A70 (((((mget (((raiseM ms (((markI (((bringI sq 8))) ((9 : UInt8)))))).1)).list 3).getD []))).length) cap71) ((((mget (((raiseM ms (((markI (((bringI sq 8))) ((9 : UInt8)))))).1)).list 3).getD []))) ∧ Sl G (.slice out3_A out3_.length out3_C) out3_ ∧ Ow G out4_O 28 (.slice out4_A out4_.length out4_C) out4_ ∧ i4_ ≤ ((mget ms.list 4).getD []).length ∧ out4_ = (((mget ms.list 4).getD []).take i4_).filter (fun a => decide (bringI sq 8 < a.seq))) (fun i => match i with | (i4_, out4_A, out4_C, out4_O, out4_) => ((((((Env.nil.put 5 (.pointer (some ⟨b8, 0, none⟩))).put 7 (.int .i64 (((bringI sq 8))))).put 8 (.pointer (some ⟨b11, 0, none⟩))).put 10 (.int .i64 4)).put 11 (.slice out4_A out4_.length out4_C)).put 12 (.int .i64 (((i4_ : Nat) : Int))))) ?_ (0, none, 0, none, []) _ _ ⟨hC, hB, hl, hs17, hs24, hs31, hs38, h44, hs53, hs55, hs64, hs66, hs75, hs77, (Ow.nil_ _ 28), (Nat.zero_le _), rfl⟩) (fun _ ha => ((((((ha.start.cons ha (t := 5) rfl).cons ha (t := 7) rfl).cons ha (t := 8) rfl).cons ha (t := 10) rfl).cons ha (t := 11) rfl).cons ha (t := 12) rfl))
                    rintro ⟨i4_, out4_A, out4_C, out4_O, out4_⟩ G w N3 IH3 ⟨hC, hB, hl, hs17, hs24, hs31, hs38, h44, hs53, hs55, hs64, hs66, hs75, hs77, hOout4_, hil, hO2⟩
                    show WC _ _ _ _ ((((((Env.nil.put 5 (.pointer (some ⟨b8, 0, none⟩))).put 7 (.int .i64 (((bringI sq 8))))).put 8 (.pointer (some ⟨b11, 0, none⟩))).put 10 (.int .i64 4)).put 11 (.slice out4_A out4_.length out4_C)).put 12 (.int .i64 (((i4_ : Nat) : Int)))) w
                    refine wcSeq ?_
                    refine wcSeq ?_
                    refine wcRegion ?_
                    refine wlVal (opMove rfl) rfl ?_
                    refine wlVal (opMove rfl) rfl ?_
                    refine wlVal (opIndexArr (i := 4) rfl rfl ar55 (by decide)) rfl ?_
                    refine wlVal (opLoadOne (v := (.slice A33 (((((mget ms.list 4).getD []))).length) cap34)) rfl (hB.cell (i := 0) rfl rfl) one54) rfl ?_
                    refine wlVal (opLen rfl isl54) rfl ?_
                    refine wlVal (opLssN rfl rfl) rfl ?_
                    refine wlThen ?_
                    cases h80 : decide (i4_ < ((((mget ms.list 4).getD []))).length)
                    · skip
                      refine wcCondF rfl ?_
                      refine wcExit ?_
                      refine wcOf ?_
                      refine wcSeq ?_
                      refine wcRegion ?_
                      refine wlVal (opMove rfl) rfl ?_
                      refine wlVal (opMove rfl) rfl ?_
                      refine wlCallO (bl := [(b11, 55, [(.slice none 0 0), (.slice A12 (((((mget ms.list 1).getD []))).length) cap13), (.slice A19 (((((mget ms.list 2).getD []))).length) cap20), (.slice A26 (((((mget ms.list 3).getD []))).length) cap27), (.slice A33 (((((mget ms.list 4).getD []))).length) cap34)])]) (r := (Option.toList out4_O ++ [])) hC hB rfl co22 rfl rfl (RetO.lend hC (fun _ _ _ _ ⟨A, cap, e, h⟩ => ⟨A, cap, e, h.any (fun _ _ _ _ h => h)⟩) (fun G_ hg_ hh_ hL_ => of_ret _ _ hh_ b8 l9 _ _ (((raiseM ms (((markI (((bringI sq 8))) ((9 : UInt8)))))).1)) (hL_ (b8, o42) (by simp)) (hL_ (l9, q43) (by simp)) (show MarksO G_ o42 q43 l9 (((raiseM ms (((markI (((bringI sq 8))) ((9 : UInt8)))))).1)) from (h44.mono hg_)) 4)) ?_; rintro v85 G o83 w hk hC hB ⟨A81, cap82, rfl, hO84⟩
                      replace hl := hl.mono hk.gle; replace hs17 := hs17.mono hk.gle; replace hs24 := hs24.mono hk.gle; replace hs31 := hs31.mono hk.gle; replace hs38 := hs38.mono hk.gle; replace h44 := h44.mono hk.gle; replace hs53 := hs53.mono hk.gle; replace hs55 := hs55.mono hk.gle; replace hs64 := hs64.mono hk.gle; replace hs66 := hs66.mono hk.gle; replace hs75 := hs75.mono hk.gle; replace hs77 := hs77.mono hk.gle; replace hOout4_ := hOout4_.mono hk.gle
                      refine wlVal (opMove rfl) rfl ?_
                      obtain ⟨G, hg87, hC, hB, hs86⟩ := Ow.freeze' (bl := [(b11, 55, [(.slice none 0 0), (.slice A12 (((((mget ms.list 1).getD []))).length) cap13), (.slice A19 (((((mget ms.list 2).getD []))).length) cap20), (.slice A26 (((((mget ms.list 3).getD []))).length) cap27), (.slice A33 (((((mget ms.list 4).getD []))).length) cap34)])]) (r := (Option.toList out4_O ++ [])) hO84 hC (Nat.le_refl _) hB (by rw [rs_of hJ]; exact Nat.le_trans (List.length_filter_le _ _) (Nat.le_trans (good_len hJms _) (by decide)))
                      replace hl := hl.mono hg87; replace hs17 := hs17.mono hg87; replace hs24 := hs24.mono hg87; replace hs31 := hs31.mono hg87; replace hs38 := hs38.mono hg87; replace h44 := h44.mono hg87; replace hs53 := hs53.mono hg87; replace hs55 := hs55.mono hg87; replace hs64 := hs64.mono hg87; replace hs66 := hs66.mono hg87; replace hs75 := hs75.mono hg87; replace hs77 := hs77.mono hg87; replace hOout4_ := hOout4_.mono hg87
                      replace hB : Bxs G w w0.heap.size ([(b11, 55, [(.slice none 0 0), (.slice A12 (((((mget ms.list 1).getD []))).length) cap13), (.slice A19 (((((mget ms.list 2).getD []))).length) cap20), (.slice A26 (((((mget ms.list 3).getD []))).length) cap27), (.slice A33 (((((mget ms.list 4).getD []))).length) cap34)])] ++ (Option.toList out4_O ++ [])) ⟨[], [(b8, o42), (l9, q43)]⟩ := hB
                      obtain ⟨G, hg89, hC, hB, hs88⟩ := Ow.freeze' (bl := [(b11, 55, [(.slice none 0 0), (.slice A12 (((((mget ms.list 1).getD []))).length) cap13), (.slice A19 (((((mget ms.list 2).getD []))).length) cap20), (.slice A26 (((((mget ms.list 3).getD []))).length) cap27), (.slice A33 (((((mget ms.list 4).getD []))).length) cap34)])]) (r := []) hOout4_ hC (Nat.le_refl _) hB (by unfold maxL; have q := rw_len (good_len hJms _) hO2; omega)
                      replace hl := hl.mono hg89; replace hs17 := hs17.mono hg89; replace hs24 := hs24.mono hg89; replace hs31 := hs31.mono hg89; replace hs38 := hs38.mono hg89; replace h44 := h44.mono hg89; replace hs53 := hs53.mono hg89; replace hs55 := hs55.mono hg89; replace hs64 := hs64.mono hg89; replace hs66 := hs66.mono hg89; replace hs75 := hs75.mono hg89; replace hs77 := hs77.mono hg89; replace hs86 := hs86.mono hg89
                      replace hB : Bxs G w w0.heap.size [(b11, 55, [(.slice none 0 0), (.slice A12 (((((mget ms.list 1).getD []))).length) cap13), (.slice A19 (((((mget ms.list 2).getD []))).length) cap20), (.slice A26 (((((mget ms.list 3).getD []))).length) cap27), (.slice A33 (((((mget ms.list 4).getD []))).length) cap34)])] ⟨[], [(b8, o42), (l9, q43)]⟩ := hB
                      refine wlCallS hC hB rfl co24 rfl rfl (rsame_ret _ _ hC.holds _ ((((mget (((raiseM ms (((markI (((bringI sq 8))) ((9 : UInt8)))))).1)).list 4).getD []))) hs86 _ out4_ hs88) ?_; intro w hk hC hB
                      refine wlVal (opNot rfl) rfl ?_
                      refine wlThen ?_
                      cases h90 : (decide (((((mget (((raiseM ms (((markI (((bringI sq 8))) ((9 : UInt8)))))).1)).list 4).getD []))) = out4_))
                      · skip
                        exact absurd (rw_end hJ hO2 h80) (of_decide_eq_false h90)
                      · skip
                        refine wcCondF rfl ?_
                        refine wcSkip ?_
                        refine wcOf ?_
                        refine wcRegion ?_
                        refine wlVal (opMove rfl) rfl ?_
                        refine wlVal (OpVal.cast (v' := .int .i64 5) (opAdd rfl rfl) (congrArg (Value.int .i64) (by decide))) rfl ?_
                        refine wlVal (opAssign rfl) rfl ?_
                        refine wlRound ?_
                        refine wrSucc ?_
                        refine wcSeq ?_
                        refine wcSeq ?_
                        refine wcRegion ?_
                        refine wlVal (opMove rfl) rfl ?_
                        refine wlVal (opLss rfl rfl) rfl ?_
                        refine wlThen ?_
                        refine wcCondF rfl ?_
                        refine wcExit ?_
                        refine wcOf ?_
                        refine wcSeq ?_
                        refine wcRegion ?_
                        refine wlVal (opMove rfl) rfl ?_
                        refine wlCallS hC hB rfl co20 rfl rfl (RetS.lend hC (fun G_ hg_ hh_ hL_ => stable_ret _ _ hh_ b8 l9 _ _ (((raiseM ms (((markI (((bringI sq 8))) ((9 : UInt8)))))).1)) (hL_ (b8, o42) (by simp)) (hL_ (l9, q43) (by simp)) (show MarksO G_ o42 q43 l9 (((raiseM ms (((markI (((bringI sq 8))) ((9 : UInt8)))))).1)) from (h44.mono hg_)))) ?_; intro w hk hC hB
                        refine wlVal (opMove rfl) rfl ?_
                        refine wlVal (opExtract rfl rfl) rfl ?_
                        refine wlVal (opExtract rfl rfl) rfl ?_
                        refine wlAlloc hC hB zero28 rfl ?_; intro b91 w hk hC hB
                        refine wlStore 0 (vs := (((gR (lists (((raiseM ms (((markI (((bringI sq 8))) ((9 : UInt8)))))).1))) (most (((raiseM ms (((markI (((bringI sq 8))) ((9 : UInt8)))))).1)).crew)).1)).cells) (cs := ((.int .i64 0) :: (Dig.zero.cells ++ []))) (cs' := (((gR (lists (((raiseM ms (((markI (((bringI sq 8))) ((9 : UInt8)))))).1))) (most (((raiseM ms (((markI (((bringI sq 8))) ((9 : UInt8)))))).1)).crew)).1)).cells) hC hB rfl rfl rfl sz28 rfl (by simp [Mark.cells, Do.cells, Word.cells]) (by simp [Mark.cells, Do.cells, Word.cells, Value.oneCell']) (by simp [Mark.cells, Do.cells, Word.cells]) (by simp [Mark.cells, Do.cells, Word.cells]) rfl ?_; intro w hC hB
                        refine wlVal (opAssign rfl) rfl ?_
                        refine wlThen ?_
                        refine wcSeq ?_
                        refine wcRegion ?_
                        refine wlVal (opMove rfl) rfl ?_
                        refine wlVal (opNot rfl) rfl ?_
                        refine wlVal (opMove rfl) rfl ?_
                        cases h92 : ((gR (lists (((raiseM ms (((markI (((bringI sq 8))) ((9 : UInt8)))))).1))) (most (((raiseM ms (((markI (((bringI sq 8))) ((9 : UInt8)))))).1)).crew)).2)
                        · skip
                          refine wlOff rfl rfl rfl rfl ?_
                          refine wlOff rfl rfl rfl rfl ?_
                          refine wlOff rfl rfl rfl rfl ?_
                          refine wlOff rfl rfl rfl rfl ?_
                          refine wlVal (opPickT rfl rfl) rfl ?_
                          refine wlVal (opMove rfl) rfl ?_
                          refine wlOn rfl rfl ?_
                          refine wlVal (opMove rfl) rfl ?_
                          refine wlOn rfl rfl ?_
                          refine wlVal (opMove rfl) rfl ?_
                          refine wlOn rfl rfl ?_
                          refine wlCallS hC hB rfl co19 rfl rfl (mark_ret _ _ hC.holds (((bringI sq 8))) ((9 : UInt8))) ?_; intro w hk hC hB
                          refine wlOn rfl rfl ?_
                          refine wlCallM (A := []) (O := [(b8, o42), (l9, q43)]) (B := []) hC hB rfl co12 rfl rfl (vote_ret _ _ hC.holds b8 l9 _ _ (((raiseM ms (((markI (((bringI sq 8))) ((9 : UInt8)))))).1)) ⟨hC.heldAt 0 rfl, hC.heldG 0 rfl⟩ ⟨hC.heldAt 1 rfl, hC.heldG 1 rfl⟩ (by have e_ := hC.hnd; simp at e_; omega) h44 1 (((markI (((bringI sq 8))) ((9 : UInt8)))))) ?_; rintro v93 G O94 w hg hC hB ⟨o95, q96, rfl, h97, rfl⟩
                          replace hl := hl.mono hg; replace hs17 := hs17.mono hg; replace hs24 := hs24.mono hg; replace hs31 := hs31.mono hg; replace hs38 := hs38.mono hg; replace hs53 := hs53.mono hg; replace hs55 := hs55.mono hg; replace hs64 := hs64.mono hg; replace hs66 := hs66.mono hg; replace hs75 := hs75.mono hg; replace hs77 := hs77.mono hg; replace hs86 := hs86.mono hg; replace hs88 := hs88.mono hg
                          replace hC : Cx w0 G0 G w ⟨[], [(b8, o95), (l9, q96)]⟩ := hC
                          replace hB : Bxs G w w0.heap.size [(b91, 28, (((gR (lists (((raiseM ms (((markI (((bringI sq 8))) ((9 : UInt8)))))).1))) (most (((raiseM ms (((markI (((bringI sq 8))) ((9 : UInt8)))))).1)).crew)).1)).cells), (b11, 55, [(.slice none 0 0), (.slice A12 (((((mget ms.list 1).getD []))).length) cap13), (.slice A19 (((((mget ms.list 2).getD []))).length) cap20), (.slice A26 (((((mget ms.list 3).getD []))).length) cap27), (.slice A33 (((((mget ms.list 4).getD []))).length) cap34)])] ⟨[], [(b8, o95), (l9, q96)]⟩ := hB
                          refine wlOn rfl rfl ?_
                          refine wlVal (opEql rfl rfl) rfl ?_
                          refine wlVal (opPickT rfl rfl) rfl ?_
                          refine wlVal (opMove rfl) rfl ?_
                          cases h98 : (((voteM (((raiseM ms (((markI (((bringI sq 8))) ((9 : UInt8)))))).1)) 1 (((markI (((bringI sq 8))) ((9 : UInt8)))))).2)) == 9
                          · skip
                            exact absurd h98 (by rw [rs_vote hJ]; simp)
                          · skip
                            refine wlOn rfl rfl ?_
                            refine wlCallS hC hB rfl co17 rfl rfl (awake_ret _ _ hC.holds ) ?_; intro w hk hC hB
                            refine wlVal (opPickT rfl rfl) rfl ?_
                            refine wlVal (opAssign rfl) rfl ?_
                            refine wlThen ?_
                            refine wcRet ?_
                            exact fun ac_ ha => hQ _ _ _ (results1 ha rfl rfl) ha.df (endS hC hw rfl)
                        · skip
                          refine wlOn rfl rfl ?_
                          refine wlVal (opFieldAddr rfl fo28_0) rfl ?_
                          refine wlOn rfl rfl ?_
                          refine wlVal (opLoadOne (v := (.int .i64 (((gR (lists (((raiseM ms (((markI (((bringI sq 8))) ((9 : UInt8)))))).1))) (most (((raiseM ms (((markI (((bringI sq 8))) ((9 : UInt8)))))).1)).crew)).1).seq))) rfl (hB.cell (i := 0) rfl (by simp [Mark.cells, Do.cells, Word.cells])) one3) rfl ?_
                          refine wlOn rfl rfl ?_
                          refine wlVal (opMove rfl) rfl ?_
                          refine wlOn rfl rfl ?_
                          refine wlVal (opGtr rfl rfl) rfl ?_
                          refine wlVal (opPickF rfl rfl) rfl ?_
                          refine wlVal (opMove rfl) rfl ?_
                          cases h99 : decide (((bringI sq 8)) < ((gR (lists (((raiseM ms (((markI (((bringI sq 8))) ((9 : UInt8)))))).1))) (most (((raiseM ms (((markI (((bringI sq 8))) ((9 : UInt8)))))).1)).crew)).1).seq)
                          · skip
                            exact absurd (rs_stable hJ sq _ 9 h92) (of_decide_eq_false h99)
                          · skip
                            refine wlOn rfl rfl ?_
                            refine wlVal (opMove rfl) rfl ?_
                            refine wlOn rfl rfl ?_
                            refine wlVal (opMove rfl) rfl ?_
                            refine wlOn rfl rfl ?_
                            refine wlCallS hC hB rfl co19 rfl rfl (mark_ret _ _ hC.holds (((bringI sq 8))) ((9 : UInt8))) ?_; intro w hk hC hB
                            refine wlOn rfl rfl ?_
                            refine wlCallM (A := []) (O := [(b8, o42), (l9, q43)]) (B := []) hC hB rfl co12 rfl rfl (vote_ret _ _ hC.holds b8 l9 _ _ (((raiseM ms (((markI (((bringI sq 8))) ((9 : UInt8)))))).1)) ⟨hC.heldAt 0 rfl, hC.heldG 0 rfl⟩ ⟨hC.heldAt 1 rfl, hC.heldG 1 rfl⟩ (by have e_ := hC.hnd; simp at e_; omega) h44 1 (((markI (((bringI sq 8))) ((9 : UInt8)))))) ?_; rintro v100 G O101 w hg hC hB ⟨o102, q103, rfl, h104, rfl⟩
                            replace hl := hl.mono hg; replace hs17 := hs17.mono hg; replace hs24 := hs24.mono hg; replace hs31 := hs31.mono hg; replace hs38 := hs38.mono hg; replace hs53 := hs53.mono hg; replace hs55 := hs55.mono hg; replace hs64 := hs64.mono hg; replace hs66 := hs66.mono hg; replace hs75 := hs75.mono hg; replace hs77 := hs77.mono hg; replace hs86 := hs86.mono hg; replace hs88 := hs88.mono hg
                            replace hC : Cx w0 G0 G w ⟨[], [(b8, o102), (l9, q103)]⟩ := hC
                            replace hB : Bxs G w w0.heap.size [(b91, 28, (((gR (lists (((raiseM ms (((markI (((bringI sq 8))) ((9 : UInt8)))))).1))) (most (((raiseM ms (((markI (((bringI sq 8))) ((9 : UInt8)))))).1)).crew)).1)).cells), (b11, 55, [(.slice none 0 0), (.slice A12 (((((mget ms.list 1).getD []))).length) cap13), (.slice A19 (((((mget ms.list 2).getD []))).length) cap20), (.slice A26 (((((mget ms.list 3).getD []))).length) cap27), (.slice A33 (((((mget ms.list 4).getD []))).length) cap34)])] ⟨[], [(b8, o102), (l9, q103)]⟩ := hB
                            refine wlOn rfl rfl ?_
                            refine wlVal (opEql rfl rfl) rfl ?_
                            refine wlVal (opPickT rfl rfl) rfl ?_
                            refine wlVal (opMove rfl) rfl ?_
                            cases h105 : (((voteM (((raiseM ms (((markI (((bringI sq 8))) ((9 : UInt8)))))).1)) 1 (((markI (((bringI sq 8))) ((9 : UInt8)))))).2)) == 9
                            · skip
                              exact absurd h105 (by rw [rs_vote hJ]; simp)
                            · skip
                              refine wlOn rfl rfl ?_
                              refine wlCallS hC hB rfl co17 rfl rfl (awake_ret _ _ hC.holds ) ?_; intro w hk hC hB
                              refine wlVal (opPickT rfl rfl) rfl ?_
                              refine wlVal (opAssign rfl) rfl ?_
                              refine wlThen ?_
                              refine wcRet ?_
                              exact fun ac_ ha => hQ _ _ _ (results1 ha rfl rfl) ha.df (endS hC hw rfl)
                    · skip
                      refine wcCondT rfl ?_
                      refine wcSkip ?_
                      refine wcOf ?_
                      refine wcSeq ?_
                      refine wcBlock ?_
                      refine wcSeq ?_
                      refine wcRegion ?_
                      refine wlVal (opMove rfl) rfl ?_
                      refine wlVal (opIndexArr (i := 4) rfl rfl ar55 (by decide)) rfl ?_
                      refine wlVal (opLoadOne (v := (.slice A33 (((((mget ms.list 4).getD []))).length) cap34)) rfl (hB.cell (i := 0) rfl rfl) one54) rfl ?_
                      refine wlVal (opMove rfl) rfl ?_
                      obtain ⟨x106, hx107⟩ : ∃ y_, ((((mget ms.list 4).getD [])))[i4_]? = some y_ := ⟨_, List.getElem?_eq_getElem (of_decide_eq_true h80)⟩
                      obtain ⟨b108, o109, row110, hA113, hr111, hi112⟩ := hs38.elem hx107; subst hA113
                      obtain rfl := hi112
                      refine wlVal (opIndexAddr rfl rfl slo54 (of_decide_eq_true h80)) rfl ?_
                      refine wlVal (opFieldAddr rfl fo28_0) rfl ?_
                      refine wlVal (opLoadOne (v := (.int .i64 x106.seq)) rfl (RowG.cell0 hC.holds hr111 (by simp [Mark.cells, Do.cells, Word.cells])) one3) rfl ?_
                      refine wlVal (opMove rfl) rfl ?_
                      refine wlVal (opGtr rfl rfl) rfl ?_
                      refine wlThen ?_
                      cases h114 : decide (((bringI sq 8)) < x106.seq)
                      · skip
                        refine wcCondF rfl ?_
                        refine wcSkip ?_
                        refine wcOf ?_
                        refine wcRegion ?_
                        refine wlVal (opMove rfl) rfl ?_
                        refine wlVal (opIncr rfl rfl (by have q := good_len hJms 4; have q2 := of_decide_eq_true h80; omega)) rfl ?_
                        refine wlVal (opAssign rfl) rfl ?_
                        refine wlRound ?_
                        exact (IH3 (i4_ + 1, out4_A, out4_C, out4_O, out4_) _ _ ⟨hC, hB, hl, hs17, hs24, hs31, hs38, h44, hs53, hs55, hs64, hs66, hs75, hs77, hOout4_, (of_decide_eq_true h80), (rw_stepF hO2 hx107 h114)⟩ (by have q := of_decide_eq_true h80; show _ - (i4_ + 1) < _ - i4_; omega)).sub (fun _ ha => ((((((ha.start.cons ha (t := 5) rfl).cons ha (t := 7) rfl).cons ha (t := 8) rfl).cons ha (t := 10) rfl).cons ha (t := 11) rfl).cons ha (t := 12) rfl))
                      · skip
                        refine wcCondT rfl ?_
                        refine wcRegion ?_
                        refine wlVal (opMove rfl) rfl ?_
                        refine wlVal (opMove rfl) rfl ?_
                        refine wlVal (opIndexArr (i := 4) rfl rfl ar55 (by decide)) rfl ?_
                        refine wlVal (opLoadOne (v := (.slice (some ⟨b108, o109, none⟩) (((((mget ms.list 4).getD []))).length) cap34)) rfl (hB.cell (i := 0) rfl rfl) one54) rfl ?_
                        refine wlVal (opMove rfl) rfl ?_
                        refine wlVal (opIndexAddr rfl rfl slo54 (of_decide_eq_true h80)) rfl ?_
                        refine wlVal (opLoadRow (cs := x106.cells) rfl (RowG.range hC.holds hr111) row28 (by simp [Mark.cells, Do.cells, Word.cells])) rfl ?_
                        refine wlBuildSlice (α := Mark) (ps := [(0, .tmp 99)]) (xs := [x106]) (rows := [x106.cells]) elo54 rfl rfl hC hB rfl rfl rfl ⟨rfl, trivial⟩ rfl ?_; intro b115 G w hk hC hB hs116
                        replace hl := hl.mono hk.gle; replace hs17 := hs17.mono hk.gle; replace hs24 := hs24.mono hk.gle; replace hs31 := hs31.mono hk.gle; replace hs38 := hs38.mono hk.gle; replace h44 := h44.mono hk.gle; replace hs53 := hs53.mono hk.gle; replace hs55 := hs55.mono hk.gle; replace hs64 := hs64.mono hk.gle; replace hs66 := hs66.mono hk.gle; replace hs75 := hs75.mono hk.gle; replace hs77 := hs77.mono hk.gle; replace hOout4_ := hOout4_.mono hk.gle; replace hr111 := hr111.mono hk.gle
                        refine wlAppend (α := Mark) (bl := [(b11, 55, [(.slice none 0 0), (.slice A12 (((((mget ms.list 1).getD []))).length) cap13), (.slice A19 (((((mget ms.list 2).getD []))).length) cap20), (.slice A26 (((((mget ms.list 3).getD []))).length) cap27), (.slice (some ⟨b108, o109, none⟩) (((((mget ms.list 4).getD []))).length) cap34)])]) (o := out4_O) (r := []) elo54 hC hB rfl rfl hOout4_ hs116 (by have q := rw_len (good_len hJms _) hO2; simp only [List.length_cons, List.length_nil]; omega) rfl rfl ?_; intro A117 cap118 o119 w hC hB hO120
                        refine wlVal (opAssign rfl) rfl ?_
                        refine wlNil ?_
                        refine wcOf ?_
                        refine wcRegion ?_
                        refine wlVal (opMove rfl) rfl ?_
                        refine wlVal (opIncr rfl rfl (by have q := good_len hJms 4; have q2 := of_decide_eq_true h80; omega)) rfl ?_
                        refine wlVal (opAssign rfl) rfl ?_
                        refine wlRound ?_
                        exact (IH3 (i4_ + 1, A117, cap118, o119, (out4_ ++ [x106])) _ _ ⟨hC, hB, hl, hs17, hs24, hs31, hs38, h44, hs53, hs55, hs64, hs66, hs75, hs77, hO120, (of_decide_eq_true h80), (rw_stepT hO2 hx107 h114)⟩ (by have q := of_decide_eq_true h80; show _ - (i4_ + 1) < _ - i4_; omega)).sub (fun _ ha => ((((((ha.start.cons ha (t := 5) rfl).cons ha (t := 7) rfl).cons ha (t := 8) rfl).cons ha (t := 10) rfl).cons ha (t := 11) rfl).cons ha (t := 12) rfl))
                · skip
                  refine wcCondT rfl ?_
                  refine wcSkip ?_
                  refine wcOf ?_
                  refine wcSeq ?_
                  refine wcBlock ?_
                  refine wcSeq ?_
                  refine wcRegion ?_
                  refine wlVal (opMove rfl) rfl ?_
                  refine wlVal (opIndexArr (i := 3) rfl rfl ar55 (by decide)) rfl ?_
                  refine wlVal (opLoadOne (v := (.slice A26 (((((mget ms.list 3).getD []))).length) cap27)) rfl (hB.cell (i := 0) rfl rfl) one54) rfl ?_
                  refine wlVal (opMove rfl) rfl ?_
                  obtain ⟨x121, hx122⟩ : ∃ y_, ((((mget ms.list 3).getD [])))[i3_]? = some y_ := ⟨_, List.getElem?_eq_getElem (of_decide_eq_true h69)⟩
                  obtain ⟨b123, o124, row125, hA128, hr126, hi127⟩ := hs31.elem hx122; subst hA128
                  obtain rfl := hi127
                  refine wlVal (opIndexAddr rfl rfl slo54 (of_decide_eq_true h69)) rfl ?_
                  refine wlVal (opFieldAddr rfl fo28_0) rfl ?_
                  refine wlVal (opLoadOne (v := (.int .i64 x121.seq)) rfl (RowG.cell0 hC.holds hr126 (by simp [Mark.cells, Do.cells, Word.cells])) one3) rfl ?_
                  refine wlVal (opMove rfl) rfl ?_
                  refine wlVal (opGtr rfl rfl) rfl ?_
                  refine wlThen ?_
                  cases h129 : decide (((bringI sq 8)) < x121.seq)
                  · skip
                    refine wcCondF rfl ?_
                    refine wcSkip ?_
                    refine wcOf ?_
                    refine wcRegion ?_
                    refine wlVal (opMove rfl) rfl ?_
                    refine wlVal (opIncr rfl rfl (by have q := good_len hJms 3; have q2 := of_decide_eq_true h69; omega)) rfl ?_
                    refine wlVal (opAssign rfl) rfl ?_
                    refine wlRound ?_
                    exact (IH3 (i3_ + 1, out3_A, out3_C, out3_O, out3_) _ _ ⟨hC, hB, hl, hs17, hs24, hs31, hs38, h44, hs53, hs55, hs64, hs66, hOout3_, (of_decide_eq_true h69), (rw_stepF hO2 hx122 h129)⟩ (by have q := of_decide_eq_true h69; show _ - (i3_ + 1) < _ - i3_; omega)).sub (fun _ ha => ((((((ha.start.cons ha (t := 5) rfl).cons ha (t := 7) rfl).cons ha (t := 8) rfl).cons ha (t := 10) rfl).cons ha (t := 11) rfl).cons ha (t := 12) rfl))
                  · skip
                    refine wcCondT rfl ?_
                    refine wcRegion ?_
                    refine wlVal (opMove rfl) rfl ?_
                    refine wlVal (opMove rfl) rfl ?_
                    refine wlVal (opIndexArr (i := 3) rfl rfl ar55 (by decide)) rfl ?_
                    refine wlVal (opLoadOne (v := (.slice (some ⟨b123, o124, none⟩) (((((mget ms.list 3).getD []))).length) cap27)) rfl (hB.cell (i := 0) rfl rfl) one54) rfl ?_
                    refine wlVal (opMove rfl) rfl ?_
                    refine wlVal (opIndexAddr rfl rfl slo54 (of_decide_eq_true h69)) rfl ?_
                    refine wlVal (opLoadRow (cs := x121.cells) rfl (RowG.range hC.holds hr126) row28 (by simp [Mark.cells, Do.cells, Word.cells])) rfl ?_
                    refine wlBuildSlice (α := Mark) (ps := [(0, .tmp 99)]) (xs := [x121]) (rows := [x121.cells]) elo54 rfl rfl hC hB rfl rfl rfl ⟨rfl, trivial⟩ rfl ?_; intro b130 G w hk hC hB hs131
                    replace hl := hl.mono hk.gle; replace hs17 := hs17.mono hk.gle; replace hs24 := hs24.mono hk.gle; replace hs31 := hs31.mono hk.gle; replace hs38 := hs38.mono hk.gle; replace h44 := h44.mono hk.gle; replace hs53 := hs53.mono hk.gle; replace hs55 := hs55.mono hk.gle; replace hs64 := hs64.mono hk.gle; replace hs66 := hs66.mono hk.gle; replace hOout3_ := hOout3_.mono hk.gle; replace hr126 := hr126.mono hk.gle
                    refine wlAppend (α := Mark) (bl := [(b11, 55, [(.slice none 0 0), (.slice A12 (((((mget ms.list 1).getD []))).length) cap13), (.slice A19 (((((mget ms.list 2).getD []))).length) cap20), (.slice (some ⟨b123, o124, none⟩) (((((mget ms.list 3).getD []))).length) cap27), (.slice A33 (((((mget ms.list 4).getD []))).length) cap34)])]) (o := out3_O) (r := []) elo54 hC hB rfl rfl hOout3_ hs131 (by have q := rw_len (good_len hJms _) hO2; simp only [List.length_cons, List.length_nil]; omega) rfl rfl ?_; intro A132 cap133 o134 w hC hB hO135
                    refine wlVal (opAssign rfl) rfl ?_
                    refine wlNil ?_
                    refine wcOf ?_
                    refine wcRegion ?_
                    refine wlVal (opMove rfl) rfl ?_
                    refine wlVal (opIncr rfl rfl (by have q := good_len hJms 3; have q2 := of_decide_eq_true h69; omega)) rfl ?_
                    refine wlVal (opAssign rfl) rfl ?_
                    refine wlRound ?_
                    exact (IH3 (i3_ + 1, A132, cap133, o134, (out3_ ++ [x121])) _ _ ⟨hC, hB, hl, hs17, hs24, hs31, hs38, h44, hs53, hs55, hs64, hs66, hO135, (of_decide_eq_true h69), (rw_stepT hO2 hx122 h129)⟩ (by have q := of_decide_eq_true h69; show _ - (i3_ + 1) < _ - i3_; omega)).sub (fun _ ha => ((((((ha.start.cons ha (t := 5) rfl).cons ha (t := 7) rfl).cons ha (t := 8) rfl).cons ha (t := 10) rfl).cons ha (t := 11) rfl).cons ha (t := 12) rfl))
            · skip
              refine wcCondT rfl ?_
              refine wcSkip ?_
              refine wcOf ?_
              refine wcSeq ?_
              refine wcBlock ?_
              refine wcSeq ?_
              refine wcRegion ?_
              refine wlVal (opMove rfl) rfl ?_
              refine wlVal (opIndexArr (i := 2) rfl rfl ar55 (by decide)) rfl ?_
              refine wlVal (opLoadOne (v := (.slice A19 (((((mget ms.list 2).getD []))).length) cap20)) rfl (hB.cell (i := 0) rfl rfl) one54) rfl ?_
              refine wlVal (opMove rfl) rfl ?_
              obtain ⟨x136, hx137⟩ : ∃ y_, ((((mget ms.list 2).getD [])))[i2_]? = some y_ := ⟨_, List.getElem?_eq_getElem (of_decide_eq_true h58)⟩
              obtain ⟨b138, o139, row140, hA143, hr141, hi142⟩ := hs24.elem hx137; subst hA143
              obtain rfl := hi142
              refine wlVal (opIndexAddr rfl rfl slo54 (of_decide_eq_true h58)) rfl ?_
              refine wlVal (opFieldAddr rfl fo28_0) rfl ?_
              refine wlVal (opLoadOne (v := (.int .i64 x136.seq)) rfl (RowG.cell0 hC.holds hr141 (by simp [Mark.cells, Do.cells, Word.cells])) one3) rfl ?_
              refine wlVal (opMove rfl) rfl ?_
              refine wlVal (opGtr rfl rfl) rfl ?_
              refine wlThen ?_
              cases h144 : decide (((bringI sq 8)) < x136.seq)
              · skip
                refine wcCondF rfl ?_
                refine wcSkip ?_
                refine wcOf ?_
                refine wcRegion ?_
                refine wlVal (opMove rfl) rfl ?_
                refine wlVal (opIncr rfl rfl (by have q := good_len hJms 2; have q2 := of_decide_eq_true h58; omega)) rfl ?_
                refine wlVal (opAssign rfl) rfl ?_
                refine wlRound ?_
                exact (IH3 (i2_ + 1, out2_A, out2_C, out2_O, out2_) _ _ ⟨hC, hB, hl, hs17, hs24, hs31, hs38, h44, hs53, hs55, hOout2_, (of_decide_eq_true h58), (rw_stepF hO2 hx137 h144)⟩ (by have q := of_decide_eq_true h58; show _ - (i2_ + 1) < _ - i2_; omega)).sub (fun _ ha => ((((((ha.start.cons ha (t := 5) rfl).cons ha (t := 7) rfl).cons ha (t := 8) rfl).cons ha (t := 10) rfl).cons ha (t := 11) rfl).cons ha (t := 12) rfl))
              · skip
                refine wcCondT rfl ?_
                refine wcRegion ?_
                refine wlVal (opMove rfl) rfl ?_
                refine wlVal (opMove rfl) rfl ?_
                refine wlVal (opIndexArr (i := 2) rfl rfl ar55 (by decide)) rfl ?_
                refine wlVal (opLoadOne (v := (.slice (some ⟨b138, o139, none⟩) (((((mget ms.list 2).getD []))).length) cap20)) rfl (hB.cell (i := 0) rfl rfl) one54) rfl ?_
                refine wlVal (opMove rfl) rfl ?_
                refine wlVal (opIndexAddr rfl rfl slo54 (of_decide_eq_true h58)) rfl ?_
                refine wlVal (opLoadRow (cs := x136.cells) rfl (RowG.range hC.holds hr141) row28 (by simp [Mark.cells, Do.cells, Word.cells])) rfl ?_
                refine wlBuildSlice (α := Mark) (ps := [(0, .tmp 99)]) (xs := [x136]) (rows := [x136.cells]) elo54 rfl rfl hC hB rfl rfl rfl ⟨rfl, trivial⟩ rfl ?_; intro b145 G w hk hC hB hs146
                replace hl := hl.mono hk.gle; replace hs17 := hs17.mono hk.gle; replace hs24 := hs24.mono hk.gle; replace hs31 := hs31.mono hk.gle; replace hs38 := hs38.mono hk.gle; replace h44 := h44.mono hk.gle; replace hs53 := hs53.mono hk.gle; replace hs55 := hs55.mono hk.gle; replace hOout2_ := hOout2_.mono hk.gle; replace hr141 := hr141.mono hk.gle
                refine wlAppend (α := Mark) (bl := [(b11, 55, [(.slice none 0 0), (.slice A12 (((((mget ms.list 1).getD []))).length) cap13), (.slice (some ⟨b138, o139, none⟩) (((((mget ms.list 2).getD []))).length) cap20), (.slice A26 (((((mget ms.list 3).getD []))).length) cap27), (.slice A33 (((((mget ms.list 4).getD []))).length) cap34)])]) (o := out2_O) (r := []) elo54 hC hB rfl rfl hOout2_ hs146 (by have q := rw_len (good_len hJms _) hO2; simp only [List.length_cons, List.length_nil]; omega) rfl rfl ?_; intro A147 cap148 o149 w hC hB hO150
                refine wlVal (opAssign rfl) rfl ?_
                refine wlNil ?_
                refine wcOf ?_
                refine wcRegion ?_
                refine wlVal (opMove rfl) rfl ?_
                refine wlVal (opIncr rfl rfl (by have q := good_len hJms 2; have q2 := of_decide_eq_true h58; omega)) rfl ?_
                refine wlVal (opAssign rfl) rfl ?_
                refine wlRound ?_
                exact (IH3 (i2_ + 1, A147, cap148, o149, (out2_ ++ [x136])) _ _ ⟨hC, hB, hl, hs17, hs24, hs31, hs38, h44, hs53, hs55, hO150, (of_decide_eq_true h58), (rw_stepT hO2 hx137 h144)⟩ (by have q := of_decide_eq_true h58; show _ - (i2_ + 1) < _ - i2_; omega)).sub (fun _ ha => ((((((ha.start.cons ha (t := 5) rfl).cons ha (t := 7) rfl).cons ha (t := 8) rfl).cons ha (t := 10) rfl).cons ha (t := 11) rfl).cons ha (t := 12) rfl))
        · skip
          refine wcCondT rfl ?_
          refine wcSkip ?_
          refine wcOf ?_
          refine wcSeq ?_
          refine wcBlock ?_
          refine wcSeq ?_
          refine wcRegion ?_
          refine wlVal (opMove rfl) rfl ?_
          refine wlVal (opIndexArr (i := 1) rfl rfl ar55 (by decide)) rfl ?_
          refine wlVal (opLoadOne (v := (.slice A12 (((((mget ms.list 1).getD []))).length) cap13)) rfl (hB.cell (i := 0) rfl rfl) one54) rfl ?_
          refine wlVal (opMove rfl) rfl ?_
          obtain ⟨x151, hx152⟩ : ∃ y_, ((((mget ms.list 1).getD [])))[i1_]? = some y_ := ⟨_, List.getElem?_eq_getElem (of_decide_eq_true h47)⟩
          obtain ⟨b153, o154, row155, hA158, hr156, hi157⟩ := hs17.elem hx152; subst hA158
          obtain rfl := hi157
          refine wlVal (opIndexAddr rfl rfl slo54 (of_decide_eq_true h47)) rfl ?_
          refine wlVal (opFieldAddr rfl fo28_0) rfl ?_
          refine wlVal (opLoadOne (v := (.int .i64 x151.seq)) rfl (RowG.cell0 hC.holds hr156 (by simp [Mark.cells, Do.cells, Word.cells])) one3) rfl ?_
          refine wlVal (opMove rfl) rfl ?_
          refine wlVal (opGtr rfl rfl) rfl ?_
          refine wlThen ?_
          cases h159 : decide (((bringI sq 8)) < x151.seq)
          · skip
            refine wcCondF rfl ?_
            refine wcSkip ?_
            refine wcOf ?_
            refine wcRegion ?_
            refine wlVal (opMove rfl) rfl ?_
            refine wlVal (opIncr rfl rfl (by have q := good_len hJms 1; have q2 := of_decide_eq_true h47; omega)) rfl ?_
            refine wlVal (opAssign rfl) rfl ?_
            refine wlRound ?_
            exact (IH3 (i1_ + 1, out1_A, out1_C, out1_O, out1_) _ _ ⟨hC, hB, hl, hs17, hs24, hs31, hs38, h44, hOout1_, (of_decide_eq_true h47), (rw_stepF hO2 hx152 h159)⟩ (by have q := of_decide_eq_true h47; show _ - (i1_ + 1) < _ - i1_; omega)).sub (fun _ ha => ((((((ha.start.cons ha (t := 5) rfl).cons ha (t := 7) rfl).cons ha (t := 8) rfl).cons ha (t := 10) rfl).cons ha (t := 11) rfl).cons ha (t := 12) rfl))
          · skip
            refine wcCondT rfl ?_
            refine wcRegion ?_
            refine wlVal (opMove rfl) rfl ?_
            refine wlVal (opMove rfl) rfl ?_
            refine wlVal (opIndexArr (i := 1) rfl rfl ar55 (by decide)) rfl ?_
            refine wlVal (opLoadOne (v := (.slice (some ⟨b153, o154, none⟩) (((((mget ms.list 1).getD []))).length) cap13)) rfl (hB.cell (i := 0) rfl rfl) one54) rfl ?_
            refine wlVal (opMove rfl) rfl ?_
            refine wlVal (opIndexAddr rfl rfl slo54 (of_decide_eq_true h47)) rfl ?_
            refine wlVal (opLoadRow (cs := x151.cells) rfl (RowG.range hC.holds hr156) row28 (by simp [Mark.cells, Do.cells, Word.cells])) rfl ?_
            refine wlBuildSlice (α := Mark) (ps := [(0, .tmp 99)]) (xs := [x151]) (rows := [x151.cells]) elo54 rfl rfl hC hB rfl rfl rfl ⟨rfl, trivial⟩ rfl ?_; intro b160 G w hk hC hB hs161
            replace hl := hl.mono hk.gle; replace hs17 := hs17.mono hk.gle; replace hs24 := hs24.mono hk.gle; replace hs31 := hs31.mono hk.gle; replace hs38 := hs38.mono hk.gle; replace h44 := h44.mono hk.gle; replace hOout1_ := hOout1_.mono hk.gle; replace hr156 := hr156.mono hk.gle
            refine wlAppend (α := Mark) (bl := [(b11, 55, [(.slice none 0 0), (.slice (some ⟨b153, o154, none⟩) (((((mget ms.list 1).getD []))).length) cap13), (.slice A19 (((((mget ms.list 2).getD []))).length) cap20), (.slice A26 (((((mget ms.list 3).getD []))).length) cap27), (.slice A33 (((((mget ms.list 4).getD []))).length) cap34)])]) (o := out1_O) (r := []) elo54 hC hB rfl rfl hOout1_ hs161 (by have q := rw_len (good_len hJms _) hO2; simp only [List.length_cons, List.length_nil]; omega) rfl rfl ?_; intro A162 cap163 o164 w hC hB hO165
            refine wlVal (opAssign rfl) rfl ?_
            refine wlNil ?_
            refine wcOf ?_
            refine wcRegion ?_
            refine wlVal (opMove rfl) rfl ?_
            refine wlVal (opIncr rfl rfl (by have q := good_len hJms 1; have q2 := of_decide_eq_true h47; omega)) rfl ?_
            refine wlVal (opAssign rfl) rfl ?_
            refine wlRound ?_
            exact (IH3 (i1_ + 1, A162, cap163, o164, (out1_ ++ [x151])) _ _ ⟨hC, hB, hl, hs17, hs24, hs31, hs38, h44, hO165, (of_decide_eq_true h47), (rw_stepT hO2 hx152 h159)⟩ (by have q := of_decide_eq_true h47; show _ - (i1_ + 1) < _ - i1_; omega)).sub (fun _ ha => ((((((ha.start.cons ha (t := 5) rfl).cons ha (t := 7) rfl).cons ha (t := 8) rfl).cons ha (t := 10) rfl).cons ha (t := 11) rfl).cons ha (t := 12) rfl))
    · skip
      exact absurd h45 (by rw [rs_raise hJ]; simp)
  · skip
    refine wlOn rfl rfl ?_
    refine wlVal (opMove rfl) rfl ?_
    refine wlOn rfl rfl ?_
    refine wlVal (opLssN (b := 60) rfl rfl) rfl ?_
    refine wlVal (opPickT rfl rfl) rfl ?_
    refine wlThen ?_
    cases h166 : decide (k < 60)
    · skip
      refine wcCondF rfl ?_
      refine wcExit ?_
      refine wcOf ?_
      refine wcSeq ?_
      refine wcRegion ?_
      refine wlVal (opMove rfl) rfl ?_
      refine wlCallS hC hB rfl co11 rfl rfl (bring_ret _ _ hC.holds sq 8) ?_; intro w hk hC hB
      refine wlVal (opAssign rfl) rfl ?_
      refine wlThen ?_
      refine wcSeq ?_
      refine wcRegion ?_
      refine wlAlloc hC hB zero55 rfl ?_; intro b167 w hk hC hB
      refine wlThen ?_
      refine wcSeq ?_
      refine wcSeq ?_
      refine wcRegion ?_
      refine wlVal (opAssign rfl) rfl ?_
      refine wlThen ?_
      refine wcBlock ?_
      refine wcLoop 6 ?_
      refine wrSucc ?_
      refine wcSeq ?_
      refine wcSeq ?_
      refine wcRegion ?_
      refine wlVal (opMove rfl) rfl ?_
      refine wlVal (opLss rfl rfl) rfl ?_
      refine wlThen ?_
      refine wcCondT rfl ?_
      refine wcSkip ?_
      refine wcOf ?_
      refine wcSeq ?_
      refine wcBlock ?_
      refine wcRegion ?_
      refine wlVal (opMove rfl) rfl ?_
      refine wlVal (opMove rfl) rfl ?_
      refine wlVal (opMove rfl) rfl ?_
      refine wlCallO (bl := [(b167, 55, [(.slice none 0 0), (.slice none 0 0), (.slice none 0 0), (.slice none 0 0), (.slice none 0 0)])]) (r := []) hC hB rfl co22 rfl rfl (RetO.lend hC (fun _ _ _ _ ⟨A, cap, e, h⟩ => ⟨A, cap, e, h.any (fun _ _ _ _ h => h)⟩) (fun G_ hg_ hh_ hL_ => of_ret _ _ hh_ b8 l9 _ _ ms (hL_ (b8, om) (by simp)) (hL_ (l9, qm) (by simp)) (show MarksO G_ om qm l9 ms from (hJms.mono hg_)) 1)) ?_; rintro v172 G o170 w hk hC hB ⟨A168, cap169, rfl, hO171⟩
      replace hl := hl.mono hk.gle; replace hJms := hJms.mono hk.gle
      refine wlVal (opIndexArr (i := 1) rfl rfl ar55 (by decide)) rfl ?_
      obtain ⟨G, hg174, hC, hB, hs173⟩ := Ow.freeze' (bl := [(b167, 55, [(.slice none 0 0), (.slice none 0 0), (.slice none 0 0), (.slice none 0 0), (.slice none 0 0)])]) (r := []) hO171 hC (Nat.le_refl _) hB (Nat.le_trans (good_len hJms _) (by decide))
      replace hl := hl.mono hg174; replace hJms := hJms.mono hg174
      replace hB : Bxs G w w0.heap.size [(b167, 55, [(.slice none 0 0), (.slice none 0 0), (.slice none 0 0), (.slice none 0 0), (.slice none 0 0)])] ⟨[], [(b8, om), (l9, qm)]⟩ := hB
      refine wlStore 0 (vs := [(.slice A168 (((((mget ms.list 1).getD []))).length) cap169)]) (cs := [(.slice none 0 0), (.slice none 0 0), (.slice none 0 0), (.slice none 0 0), (.slice none 0 0)]) (cs' := [(.slice none 0 0), (.slice A168 (((((mget ms.list 1).getD []))).length) cap169), (.slice none 0 0), (.slice none 0 0), (.slice none 0 0)]) hC hB rfl rfl rfl sz54 rfl rfl rfl (by simp [Mark.cells, Do.cells, Word.cells]) rfl rfl ?_; intro w hC hB
      refine wlNil ?_
      refine wcOf ?_
      refine wcRegion ?_
      refine wlVal (opMove rfl) rfl ?_
      refine wlVal (OpVal.cast (v' := .int .i64 2) (opAdd rfl rfl) (congrArg (Value.int .i64) (by decide))) rfl ?_
      refine wlVal (opAssign rfl) rfl ?_
      refine wlRound ?_
      refine wrSucc ?_
      refine wcSeq ?_
      refine wcSeq ?_
      refine wcRegion ?_
      refine wlVal (opMove rfl) rfl ?_
      refine wlVal (opLss rfl rfl) rfl ?_
      refine wlThen ?_
      refine wcCondT rfl ?_
      refine wcSkip ?_
      refine wcOf ?_
      refine wcSeq ?_
      refine wcBlock ?_
      refine wcRegion ?_
      refine wlVal (opMove rfl) rfl ?_
      refine wlVal (opMove rfl) rfl ?_
      refine wlVal (opMove rfl) rfl ?_
      refine wlCallO (bl := [(b167, 55, [(.slice none 0 0), (.slice A168 (((((mget ms.list 1).getD []))).length) cap169), (.slice none 0 0), (.slice none 0 0), (.slice none 0 0)])]) (r := []) hC hB rfl co22 rfl rfl (RetO.lend hC (fun _ _ _ _ ⟨A, cap, e, h⟩ => ⟨A, cap, e, h.any (fun _ _ _ _ h => h)⟩) (fun G_ hg_ hh_ hL_ => of_ret _ _ hh_ b8 l9 _ _ ms (hL_ (b8, om) (by simp)) (hL_ (l9, qm) (by simp)) (show MarksO G_ om qm l9 ms from (hJms.mono hg_)) 2)) ?_; rintro v179 G o177 w hk hC hB ⟨A175, cap176, rfl, hO178⟩
      replace hl := hl.mono hk.gle; replace hJms := hJms.mono hk.gle; replace hs173 := hs173.mono hk.gle
      refine wlVal (opIndexArr (i := 2) rfl rfl ar55 (by decide)) rfl ?_
      obtain ⟨G, hg181, hC, hB, hs180⟩ := Ow.freeze' (bl := [(b167, 55, [(.slice none 0 0), (.slice A168 (((((mget ms.list 1).getD []))).length) cap169), (.slice none 0 0), (.slice none 0 0), (.slice none 0 0)])]) (r := []) hO178 hC (Nat.le_refl _) hB (Nat.le_trans (good_len hJms _) (by decide))
      replace hl := hl.mono hg181; replace hJms := hJms.mono hg181; replace hs173 := hs173.mono hg181
      replace hB : Bxs G w w0.heap.size [(b167, 55, [(.slice none 0 0), (.slice A168 (((((mget ms.list 1).getD []))).length) cap169), (.slice none 0 0), (.slice none 0 0), (.slice none 0 0)])] ⟨[], [(b8, om), (l9, qm)]⟩ := hB
      refine wlStore 0 (vs := [(.slice A175 (((((mget ms.list 2).getD []))).length) cap176)]) (cs := [(.slice none 0 0), (.slice A168 (((((mget ms.list 1).getD []))).length) cap169), (.slice none 0 0), (.slice none 0 0), (.slice none 0 0)]) (cs' := [(.slice none 0 0), (.slice A168 (((((mget ms.list 1).getD []))).length) cap169), (.slice A175 (((((mget ms.list 2).getD []))).length) cap176), (.slice none 0 0), (.slice none 0 0)]) hC hB rfl rfl rfl sz54 rfl rfl rfl (by simp [Mark.cells, Do.cells, Word.cells]) rfl rfl ?_; intro w hC hB
      refine wlNil ?_
      refine wcOf ?_
      refine wcRegion ?_
      refine wlVal (opMove rfl) rfl ?_
      refine wlVal (OpVal.cast (v' := .int .i64 3) (opAdd rfl rfl) (congrArg (Value.int .i64) (by decide))) rfl ?_
      refine wlVal (opAssign rfl) rfl ?_
      refine wlRound ?_
      refine wrSucc ?_
      refine wcSeq ?_
      refine wcSeq ?_
      refine wcRegion ?_
      refine wlVal (opMove rfl) rfl ?_
      refine wlVal (opLss rfl rfl) rfl ?_
      refine wlThen ?_
      refine wcCondT rfl ?_
      refine wcSkip ?_
      refine wcOf ?_
      refine wcSeq ?_
      refine wcBlock ?_
      refine wcRegion ?_
      refine wlVal (opMove rfl) rfl ?_
      refine wlVal (opMove rfl) rfl ?_
      refine wlVal (opMove rfl) rfl ?_
      refine wlCallO (bl := [(b167, 55, [(.slice none 0 0), (.slice A168 (((((mget ms.list 1).getD []))).length) cap169), (.slice A175 (((((mget ms.list 2).getD []))).length) cap176), (.slice none 0 0), (.slice none 0 0)])]) (r := []) hC hB rfl co22 rfl rfl (RetO.lend hC (fun _ _ _ _ ⟨A, cap, e, h⟩ => ⟨A, cap, e, h.any (fun _ _ _ _ h => h)⟩) (fun G_ hg_ hh_ hL_ => of_ret _ _ hh_ b8 l9 _ _ ms (hL_ (b8, om) (by simp)) (hL_ (l9, qm) (by simp)) (show MarksO G_ om qm l9 ms from (hJms.mono hg_)) 3)) ?_; rintro v186 G o184 w hk hC hB ⟨A182, cap183, rfl, hO185⟩
      replace hl := hl.mono hk.gle; replace hJms := hJms.mono hk.gle; replace hs173 := hs173.mono hk.gle; replace hs180 := hs180.mono hk.gle
      refine wlVal (opIndexArr (i := 3) rfl rfl ar55 (by decide)) rfl ?_
      obtain ⟨G, hg188, hC, hB, hs187⟩ := Ow.freeze' (bl := [(b167, 55, [(.slice none 0 0), (.slice A168 (((((mget ms.list 1).getD []))).length) cap169), (.slice A175 (((((mget ms.list 2).getD []))).length) cap176), (.slice none 0 0), (.slice none 0 0)])]) (r := []) hO185 hC (Nat.le_refl _) hB (Nat.le_trans (good_len hJms _) (by decide))
      replace hl := hl.mono hg188; replace hJms := hJms.mono hg188; replace hs173 := hs173.mono hg188; replace hs180 := hs180.mono hg188
      replace hB : Bxs G w w0.heap.size [(b167, 55, [(.slice none 0 0), (.slice A168 (((((mget ms.list 1).getD []))).length) cap169), (.slice A175 (((((mget ms.list 2).getD []))).length) cap176), (.slice none 0 0), (.slice none 0 0)])] ⟨[], [(b8, om), (l9, qm)]⟩ := hB
      refine wlStore 0 (vs := [(.slice A182 (((((mget ms.list 3).getD []))).length) cap183)]) (cs := [(.slice none 0 0), (.slice A168 (((((mget ms.list 1).getD []))).length) cap169), (.slice A175 (((((mget ms.list 2).getD []))).length) cap176), (.slice none 0 0), (.slice none 0 0)]) (cs' := [(.slice none 0 0), (.slice A168 (((((mget ms.list 1).getD []))).length) cap169), (.slice A175 (((((mget ms.list 2).getD []))).length) cap176), (.slice A182 (((((mget ms.list 3).getD []))).length) cap183), (.slice none 0 0)]) hC hB rfl rfl rfl sz54 rfl rfl rfl (by simp [Mark.cells, Do.cells, Word.cells]) rfl rfl ?_; intro w hC hB
      refine wlNil ?_
      refine wcOf ?_
      refine wcRegion ?_
      refine wlVal (opMove rfl) rfl ?_
      refine wlVal (OpVal.cast (v' := .int .i64 4) (opAdd rfl rfl) (congrArg (Value.int .i64) (by decide))) rfl ?_
      refine wlVal (opAssign rfl) rfl ?_
      refine wlRound ?_
      refine wrSucc ?_
      refine wcSeq ?_
      refine wcSeq ?_
      refine wcRegion ?_
      refine wlVal (opMove rfl) rfl ?_
      refine wlVal (opLss rfl rfl) rfl ?_
      refine wlThen ?_
      refine wcCondT rfl ?_
      refine wcSkip ?_
      refine wcOf ?_
      refine wcSeq ?_
      refine wcBlock ?_
      refine wcRegion ?_
      refine wlVal (opMove rfl) rfl ?_
      refine wlVal (opMove rfl) rfl ?_
      refine wlVal (opMove rfl) rfl ?_
      refine wlCallO (bl := [(b167, 55, [(.slice none 0 0), (.slice A168 (((((mget ms.list 1).getD []))).length) cap169), (.slice A175 (((((mget ms.list 2).getD []))).length) cap176), (.slice A182 (((((mget ms.list 3).getD []))).length) cap183), (.slice none 0 0)])]) (r := []) hC hB rfl co22 rfl rfl (RetO.lend hC (fun _ _ _ _ ⟨A, cap, e, h⟩ => ⟨A, cap, e, h.any (fun _ _ _ _ h => h)⟩) (fun G_ hg_ hh_ hL_ => of_ret _ _ hh_ b8 l9 _ _ ms (hL_ (b8, om) (by simp)) (hL_ (l9, qm) (by simp)) (show MarksO G_ om qm l9 ms from (hJms.mono hg_)) 4)) ?_; rintro v193 G o191 w hk hC hB ⟨A189, cap190, rfl, hO192⟩
      replace hl := hl.mono hk.gle; replace hJms := hJms.mono hk.gle; replace hs173 := hs173.mono hk.gle; replace hs180 := hs180.mono hk.gle; replace hs187 := hs187.mono hk.gle
      refine wlVal (opIndexArr (i := 4) rfl rfl ar55 (by decide)) rfl ?_
      obtain ⟨G, hg195, hC, hB, hs194⟩ := Ow.freeze' (bl := [(b167, 55, [(.slice none 0 0), (.slice A168 (((((mget ms.list 1).getD []))).length) cap169), (.slice A175 (((((mget ms.list 2).getD []))).length) cap176), (.slice A182 (((((mget ms.list 3).getD []))).length) cap183), (.slice none 0 0)])]) (r := []) hO192 hC (Nat.le_refl _) hB (Nat.le_trans (good_len hJms _) (by decide))
      replace hl := hl.mono hg195; replace hJms := hJms.mono hg195; replace hs173 := hs173.mono hg195; replace hs180 := hs180.mono hg195; replace hs187 := hs187.mono hg195
      replace hB : Bxs G w w0.heap.size [(b167, 55, [(.slice none 0 0), (.slice A168 (((((mget ms.list 1).getD []))).length) cap169), (.slice A175 (((((mget ms.list 2).getD []))).length) cap176), (.slice A182 (((((mget ms.list 3).getD []))).length) cap183), (.slice none 0 0)])] ⟨[], [(b8, om), (l9, qm)]⟩ := hB
      refine wlStore 0 (vs := [(.slice A189 (((((mget ms.list 4).getD []))).length) cap190)]) (cs := [(.slice none 0 0), (.slice A168 (((((mget ms.list 1).getD []))).length) cap169), (.slice A175 (((((mget ms.list 2).getD []))).length) cap176), (.slice A182 (((((mget ms.list 3).getD []))).length) cap183), (.slice none 0 0)]) (cs' := [(.slice none 0 0), (.slice A168 (((((mget ms.list 1).getD []))).length) cap169), (.slice A175 (((((mget ms.list 2).getD []))).length) cap176), (.slice A182 (((((mget ms.list 3).getD []))).length) cap183), (.slice A189 (((((mget ms.list 4).getD []))).length) cap190)]) hC hB rfl rfl rfl sz54 rfl rfl rfl (by simp [Mark.cells, Do.cells, Word.cells]) rfl rfl ?_; intro w hC hB
      refine wlNil ?_
      refine wcOf ?_
      refine wcRegion ?_
      refine wlVal (opMove rfl) rfl ?_
      refine wlVal (OpVal.cast (v' := .int .i64 5) (opAdd rfl rfl) (congrArg (Value.int .i64) (by decide))) rfl ?_
      refine wlVal (opAssign rfl) rfl ?_
      refine wlRound ?_
      refine wrSucc ?_
      refine wcSeq ?_
      refine wcSeq ?_
      refine wcRegion ?_
      refine wlVal (opMove rfl) rfl ?_
      refine wlVal (opLss rfl rfl) rfl ?_
      refine wlThen ?_
      refine wcCondF rfl ?_
      refine wcExit ?_
      refine wcOf ?_
      refine wcSeq ?_
      refine wcSeq ?_
      refine wcRegion ?_
      refine wlVal (opMove rfl) rfl ?_
      refine wlVal (opMove rfl) rfl ?_
      refine wlCallS hC hB rfl co19 rfl rfl (mark_ret _ _ hC.holds (((bringI sq 8))) ((9 : UInt8))) ?_; intro w hk hC hB
      refine wlCallM (A := []) (O := [(b8, om), (l9, qm)]) (B := []) hC hB rfl co14 rfl rfl (raise_ret _ _ hC.holds b8 l9 _ _ ms ⟨hC.heldAt 0 rfl, hC.heldG 0 rfl⟩ ⟨hC.heldAt 1 rfl, hC.heldG 1 rfl⟩ (by have e_ := hC.hnd; simp at e_; omega) hJms (((markI (((bringI sq 8))) ((9 : UInt8)))))) ?_; rintro v196 G O197 w hg hC hB ⟨o198, q199, rfl, h200, rfl⟩
      replace hl := hl.mono hg; replace hs173 := hs173.mono hg; replace hs180 := hs180.mono hg; replace hs187 := hs187.mono hg; replace hs194 := hs194.mono hg
      replace hC : Cx w0 G0 G w ⟨[], [(b8, o198), (l9, q199)]⟩ := hC
      replace hB : Bxs G w w0.heap.size [(b167, 55, [(.slice none 0 0), (.slice A168 (((((mget ms.list 1).getD []))).length) cap169), (.slice A175 (((((mget ms.list 2).getD []))).length) cap176), (.slice A182 (((((mget ms.list 3).getD []))).length) cap183), (.slice A189 (((((mget ms.list 4).getD []))).length) cap190)])] ⟨[], [(b8, o198), (l9, q199)]⟩ := hB
      refine wlVal (opNeq rfl rfl) rfl ?_
      refine wlVal (opMove rfl) rfl ?_
      cases h201 : (((raiseM ms (((markI (((bringI sq 8))) ((9 : UInt8)))))).2)) != 0
      · skip
        refine wlOn rfl rfl ?_
        refine wlVal (opMove rfl) rfl ?_
        refine wlOn rfl rfl ?_
        refine wlCallS hC hB rfl co23 rfl rfl (RetS.lend hC (fun G_ hg_ hh_ hL_ => low_ret _ _ hh_ b8 l9 _ _ (((raiseM ms (((markI (((bringI sq 8))) ((9 : UInt8)))))).1)) (hL_ (b8, o198) (by simp)) (hL_ (l9, q199) (by simp)) (show MarksO G_ o198 q199 l9 (((raiseM ms (((markI (((bringI sq 8))) ((9 : UInt8)))))).1)) from (h200.mono hg_)))) ?_; intro w hk hC hB
        refine wlOn rfl rfl ?_
        refine wlVal (opMove rfl) rfl ?_
        refine wlOn rfl rfl ?_
        refine wlCallS hC hB rfl co19 rfl rfl (mark_ret _ _ hC.holds (((bringI sq 8))) ((9 : UInt8))) ?_; intro w hk hC hB
        refine wlOn rfl rfl ?_
        refine wlVal (opNeRow (eq28 _ (((((raiseM ms (((markI (((bringI sq 8))) ((9 : UInt8)))))).1)).low)) (((markI (((bringI sq 8))) ((9 : UInt8)))))) eg28 rfl rfl) rfl ?_
        refine wlVal (opPickF rfl rfl) rfl ?_
        refine wlThen ?_
        cases h202 : decide (((((raiseM ms (((markI (((bringI sq 8))) ((9 : UInt8)))))).1)).low) = ((markI (((bringI sq 8))) ((9 : UInt8)))))
        · skip
          exact absurd h202 (by rw [rs_raise hJ]; simp)
        · skip
          refine wcCondF rfl ?_
          refine wcSkip ?_
          refine wcOf ?_
          refine wcSeq ?_
          refine wcSeq ?_
          refine wcRegion ?_
          refine wlVal (opAssign rfl) rfl ?_
          refine wlThen ?_
          refine wcBlock ?_
          refine wcLoop 6 ?_
          refine wrSucc ?_
          refine wcSeq ?_
          refine wcSeq ?_
          refine wcRegion ?_
          refine wlVal (opMove rfl) rfl ?_
          refine wlVal (opLss rfl rfl) rfl ?_
          refine wlThen ?_
          refine wcCondT rfl ?_
          refine wcSkip ?_
          refine wcOf ?_
          refine wcSeq ?_
          refine wcBlock ?_
          refine wcSeq ?_
          refine wcRegion ?_
          refine wlVal (opAssign rfl) rfl ?_
          refine wlThen ?_
          refine wcSeq ?_
          refine wcSeq ?_
          refine wcRegion ?_
          refine wlVal (opAssign rfl) rfl ?_
          refine wlThen ?_
          refine wcBlock ?_
          refine WC.sub (wrInd (ι := Nat × (Option Addr) × Nat × (Option Bx) × (List Mark)) (fun i => match i with | (i1_, out1_A, out1_C, out1_O, out1_) => ((mget ms.list 1).getD []).length - i1_) (fun i G w => match i with | (i1_, out1_A, out1_C, out1_O, out1_) => Cx w0 G0 G w ⟨[], [(b8, o198), (l9, q199)]⟩ ∧ Bxs G w w0.heap.size ([(b167, 55, [(.slice none 0 0), (.slice A168 (((((mget ms.list 1).getD []))).length) cap169), (.slice A175 (((((mget ms.list 2).getD []))).length) cap176), (.slice A182 (((((mget ms.list 3).getD []))).length) cap183), (.slice A189 (((((mget ms.list 4).getD []))).length) cap190)])] ++ (Option.toList out1_O ++ [])) ⟨[], [(b8, o198), (l9, q199)]⟩ ∧ Sl G (.slice A1 l.length cap2) l ∧ Sl G (.slice A168 (((((mget ms.list 1).getD []))).length) cap169) ((((mget ms.list 1).getD []))) ∧ Sl G (.slice A175 (((((mget ms.list 2).getD []))).length) cap176) ((((mget ms.list 2).getD []))) ∧ Sl G (.slice A182 (((((mget ms.list 3).getD []))).length) cap183) ((((mget ms.list 3).getD []))) ∧ Sl G (.slice A189 (((((mget ms.list 4).getD []))).length) cap190) ((((mget ms.list 4).getD []))) ∧ MarksO G o198 q199 l9 ((raiseM ms (((markI (((bringI sq 8))) ((9 : UInt8)))))).1) ∧ Ow G out1_O 28 (.slice out1_A out1_.length out1_C) out1_ ∧ i1_ ≤ ((mget ms.list 1).getD []).length ∧ out1_ = (((mget ms.list 1).getD []).take i1_).filter (fun a => decide (bringI sq 8 < a.seq))) (fun i => match i with | (i1_, out1_A, out1_C, out1_O, out1_) => ((((((Env.nil.put 5 (.pointer (some ⟨b8, 0, none⟩))).put 7 (.int .i64 (((bringI sq 8))))).put 8 (.pointer (some ⟨b167, 0, none⟩))).put 10 (.int .i64 1)).put 11 (.slice out1_A out1_.length out1_C)).put 12 (.int .i64 (((i1_ : Nat) : Int))))) ?_ (0, none, 0, none, []) _ _ ⟨hC, hB, hl, hs173, hs180, hs187, hs194, h200, (Ow.nil_ _ 28), (Nat.zero_le _), rfl⟩) (fun _ ha => ((((((ha.start.cons ha (t := 5) rfl).cons ha (t := 7) rfl).cons ha (t := 8) rfl).cons ha (t := 10) rfl).cons ha (t := 11) rfl).cons ha (t := 12) rfl))
          rintro ⟨i1_, out1_A, out1_C, out1_O, out1_⟩ G w N3 IH3 ⟨hC, hB, hl, hs173, hs180, hs187, hs194, h200, hOout1_, hil, hO2⟩
          show WC _ _ _ _ ((((((Env.nil.put 5 (.pointer (some ⟨b8, 0, none⟩))).put 7 (.int .i64 (((bringI sq 8))))).put 8 (.pointer (some ⟨b167, 0, none⟩))).put 10 (.int .i64 1)).put 11 (.slice out1_A out1_.length out1_C)).put 12 (.int .i64 (((i1_ : Nat) : Int)))) w
          refine wcSeq ?_
          refine wcSeq ?_
          refine wcRegion ?_
          refine wlVal (opMove rfl) rfl ?_
          refine wlVal (opMove rfl) rfl ?_
          refine wlVal (opIndexArr (i := 1) rfl rfl ar55 (by decide)) rfl ?_
          refine wlVal (opLoadOne (v := (.slice A168 (((((mget ms.list 1).getD []))).length) cap169)) rfl (hB.cell (i := 0) rfl rfl) one54) rfl ?_
          refine wlVal (opLen rfl isl54) rfl ?_
          refine wlVal (opLssN rfl rfl) rfl ?_
          refine wlThen ?_
          cases h203 : decide (i1_ < ((((mget ms.list 1).getD []))).length)
          · skip
            refine wcCondF rfl ?_
            refine wcExit ?_
            refine wcOf ?_
            refine wcSeq ?_
            refine wcRegion ?_
            refine wlVal (opMove rfl) rfl ?_
            refine wlVal (opMove rfl) rfl ?_
            refine wlCallO (bl := [(b167, 55, [(.slice none 0 0), (.slice A168 (((((mget ms.list 1).getD []))).length) cap169), (.slice A175 (((((mget ms.list 2).getD []))).length) cap176), (.slice A182 (((((mget ms.list 3).getD []))).length) cap183), (.slice A189 (((((mget ms.list 4).getD []))).length) cap190)])]) (r := (Option.toList out1_O ++ [])) hC hB rfl co22 rfl rfl (RetO.lend hC (fun _ _ _ _ ⟨A, cap, e, h⟩ => ⟨A, cap, e, h.any (fun _ _ _ _ h => h)⟩) (fun G_ hg_ hh_ hL_ => of_ret _ _ hh_ b8 l9 _ _ (((raiseM ms (((markI (((bringI sq 8))) ((9 : UInt8)))))).1)) (hL_ (b8, o198) (by simp)) (hL_ (l9, q199) (by simp)) (show MarksO G_ o198 q199 l9 (((raiseM ms (((markI (((bringI sq 8))) ((9 : UInt8)))))).1)) from (h200.mono hg_)) 1)) ?_; rintro v208 G o206 w hk hC hB ⟨A204, cap205, rfl, hO207⟩
            replace hl := hl.mono hk.gle; replace hs173 := hs173.mono hk.gle; replace hs180 := hs180.mono hk.gle; replace hs187 := hs187.mono hk.gle; replace hs194 := hs194.mono hk.gle; replace h200 := h200.mono hk.gle; replace hOout1_ := hOout1_.mono hk.gle
            refine wlVal (opMove rfl) rfl ?_
            obtain ⟨G, hg210, hC, hB, hs209⟩ := Ow.freeze' (bl := [(b167, 55, [(.slice none 0 0), (.slice A168 (((((mget ms.list 1).getD []))).length) cap169), (.slice A175 (((((mget ms.list 2).getD []))).length) cap176), (.slice A182 (((((mget ms.list 3).getD []))).length) cap183), (.slice A189 (((((mget ms.list 4).getD []))).length) cap190)])]) (r := (Option.toList out1_O ++ [])) hO207 hC (Nat.le_refl _) hB (by rw [rs_of hJ]; exact Nat.le_trans (List.length_filter_le _ _) (Nat.le_trans (good_len hJms _) (by decide)))
            replace hl := hl.mono hg210; replace hs173 := hs173.mono hg210; replace hs180 := hs180.mono hg210; replace hs187 := hs187.mono hg210; replace hs194 := hs194.mono hg210; replace h200 := h200.mono hg210; replace hOout1_ := hOout1_.mono hg210
            replace hB : Bxs G w w0.heap.size ([(b167, 55, [(.slice none 0 0), (.slice A168 (((((mget ms.list 1).getD []))).length) cap169), (.slice A175 (((((mget ms.list 2).getD []))).length) cap176), (.slice A182 (((((mget ms.list 3).getD []))).length) cap183), (.slice A189 (((((mget ms.list 4).getD []))).length) cap190)])] ++ (Option.toList out1_O ++ [])) ⟨[], [(b8, o198), (l9, q199)]⟩ := hB
            obtain ⟨G, hg212, hC, hB, hs211⟩ := Ow.freeze' (bl := [(b167, 55, [(.slice none 0 0), (.slice A168 (((((mget ms.list 1).getD []))).length) cap169), (.slice A175 (((((mget ms.list 2).getD []))).length) cap176), (.slice A182 (((((mget ms.list 3).getD []))).length) cap183), (.slice A189 (((((mget ms.list 4).getD []))).length) cap190)])]) (r := []) hOout1_ hC (Nat.le_refl _) hB (by unfold maxL; have q := rw_len (good_len hJms _) hO2; omega)
            replace hl := hl.mono hg212; replace hs173 := hs173.mono hg212; replace hs180 := hs180.mono hg212; replace hs187 := hs187.mono hg212; replace hs194 := hs194.mono hg212; replace h200 := h200.mono hg212; replace hs209 := hs209.mono hg212
            replace hB : Bxs G w w0.heap.size [(b167, 55, [(.slice none 0 0), (.slice A168 (((((mget ms.list 1).getD []))).length) cap169), (.slice A175 (((((mget ms.list 2).getD []))).length) cap176), (.slice A182 (((((mget ms.list 3).getD []))).length) cap183), (.slice A189 (((((mget ms.list 4).getD []))).length) cap190)])] ⟨[], [(b8, o198), (l9, q199)]⟩ := hB
            refine wlCallS hC hB rfl co24 rfl rfl (rsame_ret _ _ hC.holds _ ((((mget (((raiseM ms (((markI (((bringI sq 8))) ((9 : UInt8)))))).1)).list 1).getD []))) hs209 _ out1_ hs211) ?_; intro w hk hC hB
            refine wlVal (opNot rfl) rfl ?_
            refine wlThen ?_
            cases h213 : (decide (((((mget (((raiseM ms (((markI (((bringI sq 8))) ((9 : UInt8)))))).1)).list 1).getD []))) = out1_))
            · skip
              exact absurd (rw_end hJ hO2 h203) (of_decide_eq_false h213)
            · skip
              refine wcCondF rfl ?_
              refine wcSkip ?_
              refine wcOf ?_
              refine wcRegion ?_
              refine wlVal (opMove rfl) rfl ?_
              refine wlVal (OpVal.cast (v' := .int .i64 2) (opAdd rfl rfl) (congrArg (Value.int .i64) (by decide))) rfl ?_
              refine wlVal (opAssign rfl) rfl ?_
              refine wlRound ?_
              refine wrSucc ?_
              refine wcSeq ?_
              refine wcSeq ?_
              refine wcRegion ?_
              refine wlVal (opMove rfl) rfl ?_
              refine wlVal (opLss rfl rfl) rfl ?_
              refine wlThen ?_
              refine wcCondT rfl ?_
              refine wcSkip ?_
              refine wcOf ?_
              refine wcSeq ?_
              refine wcBlock ?_
              refine wcSeq ?_
              refine wcRegion ?_
              refine wlVal (opAssign rfl) rfl ?_
              refine wlThen ?_
              refine wcSeq ?_
              refine wcSeq ?_
              refine wcRegion ?_
              refine wlVal (opAssign rfl) rfl ?_
              refine wlThen ?_
              refine wcBlock ?_
              refine WC.sub (wrInd (ι := Nat × (Option Addr) × Nat × (Option Bx) × (List Mark)) (fun i => match i with | (i2_, out2_A, out2_C, out2_O, out2_) => ((mget ms.list 2).getD []).length - i2_) (fun i G w => match i with | (i2_, out2_A, out2_C, out2_O, out2_) => Cx w0 G0 G w ⟨[], [(b8, o198), (l9, q199)]⟩ ∧ Bxs G w w0.heap.size ([(b167, 55, [(.slice none 0 0), (.slice A168 (((((mget ms.list 1).getD []))).length) cap169), (.slice A175 (((((mget ms.list 2).getD []))).length) cap176), (.slice A182 (((((mget ms.list 3).getD []))).length) cap183), (.slice A189 (((((mget ms.list 4).getD []))).length) cap190)])] ++ (Option.toList out2_O ++ [])) ⟨[], [(b8, o198), (l9, q199)]⟩ ∧ Sl G (.slice A1 l.length cap2) l ∧ Sl G (.slice A168 (((((mget ms.list 1).getD []))).length) cap169) ((((mget ms.list 1).getD []))) ∧ Sl G (.slice A175 (((((mget ms.list 2).getD []))).length) cap176) ((((mget ms.list 2).getD []))) ∧ Sl G (.slice A182 (((((mget ms.list 3).getD []))).length) cap183) ((((mget ms.list 3).getD []))) ∧ Sl G (.slice A189 (((((mget ms.list 4).getD []))).length) cap190) ((((mget ms.list 4).getD []))) ∧ MarksO G o198 q199 l9 ((raiseM ms (((markI (((bringI sq 8))) ((9 : UInt8)))))).1) ∧ Sl G (.slice A204 (((((mget (((raiseM ms (((markI (((bringI sq 8))) ((9 : UInt8)))))).1)).list 1).getD []))).length) cap205) ((((mget (((raiseM ms (((markI (((bringI sq 8))) ((9 : UInt8)))))).1)).list 1).getD []))) ∧ Sl G (.slice out1_A out1_.length out1_C) out1_ ∧ Ow G out2_O 28 (.slice out2_A out2_.length out2_C) out2_ ∧ i2_ ≤ ((mget ms.list 2).getD []).length ∧ out2_ = (((mget ms.list 2).getD []).take i2_).filter (fun a => decide (bringI sq 8 < a.seq))) (fun i => match i with | (i2_, out2_A, out2_C, out2_O, out2_) => ((((((Env.nil.put 5 (.pointer (some ⟨b8, 0, none⟩))).put 7 (.int .i64 (((bringI sq 8))))).put 8 (.pointer (some ⟨b167, 0, none⟩))).put 10 (.int .i64 2)).put 11 (.slice out2_A out2_.length out2_C)).put 12 (.int .i64 (((i2_ : Nat) : Int))))) ?_ (0, none, 0, none, []) _ _ ⟨hC, hB, hl, hs173, hs180, hs187, hs194, h200, hs209, hs211, (Ow.nil_ _ 28), (Nat.zero_le _), rfl⟩) (fun _ ha => ((((((ha.start.cons ha (t := 5) rfl).cons ha (t := 7) rfl).cons ha (t := 8) rfl).cons ha (t := 10) rfl).cons ha (t := 11) rfl).cons ha (t := 12) rfl))
              rintro ⟨i2_, out2_A, out2_C, out2_O, out2_⟩ G w N3 IH3 ⟨hC, hB, hl, hs173, hs180, hs187, hs194, h200, hs209, hs211, hOout2_, hil, hO2⟩
              show WC _ _ _ _ ((((((Env.nil.put 5 (.pointer (some ⟨b8, 0, none⟩))).put 7 (.int .i64 (((bringI sq 8))))).put 8 (.pointer (some ⟨b167, 0, none⟩))).put 10 (.int .i64 2)).put 11 (.slice out2_A out2_.length out2_C)).put 12 (.int .i64 (((i2_ : Nat) : Int)))) w
              refine wcSeq ?_
              refine wcSeq ?_
              refine wcRegion ?_
              refine wlVal (opMove rfl) rfl ?_
              refine wlVal (opMove rfl) rfl ?_
              refine wlVal (opIndexArr (i := 2) rfl rfl ar55 (by decide)) rfl ?_
              refine wlVal (opLoadOne (v := (.slice A175 (((((mget ms.list 2).getD []))).length) cap176)) rfl (hB.cell (i := 0) rfl rfl) one54) rfl ?_
              refine wlVal (opLen rfl isl54) rfl ?_
              refine wlVal (opLssN rfl rfl) rfl ?_
              refine wlThen ?_
              cases h214 : decide (i2_ < ((((mget ms.list 2).getD []))).length)
              · skip
                refine wcCondF rfl ?_
                refine wcExit ?_
                refine wcOf ?_
                refine wcSeq ?_
                refine wcRegion ?_
                refine wlVal (opMove rfl) rfl ?_
                refine wlVal (opMove rfl) rfl ?_
                refine wlCallO (bl := [(b167, 55, [(.slice none 0 0), (.slice A168 (((((mget ms.list 1).getD []))).length) cap169), (.slice A175 (((((mget ms.list 2).getD []))).length) cap176), (.slice A182 (((((mget ms.list 3).getD []))).length) cap183), (.slice A189 (((((mget ms.list 4).getD []))).length) cap190)])]) (r := (Option.toList out2_O ++ [])) hC hB rfl co22 rfl rfl (RetO.lend hC (fun _ _ _ _ ⟨A, cap, e, h⟩ => ⟨A, cap, e, h.any (fun _ _ _ _ h => h)⟩) (fun G_ hg_ hh_ hL_ => of_ret _ _ hh_ b8 l9 _ _ (((raiseM ms (((markI (((bringI sq 8))) ((9 : UInt8)))))).1)) (hL_ (b8, o198) (by simp)) (hL_ (l9, q199) (by simp)) (show MarksO G_ o198 q199 l9 (((raiseM ms (((markI (((bringI sq 8))) ((9 : UInt8)))))).1)) from (h200.mono hg_)) 2)) ?_; rintro v219 G o217 w hk hC hB ⟨A215, cap216, rfl, hO218⟩
                replace hl := hl.mono hk.gle; replace hs173 := hs173.mono hk.gle; replace hs180 := hs180.mono hk.gle; replace hs187 := hs187.mono hk.gle; replace hs194 := hs194.mono hk.gle; replace h200 := h200.mono hk.gle; replace hs209 := hs209.mono hk.gle; replace hs211 := hs211.mono hk.gle; replace hOout2_ := hOout2_.mono hk.gle
                refine wlVal (opMove rfl) rfl ?_
                obtain ⟨G, hg221, hC, hB, hs220⟩ := Ow.freeze' (bl := [(b167, 55, [(.slice none 0 0), (.slice A168 (((((mget ms.list 1).getD []))).length) cap169), (.slice A175 (((((mget ms.list 2).getD []))).length) cap176), (.slice A182 (((((mget ms.list 3).getD []))).length) cap183), (.slice A189 (((((mget ms.list 4).getD []))).length) cap190)])]) (r := (Option.toList out2_O ++ [])) hO218 hC (Nat.le_refl _) hB (by rw [rs_of hJ]; exact Nat.le_trans (List.length_filter_le _ _) (Nat.le_trans (good_len hJms _) (by decide)))
                replace hl := hl.mono hg221; replace hs173 := hs173.mono hg221; replace hs180 := hs180.mono hg221; replace hs187 := hs187.mono hg221; replace hs194 := hs194.mono hg221; replace h200 := h200.mono hg221; replace hs209 := hs209.mono hg221; replace hs211 := hs211.mono hg221; replace hOout2_ := hOout2_.mono hg221
                replace hB : Bxs G w w0.heap.size ([(b167, 55, [(.slice none 0 0), (.slice A168 (((((mget ms.list 1).getD []))).length) cap169), (.slice A175 (((((mget ms.list 2).getD []))).length) cap176), (.slice A182 (((((mget ms.list 3).getD []))).length) cap183), (.slice A189 (((((mget ms.list 4).getD []))).length) cap190)])] ++ (Option.toList out2_O ++ [])) ⟨[], [(b8, o198), (l9, q199)]⟩ := hB
                obtain ⟨G, hg223, hC, hB, hs222⟩ := Ow.freeze' (bl := [(b167, 55, [(.slice none 0 0), (.slice A168 (((((mget ms.list 1).getD []))).length) cap169), (.slice A175 (((((mget ms.list 2).getD []))).length) cap176), (.slice A182 (((((mget ms.list 3).getD []))).length) cap183), (.slice A189 (((((mget ms.list 4).getD []))).length) cap190)])]) (r := []) hOout2_ hC (Nat.le_refl _) hB (by unfold maxL; have q := rw_len (good_len hJms _) hO2; omega)
                replace hl := hl.mono hg223; replace hs173 := hs173.mono hg223; replace hs180 := hs180.mono hg223; replace hs187 := hs187.mono hg223; replace hs194 := hs194.mono hg223; replace h200 := h200.mono hg223; replace hs209 := hs209.mono hg223; replace hs211 := hs211.mono hg223; replace hs220 := hs220.mono hg223
                replace hB : Bxs G w w0.heap.size [(b167, 55, [(.slice none 0 0), (.slice A168 (((((mget ms.list 1).getD []))).length) cap169), (.slice A175 (((((mget ms.list 2).getD []))).length) cap176), (.slice A182 (((((mget ms.list 3).getD []))).length) cap183), (.slice A189 (((((mget ms.list 4).getD []))).length) cap190)])] ⟨[], [(b8, o198), (l9, q199)]⟩ := hB
                refine wlCallS hC hB rfl co24 rfl rfl (rsame_ret _ _ hC.holds _ ((((mget (((raiseM ms (((markI (((bringI sq 8))) ((9 : UInt8)))))).1)).list 2).getD []))) hs220 _ out2_ hs222) ?_; intro w hk hC hB
                refine wlVal (opNot rfl) rfl ?_
                refine wlThen ?_
                cases h224 : (decide (((((mget (((raiseM ms (((markI (((bringI sq 8))) ((9 : UInt8)))))).1)).list 2).getD []))) = out2_))
                · skip
                  exact absurd (rw_end hJ hO2 h214) (of_decide_eq_false h224)
                · skip
                  refine wcCondF rfl ?_
                  refine wcSkip ?_
                  refine wcOf ?_
                  refine wcRegion ?_
                  refine wlVal (opMove rfl) rfl ?_
                  refine wlVal (OpVal.cast (v' := .int .i64 3) (opAdd rfl rfl) (congrArg (Value.int .i64) (by decide))) rfl ?_
                  refine wlVal (opAssign rfl) rfl ?_
                  refine wlRound ?_
                  refine wrSucc ?_
                  refine wcSeq ?_
                  refine wcSeq ?_
                  refine wcRegion ?_
                  refine wlVal (opMove rfl) rfl ?_
                  refine wlVal (opLss rfl rfl) rfl ?_
                  refine wlThen ?_
                  refine wcCondT rfl ?_
                  refine wcSkip ?_
                  refine wcOf ?_
                  refine wcSeq ?_
                  refine wcBlock ?_
                  refine wcSeq ?_
                  refine wcRegion ?_
                  refine wlVal (opAssign rfl) rfl ?_
                  refine wlThen ?_
                  refine wcSeq ?_
                  refine wcSeq ?_
                  refine wcRegion ?_
                  refine wlVal (opAssign rfl) rfl ?_
                  refine wlThen ?_
                  refine wcBlock ?_
                  refine WC.sub (wrInd (ι := Nat × (Option Addr) × Nat × (Option Bx) × (List Mark)) (fun i => match i with | (i3_, out3_A, out3_C, out3_O, out3_) => ((mget ms.list 3).getD []).length - i3_) (fun i G w => match i with | (i3_, out3_A, out3_C, out3_O, out3_) => Cx w0 G0 G w ⟨[], [(b8, o198), (l9, q199)]⟩ ∧ Bxs G w w0.heap.size ([(b167, 55, [(.slice none 0 0), (.slice A168 (((((mget ms.list 1).getD []))).length) cap169), (.slice A175 (((((mget ms.list 2).getD []))).length) cap176), (.slice A182 (((((mget ms.list 3).getD []))).length) cap183), (.slice A189 (((((mget ms.list 4).getD []))).length) cap190)])] ++ (Option.toList out3_O ++ [])) ⟨[], [(b8, o198), (l9, q199)]⟩ ∧ Sl G (.slice A1 l.length cap2) l ∧ Sl G (.slice A168 (((((mget ms.list 1).getD []))).length) cap169) ((((mget ms.list 1).getD []))) ∧ Sl G (.slice A175 (((((mget ms.list 2).getD []))).length) cap176) ((((mget ms.list 2).getD []))) ∧ Sl G (.slice A182 (((((mget ms.list 3).getD []))).length) cap183) ((((mget ms.list 3).getD []))) ∧ Sl G (.slice A189 (((((mget ms.list 4).getD []))).length) cap190) ((((mget ms.list 4).getD []))) ∧ MarksO G o198 q199 l9 ((raiseM ms (((markI (((bringI sq 8))) ((9 : UInt8)))))).1) ∧ Sl G (.slice A204 (((((mget (((raiseM ms (((markI (((bringI sq 8))) ((9 : UInt8)))))).1)).list 1).getD []))).length) cap205) ((((mget (((raiseM ms (((markI (((bringI sq 8))) ((9 : UInt8)))))).1)).list 1).getD []))) ∧ Sl G (.slice out1_A out1_.length out1_C) out1_ ∧ Sl G (.slice A215 (((((mget (((raiseM ms (((markI (((bringI sq 8))) ((9 : UInt8)))))).1)).list 2).getD []))).length) cap216) ((((mget (((raiseM ms (((markI (((bringI sq 8))) ((9 : UInt8)))))).1)).list 2).getD []))) ∧ Sl G (.slice out2_A out2_.length out2_C) out2_ ∧ Ow G out3_O 28 (.slice out3_A out3_.length out3_C) out3_ ∧ i3_ ≤ ((mget ms.list 3).getD []).length ∧ out3_ = (((mget ms.list 3).getD []).take i3_).filter (fun a => decide (bringI sq 8 < a.seq))) (fun i => match i with | (i3_, out3_A, out3_C, out3_O, out3_) => ((((((Env.nil.put 5 (.pointer (some ⟨b8, 0, none⟩))).put 7 (.int .i64 (((bringI sq 8))))).put 8 (.pointer (some ⟨b167, 0, none⟩))).put 10 (.int .i64 3)).put 11 (.slice out3_A out3_.length out3_C)).put 12 (.int .i64 (((i3_ : Nat) : Int))))) ?_ (0, none, 0, none, []) _ _ ⟨hC, hB, hl, hs173, hs180, hs187, hs194, h200, hs209, hs211, hs220, hs222, (Ow.nil_ _ 28), (Nat.zero_le _), rfl⟩) (fun _ ha => ((((((ha.start.cons ha (t := 5) rfl).cons ha (t := 7) rfl).cons ha (t := 8) rfl).cons ha (t := 10) rfl).cons ha (t := 11) rfl).cons ha (t := 12) rfl))
                  rintro ⟨i3_, out3_A, out3_C, out3_O, out3_⟩ G w N3 IH3 ⟨hC, hB, hl, hs173, hs180, hs187, hs194, h200, hs209, hs211, hs220, hs222, hOout3_, hil, hO2⟩
                  show WC _ _ _ _ ((((((Env.nil.put 5 (.pointer (some ⟨b8, 0, none⟩))).put 7 (.int .i64 (((bringI sq 8))))).put 8 (.pointer (some ⟨b167, 0, none⟩))).put 10 (.int .i64 3)).put 11 (.slice out3_A out3_.length out3_C)).put 12 (.int .i64 (((i3_ : Nat) : Int)))) w
                  refine wcSeq ?_
                  refine wcSeq ?_
                  refine wcRegion ?_
                  refine wlVal (opMove rfl) rfl ?_
                  refine wlVal (opMove rfl) rfl ?_
                  refine wlVal (opIndexArr (i := 3) rfl rfl ar55 (by decide)) rfl ?_
                  refine wlVal (opLoadOne (v := (.slice A182 (((((mget ms.list 3).getD []))).length) cap183)) rfl (hB.cell (i := 0) rfl rfl) one54) rfl ?_
                  refine wlVal (opLen rfl isl54) rfl ?_
                  refine wlVal (opLssN rfl rfl) rfl ?_
                  refine wlThen ?_
                  cases h225 : decide (i3_ < ((((mget ms.list 3).getD []))).length)
                  · skip
                    refine wcCondF rfl ?_
                    refine wcExit ?_
                    refine wcOf ?_
                    refine wcSeq ?_
                    refine wcRegion ?_
                    refine wlVal (opMove rfl) rfl ?_
                    refine wlVal (opMove rfl) rfl ?_
                    refine wlCallO (bl := [(b167, 55, [(.slice none 0 0), (.slice A168 (((((mget ms.list 1).getD []))).length) cap169), (.slice A175 (((((mget ms.list 2).getD []))).length) cap176), (.slice A182 (((((mget ms.list 3).getD []))).length) cap183), (.slice A189 (((((mget ms.list 4).getD []))).length) cap190)])]) (r := (Option.toList out3_O ++ [])) hC hB rfl co22 rfl rfl (RetO.lend hC (fun _ _ _ _ ⟨A, cap, e, h⟩ => ⟨A, cap, e, h.any (fun _ _ _ _ h => h)⟩) (fun G_ hg_ hh_ hL_ => of_ret _ _ hh_ b8 l9 _ _ (((raiseM ms (((markI (((bringI sq 8))) ((9 : UInt8)))))).1)) (hL_ (b8, o198) (by simp)) (hL_ (l9, q199) (by simp)) (show MarksO G_ o198 q199 l9 (((raiseM ms (((markI (((bringI sq 8))) ((9 : UInt8)))))).1)) from (h200.mono hg_)) 3)) ?_; rintro v230 G o228 w hk hC hB ⟨A226, cap227, rfl, hO229⟩
                    replace hl := hl.mono hk.gle; replace hs173 := hs173.mono hk.gle; replace hs180 := hs180.mono hk.gle; replace hs187 := hs187.mono hk.gle; replace hs194 := hs194.mono hk.gle; replace h200 := h200.mono hk.gle; replace hs209 := hs209.mono hk.gle; replace hs211 := hs211.mono hk.gle; replace hs220 := hs220.mono hk.gle; replace hs222 := hs222.mono hk.gle; replace hOout3_ := hOout3_.mono hk.gle
                    refine wlVal (opMove rfl) rfl ?_
                    obtain ⟨G, hg232, hC, hB, hs231⟩ := Ow.freeze' (bl := [(b167, 55, [(.slice none 0 0), (.slice A168 (((((mget ms.list 1).getD []))).length) cap169), (.slice A175 (((((mget ms.list 2).getD []))).length) cap176), (.slice A182 (((((mget ms.list 3).getD []))).length) cap183), (.slice A189 (((((mget ms.list 4).getD []))).length) cap190)])]) (r := (Option.toList out3_O ++ [])) hO229 hC (Nat.le_refl _) hB (by rw [rs_of hJ]; exact Nat.le_trans (List.length_filter_le _ _) (Nat.le_trans (good_len hJms _) (by decide)))
                    replace hl := hl.mono hg232; replace hs173 := hs173.mono hg232; replace hs180 := hs180.mono hg232; replace hs187 := hs187.mono hg232; replace hs194 := hs194.mono hg232; replace h200 := h200.mono hg232; replace hs209 := hs209.mono hg232; replace hs211 := hs211.mono hg232; replace hs220 := hs220.mono hg232; replace hs222 := hs222.mono hg232; replace hOout3_ := hOout3_.mono hg232
                    replace hB : Bxs G w w0.heap.size ([(b167, 55, [(.slice none 0 0), (.slice A168 (((((mget ms.list 1).getD []))).length) cap169), (.slice A175 (((((mget ms.list 2).getD []))).length) cap176), (.slice A182 (((((mget ms.list 3).getD []))).length) cap183), (.slice A189 (((((mget ms.list 4).getD []))).length) cap190)])] ++ (Option.toList out3_O ++ [])) ⟨[], [(b8, o198), (l9, q199)]⟩ := hB
                    obtain ⟨G, hg234, hC, hB, hs233⟩ := Ow.freeze' (bl := [(b167, 55, [(.slice none 0 0), (.slice A168 (((((mget ms.list 1).getD []))).length) cap169), (.slice A175 (((((mget ms.list 2).getD []))).length) cap176), (.slice A182 (((((mget ms.list 3).getD []))).length) cap183), (.slice A189 (((((mget ms.list 4).getD []))).length) cap190)])]) (r := []) hOout3_ hC (Nat.le_refl _) hB (by unfold maxL; have q := rw_len (good_len hJms _) hO2; omega)
                    replace hl := hl.mono hg234; replace hs173 := hs173.mono hg234; replace hs180 := hs180.mono hg234; replace hs187 := hs187.mono hg234; replace hs194 := hs194.mono hg234; replace h200 := h200.mono hg234; replace hs209 := hs209.mono hg234; replace hs211 := hs211.mono hg234; replace hs220 := hs220.mono hg234; replace hs222 := hs222.mono hg234; replace hs231 := hs231.mono hg234
                    replace hB : Bxs G w w0.heap.size [(b167, 55, [(.slice none 0 0), (.slice A168 (((((mget ms.list 1).getD []))).length) cap169), (.slice A175 (((((mget ms.list 2).getD []))).length) cap176), (.slice A182 (((((mget ms.list 3).getD []))).length) cap183), (.slice A189 (((((mget ms.list 4).getD []))).length) cap190)])] ⟨[], [(b8, o198), (l9, q199)]⟩ := hB
                    refine wlCallS hC hB rfl co24 rfl rfl (rsame_ret _ _ hC.holds _ ((((mget (((raiseM ms (((markI (((bringI sq 8))) ((9 : UInt8)))))).1)).list 3).getD []))) hs231 _ out3_ hs233) ?_; intro w hk hC hB
                    refine wlVal (opNot rfl) rfl ?_
                    refine wlThen ?_
                    cases h235 : (decide (((((mget (((raiseM ms (((markI (((bringI sq 8))) ((9 : UInt8)))))).1)).list 3).getD []))) = out3_))
                    · skip
                      exact absurd (rw_end hJ hO2 h225) (of_decide_eq_false h235)
                    · skip
                      refine wcCondF rfl ?_
                      refine wcSkip ?_
                      refine wcOf ?_
                      refine wcRegion ?_
                      refine wlVal (opMove rfl) rfl ?_
                      refine wlVal (OpVal.cast (v' := .int .i64 4) (opAdd rfl rfl) (congrArg (Value.int .i64) (by decide))) rfl ?_
                      refine wlVal (opAssign rfl) rfl ?_
                      refine wlRound ?_
                      refine wrSucc ?_
                      refine wcSeq ?_
                      refine wcSeq ?_
                      refine wcRegion ?_
                      refine wlVal (opMove rfl) rfl ?_
                      refine wlVal (opLss rfl rfl) rfl ?_
                      refine wlThen ?_
                      refine wcCondT rfl ?_
                      refine wcSkip ?_
                      refine wcOf ?_
                      refine wcSeq ?_
                      refine wcBlock ?_
                      refine wcSeq ?_
                      refine wcRegion ?_
                      refine wlVal (opAssign rfl) rfl ?_
                      refine wlThen ?_
                      refine wcSeq ?_
                      refine wcSeq ?_
                      refine wcRegion ?_
                      refine wlVal (opAssign rfl) rfl ?_
                      refine wlThen ?_
                      refine wcBlock ?_
                      refine WC.sub (wrInd (ι := Nat × (Option Addr) × Nat × (Option Bx) × (List Mark)) (fun i => match i with | (i4_, out4_A, out4_C, out4_O, out4_) => ((mget ms.list 4).getD []).length - i4_) (fun i G w => match i with | (i4_, out4_A, out4_C, out4_O, out4_) => Cx w0 G0 G w ⟨[], [(b8, o198), (l9, q199)]⟩ ∧ Bxs G w w0.heap.size ([(b167, 55, [(.slice none 0 0), (.slice A168 (((((mget ms.list 1).getD []))).length) cap169), (.slice A175 (((((mget ms.list 2).getD []))).length) cap176), (.slice A182 (((((mget ms.list 3).getD []))).length) cap183), (.slice A189 (((((mget ms.list 4).getD []))).length) cap190)])] ++ (Option.toList out4_O ++ [])) ⟨[], [(b8, o198), (l9, q199)]⟩ ∧ Sl G (.slice A1 l.length cap2) l ∧ Sl G (.slice A168 (((((mget ms.list 1).getD []))).length) cap169) ((((mget ms.list 1).getD []))) ∧ Sl G (.slice A175 (((((mget ms.list 2).getD []))).length) cap176) ((((mget ms.list 2).getD []))) ∧ Sl G (.slice A182 (((((mget ms.list 3).getD []))).length) cap183) ((((mget ms.list 3).getD []))) ∧ Sl G (.slice A189 (((((mget ms.list 4).getD []))).length) cap190) ((((mget ms.list 4).getD []))) ∧ MarksO G o198 q199 l9 ((raiseM ms (((markI (((bringI sq 8))) ((9 : UInt8)))))).1) ∧ Sl G (.slice A204 (((((mget (((raiseM ms (((markI (((bringI sq 8))) ((9 : UInt8)))))).1)).list 1).getD []))).length) cap205) ((((mget (((raiseM ms (((markI (((bringI sq 8))) ((9 : UInt8)))))).1)).list 1).getD []))) ∧ Sl G (.slice out1_A out1_.length out1_C) out1_ ∧ Sl G (.slice A215 (((((mget (((raiseM ms (((markI (((bringI sq 8))) ((9 : UInt8)))))).1)).list 2).getD []))).length) cap216) ((((mget (((raiseM ms (((markI (((bringI sq 8))) ((9 : UInt8)))))).1)).list 2).getD []))) ∧ Sl G (.slice out2_A out2_.length out2_C) out2_ ∧ Sl G (.slice A226 (((((mget (((raiseM ms (((markI (((bringI sq 8))) ((9 : UInt8)))))).1)).list 3).getD []))).length) cap227) ((((mget (((raiseM ms (((markI (((bringI sq 8))) ((9 : UInt8)))))).1)).list 3).getD []))) ∧ Sl G (.slice out3_A out3_.length out3_C) out3_ ∧ Ow G out4_O 28 (.slice out4_A out4_.length out4_C) out4_ ∧ i4_ ≤ ((mget ms.list 4).getD []).length ∧ out4_ = (((mget ms.list 4).getD []).take i4_).filter (fun a => decide (bringI sq 8 < a.seq))) (fun i => match i with | (i4_, out4_A, out4_C, out4_O, out4_) => ((((((Env.nil.put 5 (.pointer (some ⟨b8, 0, none⟩))).put 7 (.int .i64 (((bringI sq 8))))).put 8 (.pointer (some ⟨b167, 0, none⟩))).put 10 (.int .i64 4)).put 11 (.slice out4_A out4_.length out4_C)).put 12 (.int .i64 (((i4_ : Nat) : Int))))) ?_ (0, none, 0, none, []) _ _ ⟨hC, hB, hl, hs173, hs180, hs187, hs194, h200, hs209, hs211, hs220, hs222, hs231, hs233, (Ow.nil_ _ 28), (Nat.zero_le _), rfl⟩) (fun _ ha => ((((((ha.start.cons ha (t := 5) rfl).cons ha (t := 7) rfl).cons ha (t := 8) rfl).cons ha (t := 10) rfl).cons ha (t := 11) rfl).cons ha (t := 12) rfl))
                      rintro ⟨i4_, out4_A, out4_C, out4_O, out4_⟩ G w N3 IH3 ⟨hC, hB, hl, hs173, hs180, hs187, hs194, h200, hs209, hs211, hs220, hs222, hs231, hs233, hOout4_, hil, hO2⟩
                      show WC _ _ _ _ ((((((Env.nil.put 5 (.pointer (some ⟨b8, 0, none⟩))).put 7 (.int .i64 (((bringI sq 8))))).put 8 (.pointer (some ⟨b167, 0, none⟩))).put 10 (.int .i64 4)).put 11 (.slice out4_A out4_.length out4_C)).put 12 (.int .i64 (((i4_ : Nat) : Int)))) w
                      refine wcSeq ?_
                      refine wcSeq ?_
                      refine wcRegion ?_
                      refine wlVal (opMove rfl) rfl ?_
                      refine wlVal (opMove rfl) rfl ?_
                      refine wlVal (opIndexArr (i := 4) rfl rfl ar55 (by decide)) rfl ?_
                      refine wlVal (opLoadOne (v := (.slice A189 (((((mget ms.list 4).getD []))).length) cap190)) rfl (hB.cell (i := 0) rfl rfl) one54) rfl ?_
                      refine wlVal (opLen rfl isl54) rfl ?_
                      refine wlVal (opLssN rfl rfl) rfl ?_
                      refine wlThen ?_
                      cases h236 : decide (i4_ < ((((mget ms.list 4).getD []))).length)
                      · skip
                        refine wcCondF rfl ?_
                        refine wcExit ?_
                        refine wcOf ?_
                        refine wcSeq ?_
                        refine wcRegion ?_
                        refine wlVal (opMove rfl) rfl ?_
                        refine wlVal (opMove rfl) rfl ?_
                        refine wlCallO (bl := [(b167, 55, [(.slice none 0 0), (.slice A168 (((((mget ms.list 1).getD []))).length) cap169), (.slice A175 (((((mget ms.list 2).getD []))).length) cap176), (.slice A182 (((((mget ms.list 3).getD []))).length) cap183), (.slice A189 (((((mget ms.list 4).getD []))).length) cap190)])]) (r := (Option.toList out4_O ++ [])) hC hB rfl co22 rfl rfl (RetO.lend hC (fun _ _ _ _ ⟨A, cap, e, h⟩ => ⟨A, cap, e, h.any (fun _ _ _ _ h => h)⟩) (fun G_ hg_ hh_ hL_ => of_ret _ _ hh_ b8 l9 _ _ (((raiseM ms (((markI (((bringI sq 8))) ((9 : UInt8)))))).1)) (hL_ (b8, o198) (by simp)) (hL_ (l9, q199) (by simp)) (show MarksO G_ o198 q199 l9 (((raiseM ms (((markI (((bringI sq 8))) ((9 : UInt8)))))).1)) from (h200.mono hg_)) 4)) ?_; rintro v241 G o239 w hk hC hB ⟨A237, cap238, rfl, hO240⟩
                        replace hl := hl.mono hk.gle; replace hs173 := hs173.mono hk.gle; replace hs180 := hs180.mono hk.gle; replace hs187 := hs187.mono hk.gle; replace hs194 := hs194.mono hk.gle; replace h200 := h200.mono hk.gle; replace hs209 := hs209.mono hk.gle; replace hs211 := hs211.mono hk.gle; replace hs220 := hs220.mono hk.gle; replace hs222 := hs222.mono hk.gle; replace hs231 := hs231.mono hk.gle; replace hs233 := hs233.mono hk.gle; replace hOout4_ := hOout4_.mono hk.gle
                        refine wlVal (opMove rfl) rfl ?_
                        obtain ⟨G, hg243, hC, hB, hs242⟩ := Ow.freeze' (bl := [(b167, 55, [(.slice none 0 0), (.slice A168 (((((mget ms.list 1).getD []))).length) cap169), (.slice A175 (((((mget ms.list 2).getD []))).length) cap176), (.slice A182 (((((mget ms.list 3).getD []))).length) cap183), (.slice A189 (((((mget ms.list 4).getD []))).length) cap190)])]) (r := (Option.toList out4_O ++ [])) hO240 hC (Nat.le_refl _) hB (by rw [rs_of hJ]; exact Nat.le_trans (List.length_filter_le _ _) (Nat.le_trans (good_len hJms _) (by decide)))
                        replace hl := hl.mono hg243; replace hs173 := hs173.mono hg243; replace hs180 := hs180.mono hg243; replace hs187 := hs187.mono hg243; replace hs194 := hs194.mono hg243; replace h200 := h200.mono hg243; replace hs209 := hs209.mono hg243; replace hs211 := hs211.mono hg243; replace hs220 := hs220.mono hg243; replace hs222 := hs222.mono hg243; replace hs231 := hs231.mono hg243; replace hs233 := hs233.mono hg243; replace hOout4_ := hOout4_.mono hg243
                        replace hB : Bxs G w w0.heap.size ([(b167, 55, [(.slice none 0 0), (.slice A168 (((((mget ms.list 1).getD []))).length) cap169), (.slice A175 (((((mget ms.list 2).getD []))).length) cap176), (.slice A182 (((((mget ms.list 3).getD []))).length) cap183), (.slice A189 (((((mget ms.list 4).getD []))).length) cap190)])] ++ (Option.toList out4_O ++ [])) ⟨[], [(b8, o198), (l9, q199)]⟩ := hB
                        obtain ⟨G, hg245, hC, hB, hs244⟩ := Ow.freeze' (bl := [(b167, 55, [(.slice none 0 0), (.slice A168 (((((mget ms.list 1).getD []))).length) cap169), (.slice A175 (((((mget ms.list 2).getD []))).length) cap176), (.slice A182 (((((mget ms.list 3).getD []))).length) cap183), (.slice A189 (((((mget ms.list 4).getD []))).length) cap190)])]) (r := []) hOout4_ hC (Nat.le_refl _) hB (by unfold maxL; have q := rw_len (good_len hJms _) hO2; omega)
                        replace hl := hl.mono hg245; replace hs173 := hs173.mono hg245; replace hs180 := hs180.mono hg245; replace hs187 := hs187.mono hg245; replace hs194 := hs194.mono hg245; replace h200 := h200.mono hg245; replace hs209 := hs209.mono hg245; replace hs211 := hs211.mono hg245; replace hs220 := hs220.mono hg245; replace hs222 := hs222.mono hg245; replace hs231 := hs231.mono hg245; replace hs233 := hs233.mono hg245; replace hs242 := hs242.mono hg245
                        replace hB : Bxs G w w0.heap.size [(b167, 55, [(.slice none 0 0), (.slice A168 (((((mget ms.list 1).getD []))).length) cap169), (.slice A175 (((((mget ms.list 2).getD []))).length) cap176), (.slice A182 (((((mget ms.list 3).getD []))).length) cap183), (.slice A189 (((((mget ms.list 4).getD []))).length) cap190)])] ⟨[], [(b8, o198), (l9, q199)]⟩ := hB
                        refine wlCallS hC hB rfl co24 rfl rfl (rsame_ret _ _ hC.holds _ ((((mget (((raiseM ms (((markI (((bringI sq 8))) ((9 : UInt8)))))).1)).list 4).getD []))) hs242 _ out4_ hs244) ?_; intro w hk hC hB
                        refine wlVal (opNot rfl) rfl ?_
                        refine wlThen ?_
                        cases h246 : (decide (((((mget (((raiseM ms (((markI (((bringI sq 8))) ((9 : UInt8)))))).1)).list 4).getD []))) = out4_))
                        · skip
                          exact absurd (rw_end hJ hO2 h236) (of_decide_eq_false h246)
                        · skip
                          refine wcCondF rfl ?_
                          refine wcSkip ?_
                          refine wcOf ?_
                          refine wcRegion ?_
                          refine wlVal (opMove rfl) rfl ?_
                          refine wlVal (OpVal.cast (v' := .int .i64 5) (opAdd rfl rfl) (congrArg (Value.int .i64) (by decide))) rfl ?_
                          refine wlVal (opAssign rfl) rfl ?_
                          refine wlRound ?_
                          refine wrSucc ?_
                          refine wcSeq ?_
                          refine wcSeq ?_
                          refine wcRegion ?_
                          refine wlVal (opMove rfl) rfl ?_
                          refine wlVal (opLss rfl rfl) rfl ?_
                          refine wlThen ?_
                          refine wcCondF rfl ?_
                          refine wcExit ?_
                          refine wcOf ?_
                          refine wcSeq ?_
                          refine wcRegion ?_
                          refine wlVal (opMove rfl) rfl ?_
                          refine wlCallS hC hB rfl co20 rfl rfl (RetS.lend hC (fun G_ hg_ hh_ hL_ => stable_ret _ _ hh_ b8 l9 _ _ (((raiseM ms (((markI (((bringI sq 8))) ((9 : UInt8)))))).1)) (hL_ (b8, o198) (by simp)) (hL_ (l9, q199) (by simp)) (show MarksO G_ o198 q199 l9 (((raiseM ms (((markI (((bringI sq 8))) ((9 : UInt8)))))).1)) from (h200.mono hg_)))) ?_; intro w hk hC hB
                          refine wlVal (opMove rfl) rfl ?_
                          refine wlVal (opExtract rfl rfl) rfl ?_
                          refine wlVal (opExtract rfl rfl) rfl ?_
                          refine wlAlloc hC hB zero28 rfl ?_; intro b247 w hk hC hB
                          refine wlStore 0 (vs := (((gR (lists (((raiseM ms (((markI (((bringI sq 8))) ((9 : UInt8)))))).1))) (most (((raiseM ms (((markI (((bringI sq 8))) ((9 : UInt8)))))).1)).crew)).1)).cells) (cs := ((.int .i64 0) :: (Dig.zero.cells ++ []))) (cs' := (((gR (lists (((raiseM ms (((markI (((bringI sq 8))) ((9 : UInt8)))))).1))) (most (((raiseM ms (((markI (((bringI sq 8))) ((9 : UInt8)))))).1)).crew)).1)).cells) hC hB rfl rfl rfl sz28 rfl (by simp [Mark.cells, Do.cells, Word.cells]) (by simp [Mark.cells, Do.cells, Word.cells, Value.oneCell']) (by simp [Mark.cells, Do.cells, Word.cells]) (by simp [Mark.cells, Do.cells, Word.cells]) rfl ?_; intro w hC hB
                          refine wlVal (opAssign rfl) rfl ?_
                          refine wlThen ?_
                          refine wcSeq ?_
                          refine wcRegion ?_
                          refine wlVal (opMove rfl) rfl ?_
                          refine wlVal (opNot rfl) rfl ?_
                          refine wlVal (opMove rfl) rfl ?_
                          cases h248 : ((gR (lists (((raiseM ms (((markI (((bringI sq 8))) ((9 : UInt8)))))).1))) (most (((raiseM ms (((markI (((bringI sq 8))) ((9 : UInt8)))))).1)).crew)).2)
                          · skip
                            refine wlOff rfl rfl rfl rfl ?_
                            refine wlOff rfl rfl rfl rfl ?_
                            refine wlOff rfl rfl rfl rfl ?_
                            refine wlOff rfl rfl rfl rfl ?_
                            refine wlVal (opPickT rfl rfl) rfl ?_
                            refine wlVal (opMove rfl) rfl ?_
                            refine wlOn rfl rfl ?_
                            refine wlVal (opMove rfl) rfl ?_
                            refine wlOn rfl rfl ?_
                            refine wlVal (opMove rfl) rfl ?_
                            refine wlOn rfl rfl ?_
                            refine wlCallS hC hB rfl co19 rfl rfl (mark_ret _ _ hC.holds (((bringI sq 8))) ((9 : UInt8))) ?_; intro w hk hC hB
                            refine wlOn rfl rfl ?_
                            refine wlCallM (A := []) (O := [(b8, o198), (l9, q199)]) (B := []) hC hB rfl co12 rfl rfl (vote_ret _ _ hC.holds b8 l9 _ _ (((raiseM ms (((markI (((bringI sq 8))) ((9 : UInt8)))))).1)) ⟨hC.heldAt 0 rfl, hC.heldG 0 rfl⟩ ⟨hC.heldAt 1 rfl, hC.heldG 1 rfl⟩ (by have e_ := hC.hnd; simp at e_; omega) h200 1 (((markI (((bringI sq 8))) ((9 : UInt8)))))) ?_; rintro v249 G O250 w hg hC hB ⟨o251, q252, rfl, h253, rfl⟩
                            replace hl := hl.mono hg; replace hs173 := hs173.mono hg; replace hs180 := hs180.mono hg; replace hs187 := hs187.mono hg; replace hs194 := hs194.mono hg; replace hs209 := hs209.mono hg; replace hs211 := hs211.mono hg; replace hs220 := hs220.mono hg; replace hs222 := hs222.mono hg; replace hs231 := hs231.mono hg; replace hs233 := hs233.mono hg; replace hs242 := hs242.mono hg; replace hs244 := hs244.mono hg
                            replace hC : Cx w0 G0 G w ⟨[], [(b8, o251), (l9, q252)]⟩ := hC
                            replace hB : Bxs G w w0.heap.size [(b247, 28, (((gR (lists (((raiseM ms (((markI (((bringI sq 8))) ((9 : UInt8)))))).1))) (most (((raiseM ms (((markI (((bringI sq 8))) ((9 : UInt8)))))).1)).crew)).1)).cells), (b167, 55, [(.slice none 0 0), (.slice A168 (((((mget ms.list 1).getD []))).length) cap169), (.slice A175 (((((mget ms.list 2).getD []))).length) cap176), (.slice A182 (((((mget ms.list 3).getD []))).length) cap183), (.slice A189 (((((mget ms.list 4).getD []))).length) cap190)])] ⟨[], [(b8, o251), (l9, q252)]⟩ := hB
                            refine wlOn rfl rfl ?_
                            refine wlVal (opEql rfl rfl) rfl ?_
                            refine wlVal (opPickT rfl rfl) rfl ?_
                            refine wlVal (opMove rfl) rfl ?_
                            cases h254 : (((voteM (((raiseM ms (((markI (((bringI sq 8))) ((9 : UInt8)))))).1)) 1 (((markI (((bringI sq 8))) ((9 : UInt8)))))).2)) == 9
                            · skip
                              exact absurd h254 (by rw [rs_vote hJ]; simp)
                            · skip
                              refine wlOn rfl rfl ?_
                              refine wlCallS hC hB rfl co17 rfl rfl (awake_ret _ _ hC.holds ) ?_; intro w hk hC hB
                              refine wlVal (opPickT rfl rfl) rfl ?_
                              refine wlVal (opAssign rfl) rfl ?_
                              refine wlThen ?_
                              refine wcRet ?_
                              exact fun ac_ ha => hQ _ _ _ (results1 ha rfl rfl) ha.df (endS hC hw rfl)
                          · skip
                            refine wlOn rfl rfl ?_
                            refine wlVal (opFieldAddr rfl fo28_0) rfl ?_
                            refine wlOn rfl rfl ?_
                            refine wlVal (opLoadOne (v := (.int .i64 (((gR (lists (((raiseM ms (((markI (((bringI sq 8))) ((9 : UInt8)))))).1))) (most (((raiseM ms (((markI (((bringI sq 8))) ((9 : UInt8)))))).1)).crew)).1).seq))) rfl (hB.cell (i := 0) rfl (by simp [Mark.cells, Do.cells, Word.cells])) one3) rfl ?_
                            refine wlOn rfl rfl ?_
                            refine wlVal (opMove rfl) rfl ?_
                            refine wlOn rfl rfl ?_
                            refine wlVal (opGtr rfl rfl) rfl ?_
                            refine wlVal (opPickF rfl rfl) rfl ?_
                            refine wlVal (opMove rfl) rfl ?_
                            cases h255 : decide (((bringI sq 8)) < ((gR (lists (((raiseM ms (((markI (((bringI sq 8))) ((9 : UInt8)))))).1))) (most (((raiseM ms (((markI (((bringI sq 8))) ((9 : UInt8)))))).1)).crew)).1).seq)
                            · skip
                              exact absurd (rs_stable hJ sq _ 9 h248) (of_decide_eq_false h255)
                            · skip
                              refine wlOn rfl rfl ?_
                              refine wlVal (opMove rfl) rfl ?_
                              refine wlOn rfl rfl ?_
                              refine wlVal (opMove rfl) rfl ?_
                              refine wlOn rfl rfl ?_
                              refine wlCallS hC hB rfl co19 rfl rfl (mark_ret _ _ hC.holds (((bringI sq 8))) ((9 : UInt8))) ?_; intro w hk hC hB
                              refine wlOn rfl rfl ?_
                              refine wlCallM (A := []) (O := [(b8, o198), (l9, q199)]) (B := []) hC hB rfl co12 rfl rfl (vote_ret _ _ hC.holds b8 l9 _ _ (((raiseM ms (((markI (((bringI sq 8))) ((9 : UInt8)))))).1)) ⟨hC.heldAt 0 rfl, hC.heldG 0 rfl⟩ ⟨hC.heldAt 1 rfl, hC.heldG 1 rfl⟩ (by have e_ := hC.hnd; simp at e_; omega) h200 1 (((markI (((bringI sq 8))) ((9 : UInt8)))))) ?_; rintro v256 G O257 w hg hC hB ⟨o258, q259, rfl, h260, rfl⟩
                              replace hl := hl.mono hg; replace hs173 := hs173.mono hg; replace hs180 := hs180.mono hg; replace hs187 := hs187.mono hg; replace hs194 := hs194.mono hg; replace hs209 := hs209.mono hg; replace hs211 := hs211.mono hg; replace hs220 := hs220.mono hg; replace hs222 := hs222.mono hg; replace hs231 := hs231.mono hg; replace hs233 := hs233.mono hg; replace hs242 := hs242.mono hg; replace hs244 := hs244.mono hg
                              replace hC : Cx w0 G0 G w ⟨[], [(b8, o258), (l9, q259)]⟩ := hC
                              replace hB : Bxs G w w0.heap.size [(b247, 28, (((gR (lists (((raiseM ms (((markI (((bringI sq 8))) ((9 : UInt8)))))).1))) (most (((raiseM ms (((markI (((bringI sq 8))) ((9 : UInt8)))))).1)).crew)).1)).cells), (b167, 55, [(.slice none 0 0), (.slice A168 (((((mget ms.list 1).getD []))).length) cap169), (.slice A175 (((((mget ms.list 2).getD []))).length) cap176), (.slice A182 (((((mget ms.list 3).getD []))).length) cap183), (.slice A189 (((((mget ms.list 4).getD []))).length) cap190)])] ⟨[], [(b8, o258), (l9, q259)]⟩ := hB
                              refine wlOn rfl rfl ?_
                              refine wlVal (opEql rfl rfl) rfl ?_
                              refine wlVal (opPickT rfl rfl) rfl ?_
                              refine wlVal (opMove rfl) rfl ?_
                              cases h261 : (((voteM (((raiseM ms (((markI (((bringI sq 8))) ((9 : UInt8)))))).1)) 1 (((markI (((bringI sq 8))) ((9 : UInt8)))))).2)) == 9
                              · skip
                                exact absurd h261 (by rw [rs_vote hJ]; simp)
                              · skip
                                refine wlOn rfl rfl ?_
                                refine wlCallS hC hB rfl co17 rfl rfl (awake_ret _ _ hC.holds ) ?_; intro w hk hC hB
                                refine wlVal (opPickT rfl rfl) rfl ?_
                                refine wlVal (opAssign rfl) rfl ?_
                                refine wlThen ?_
                                refine wcRet ?_
                                exact fun ac_ ha => hQ _ _ _ (results1 ha rfl rfl) ha.df (endS hC hw rfl)
                      · skip
                        refine wcCondT rfl ?_
                        refine wcSkip ?_
                        refine wcOf ?_
                        refine wcSeq ?_
                        refine wcBlock ?_
                        refine wcSeq ?_
                        refine wcRegion ?_
                        refine wlVal (opMove rfl) rfl ?_
                        refine wlVal (opIndexArr (i := 4) rfl rfl ar55 (by decide)) rfl ?_
                        refine wlVal (opLoadOne (v := (.slice A189 (((((mget ms.list 4).getD []))).length) cap190)) rfl (hB.cell (i := 0) rfl rfl) one54) rfl ?_
                        refine wlVal (opMove rfl) rfl ?_
                        obtain ⟨x262, hx263⟩ : ∃ y_, ((((mget ms.list 4).getD [])))[i4_]? = some y_ := ⟨_, List.getElem?_eq_getElem (of_decide_eq_true h236)⟩
                        obtain ⟨b264, o265, row266, hA269, hr267, hi268⟩ := hs194.elem hx263; subst hA269
                        obtain rfl := hi268
                        refine wlVal (opIndexAddr rfl rfl slo54 (of_decide_eq_true h236)) rfl ?_
                        refine wlVal (opFieldAddr rfl fo28_0) rfl ?_
                        refine wlVal (opLoadOne (v := (.int .i64 x262.seq)) rfl (RowG.cell0 hC.holds hr267 (by simp [Mark.cells, Do.cells, Word.cells])) one3) rfl ?_
                        refine wlVal (opMove rfl) rfl ?_
                        refine wlVal (opGtr rfl rfl) rfl ?_
                        refine wlThen ?_
                        cases h270 : decide (((bringI sq 8)) < x262.seq)
                        · skip
                          refine wcCondF rfl ?_
                          refine wcSkip ?_
                          refine wcOf ?_
                          refine wcRegion ?_
                          refine wlVal (opMove rfl) rfl ?_
                          refine wlVal (opIncr rfl rfl (by have q := good_len hJms 4; have q2 := of_decide_eq_true h236; omega)) rfl ?_
                          refine wlVal (opAssign rfl) rfl ?_
                          refine wlRound ?_
                          exact (IH3 (i4_ + 1, out4_A, out4_C, out4_O, out4_) _ _ ⟨hC, hB, hl, hs173, hs180, hs187, hs194, h200, hs209, hs211, hs220, hs222, hs231, hs233, hOout4_, (of_decide_eq_true h236), (rw_stepF hO2 hx263 h270)⟩ (by have q := of_decide_eq_true h236; show _ - (i4_ + 1) < _ - i4_; omega)).sub (fun _ ha => ((((((ha.start.cons ha (t := 5) rfl).cons ha (t := 7) rfl).cons ha (t := 8) rfl).cons ha (t := 10) rfl).cons ha (t := 11) rfl).cons ha (t := 12) rfl))
                        · skip
                          refine wcCondT rfl ?_
                          refine wcRegion ?_
                          refine wlVal (opMove rfl) rfl ?_
                          refine wlVal (opMove rfl) rfl ?_
                          refine wlVal (opIndexArr (i := 4) rfl rfl ar55 (by decide)) rfl ?_
                          refine wlVal (opLoadOne (v := (.slice (some ⟨b264, o265, none⟩) (((((mget ms.list 4).getD []))).length) cap190)) rfl (hB.cell (i := 0) rfl rfl) one54) rfl ?_
                          refine wlVal (opMove rfl) rfl ?_
                          refine wlVal (opIndexAddr rfl rfl slo54 (of_decide_eq_true h236)) rfl ?_
                          refine wlVal (opLoadRow (cs := x262.cells) rfl (RowG.range hC.holds hr267) row28 (by simp [Mark.cells, Do.cells, Word.cells])) rfl ?_
                          refine wlBuildSlice (α := Mark) (ps := [(0, .tmp 99)]) (xs := [x262]) (rows := [x262.cells]) elo54 rfl rfl hC hB rfl rfl rfl ⟨rfl, trivial⟩ rfl ?_; intro b271 G w hk hC hB hs272
                          replace hl := hl.mono hk.gle; replace hs173 := hs173.mono hk.gle; replace hs180 := hs180.mono hk.gle; replace hs187 := hs187.mono hk.gle; replace hs194 := hs194.mono hk.gle; replace h200 := h200.mono hk.gle; replace hs209 := hs209.mono hk.gle; replace hs211 := hs211.mono hk.gle; replace hs220 := hs220.mono hk.gle; replace hs222 := hs222.mono hk.gle; replace hs231 := hs231.mono hk.gle; replace hs233 := hs233.mono hk.gle; replace hOout4_ := hOout4_.mono hk.gle; replace hr267 := hr267.mono hk.gle
                          refine wlAppend (α := Mark) (bl := [(b167, 55, [(.slice none 0 0), (.slice A168 (((((mget ms.list 1).getD []))).length) cap169), (.slice A175 (((((mget ms.list 2).getD []))).length) cap176), (.slice A182 (((((mget ms.list 3).getD []))).length) cap183), (.slice (some ⟨b264, o265, none⟩) (((((mget ms.list 4).getD []))).length) cap190)])]) (o := out4_O) (r := []) elo54 hC hB rfl rfl hOout4_ hs272 (by have q := rw_len (good_len hJms _) hO2; simp only [List.length_cons, List.length_nil]; omega) rfl rfl ?_; intro A273 cap274 o275 w hC hB hO276
                          refine wlVal (opAssign rfl) rfl ?_
                          refine wlNil ?_
                          refine wcOf ?_
                          refine wcRegion ?_
                          refine wlVal (opMove rfl) rfl ?_
                          refine wlVal (opIncr rfl rfl (by have q := good_len hJms 4; have q2 := of_decide_eq_true h236; omega)) rfl ?_
                          refine wlVal (opAssign rfl) rfl ?_
                          refine wlRound ?_
                          exact (IH3 (i4_ + 1, A273, cap274, o275, (out4_ ++ [x262])) _ _ ⟨hC, hB, hl, hs173, hs180, hs187, hs194, h200, hs209, hs211, hs220, hs222, hs231, hs233, hO276, (of_decide_eq_true h236), (rw_stepT hO2 hx263 h270)⟩ (by have q := of_decide_eq_true h236; show _ - (i4_ + 1) < _ - i4_; omega)).sub (fun _ ha => ((((((ha.start.cons ha (t := 5) rfl).cons ha (t := 7) rfl).cons ha (t := 8) rfl).cons ha (t := 10) rfl).cons ha (t := 11) rfl).cons ha (t := 12) rfl))
                  · skip
                    refine wcCondT rfl ?_
                    refine wcSkip ?_
                    refine wcOf ?_
                    refine wcSeq ?_
                    refine wcBlock ?_
                    refine wcSeq ?_
                    refine wcRegion ?_
                    refine wlVal (opMove rfl) rfl ?_
                    refine wlVal (opIndexArr (i := 3) rfl rfl ar55 (by decide)) rfl ?_
                    refine wlVal (opLoadOne (v := (.slice A182 (((((mget ms.list 3).getD []))).length) cap183)) rfl (hB.cell (i := 0) rfl rfl) one54) rfl ?_
                    refine wlVal (opMove rfl) rfl ?_
                    obtain ⟨x277, hx278⟩ : ∃ y_, ((((mget ms.list 3).getD [])))[i3_]? = some y_ := ⟨_, List.getElem?_eq_getElem (of_decide_eq_true h225)⟩
                    obtain ⟨b279, o280, row281, hA284, hr282, hi283⟩ := hs187.elem hx278; subst hA284
                    obtain rfl := hi283
                    refine wlVal (opIndexAddr rfl rfl slo54 (of_decide_eq_true h225)) rfl ?_
                    refine wlVal (opFieldAddr rfl fo28_0) rfl ?_
                    refine wlVal (opLoadOne (v := (.int .i64 x277.seq)) rfl (RowG.cell0 hC.holds hr282 (by simp [Mark.cells, Do.cells, Word.cells])) one3) rfl ?_
                    refine wlVal (opMove rfl) rfl ?_
                    refine wlVal (opGtr rfl rfl) rfl ?_
                    refine wlThen ?_
                    cases h285 : decide (((bringI sq 8)) < x277.seq)
                    · skip
                      refine wcCondF rfl ?_
                      refine wcSkip ?_
                      refine wcOf ?_
                      refine wcRegion ?_
                      refine wlVal (opMove rfl) rfl ?_
                      refine wlVal (opIncr rfl rfl (by have q := good_len hJms 3; have q2 := of_decide_eq_true h225; omega)) rfl ?_
                      refine wlVal (opAssign rfl) rfl ?_
                      refine wlRound ?_
                      exact (IH3 (i3_ + 1, out3_A, out3_C, out3_O, out3_) _ _ ⟨hC, hB, hl, hs173, hs180, hs187, hs194, h200, hs209, hs211, hs220, hs222, hOout3_, (of_decide_eq_true h225), (rw_stepF hO2 hx278 h285)⟩ (by have q := of_decide_eq_true h225; show _ - (i3_ + 1) < _ - i3_; omega)).sub (fun _ ha => ((((((ha.start.cons ha (t := 5) rfl).cons ha (t := 7) rfl).cons ha (t := 8) rfl).cons ha (t := 10) rfl).cons ha (t := 11) rfl).cons ha (t := 12) rfl))
                    · skip
                      refine wcCondT rfl ?_
                      refine wcRegion ?_
                      refine wlVal (opMove rfl) rfl ?_
                      refine wlVal (opMove rfl) rfl ?_
                      refine wlVal (opIndexArr (i := 3) rfl rfl ar55 (by decide)) rfl ?_
                      refine wlVal (opLoadOne (v := (.slice (some ⟨b279, o280, none⟩) (((((mget ms.list 3).getD []))).length) cap183)) rfl (hB.cell (i := 0) rfl rfl) one54) rfl ?_
                      refine wlVal (opMove rfl) rfl ?_
                      refine wlVal (opIndexAddr rfl rfl slo54 (of_decide_eq_true h225)) rfl ?_
                      refine wlVal (opLoadRow (cs := x277.cells) rfl (RowG.range hC.holds hr282) row28 (by simp [Mark.cells, Do.cells, Word.cells])) rfl ?_
                      refine wlBuildSlice (α := Mark) (ps := [(0, .tmp 99)]) (xs := [x277]) (rows := [x277.cells]) elo54 rfl rfl hC hB rfl rfl rfl ⟨rfl, trivial⟩ rfl ?_; intro b286 G w hk hC hB hs287
                      replace hl := hl.mono hk.gle; replace hs173 := hs173.mono hk.gle; replace hs180 := hs180.mono hk.gle; replace hs187 := hs187.mono hk.gle; replace hs194 := hs194.mono hk.gle; replace h200 := h200.mono hk.gle; replace hs209 := hs209.mono hk.gle; replace hs211 := hs211.mono hk.gle; replace hs220 := hs220.mono hk.gle; replace hs222 := hs222.mono hk.gle; replace hOout3_ := hOout3_.mono hk.gle; replace hr282 := hr282.mono hk.gle
                      refine wlAppend (α := Mark) (bl := [(b167, 55, [(.slice none 0 0), (.slice A168 (((((mget ms.list 1).getD []))).length) cap169), (.slice A175 (((((mget ms.list 2).getD []))).length) cap176), (.slice (some ⟨b279, o280, none⟩) (((((mget ms.list 3).getD []))).length) cap183), (.slice A189 (((((mget ms.list 4).getD []))).length) cap190)])]) (o := out3_O) (r := []) elo54 hC hB rfl rfl hOout3_ hs287 (by have q := rw_len (good_len hJms _) hO2; simp only [List.length_cons, List.length_nil]; omega) rfl rfl ?_; intro A288 cap289 o290 w hC hB hO291
                      refine wlVal (opAssign rfl) rfl ?_
                      refine wlNil ?_
                      refine wcOf ?_
                      refine wcRegion ?_
                      refine wlVal (opMove rfl) rfl ?_
                      refine wlVal (opIncr rfl rfl (by have q := good_len hJms 3; have q2 := of_decide_eq_true h225; omega)) rfl ?_
                      refine wlVal (opAssign rfl) rfl ?_
                      refine wlRound ?_
                      exact (IH3 (i3_ + 1, A288, cap289, o290, (out3_ ++ [x277])) _ _ ⟨hC, hB, hl, hs173, hs180, hs187, hs194, h200, hs209, hs211, hs220, hs222, hO291, (of_decide_eq_true h225), (rw_stepT hO2 hx278 h285)⟩ (by have q := of_decide_eq_true h225; show _ - (i3_ + 1) < _ - i3_; omega)).sub (fun _ ha => ((((((ha.start.cons ha (t := 5) rfl).cons ha (t := 7) rfl).cons ha (t := 8) rfl).cons ha (t := 10) rfl).cons ha (t := 11) rfl).cons ha (t := 12) rfl))
              · skip
                refine wcCondT rfl ?_
                refine wcSkip ?_
                refine wcOf ?_
                refine wcSeq ?_
                refine wcBlock ?_
                refine wcSeq ?_
                refine wcRegion ?_
                refine wlVal (opMove rfl) rfl ?_
                refine wlVal (opIndexArr (i := 2) rfl rfl ar55 (by decide)) rfl ?_
                refine wlVal (opLoadOne (v := (.slice A175 (((((mget ms.list 2).getD []))).length) cap176)) rfl (hB.cell (i := 0) rfl rfl) one54) rfl ?_
                refine wlVal (opMove rfl) rfl ?_
                obtain ⟨x292, hx293⟩ : ∃ y_, ((((mget ms.list 2).getD [])))[i2_]? = some y_ := ⟨_, List.getElem?_eq_getElem (of_decide_eq_true h214)⟩
                obtain ⟨b294, o295, row296, hA299, hr297, hi298⟩ := hs180.elem hx293; subst hA299
                obtain rfl := hi298
                refine wlVal (opIndexAddr rfl rfl slo54 (of_decide_eq_true h214)) rfl ?_
                refine wlVal (opFieldAddr rfl fo28_0) rfl ?_
                refine wlVal (opLoadOne (v := (.int .i64 x292.seq)) rfl (RowG.cell0 hC.holds hr297 (by simp [Mark.cells, Do.cells, Word.cells])) one3) rfl ?_
                refine wlVal (opMove rfl) rfl ?_
                refine wlVal (opGtr rfl rfl) rfl ?_
                refine wlThen ?_
                cases h300 : decide (((bringI sq 8)) < x292.seq)
                · skip
                  refine wcCondF rfl ?_
                  refine wcSkip ?_
                  refine wcOf ?_
                  refine wcRegion ?_
                  refine wlVal (opMove rfl) rfl ?_
                  refine wlVal (opIncr rfl rfl (by have q := good_len hJms 2; have q2 := of_decide_eq_true h214; omega)) rfl ?_
                  refine wlVal (opAssign rfl) rfl ?_
                  refine wlRound ?_
                  exact (IH3 (i2_ + 1, out2_A, out2_C, out2_O, out2_) _ _ ⟨hC, hB, hl, hs173, hs180, hs187, hs194, h200, hs209, hs211, hOout2_, (of_decide_eq_true h214), (rw_stepF hO2 hx293 h300)⟩ (by have q := of_decide_eq_true h214; show _ - (i2_ + 1) < _ - i2_; omega)).sub (fun _ ha => ((((((ha.start.cons ha (t := 5) rfl).cons ha (t := 7) rfl).cons ha (t := 8) rfl).cons ha (t := 10) rfl).cons ha (t := 11) rfl).cons ha (t := 12) rfl))
                · skip
                  refine wcCondT rfl ?_
                  refine wcRegion ?_
                  refine wlVal (opMove rfl) rfl ?_
                  refine wlVal (opMove rfl) rfl ?_
                  refine wlVal (opIndexArr (i := 2) rfl rfl ar55 (by decide)) rfl ?_
                  refine wlVal (opLoadOne (v := (.slice (some ⟨b294, o295, none⟩) (((((mget ms.list 2).getD []))).length) cap176)) rfl (hB.cell (i := 0) rfl rfl) one54) rfl ?_
                  refine wlVal (opMove rfl) rfl ?_
                  refine wlVal (opIndexAddr rfl rfl slo54 (of_decide_eq_true h214)) rfl ?_
                  refine wlVal (opLoadRow (cs := x292.cells) rfl (RowG.range hC.holds hr297) row28 (by simp [Mark.cells, Do.cells, Word.cells])) rfl ?_
                  refine wlBuildSlice (α := Mark) (ps := [(0, .tmp 99)]) (xs := [x292]) (rows := [x292.cells]) elo54 rfl rfl hC hB rfl rfl rfl ⟨rfl, trivial⟩ rfl ?_; intro b301 G w hk hC hB hs302
                  replace hl := hl.mono hk.gle; replace hs173 := hs173.mono hk.gle; replace hs180 := hs180.mono hk.gle; replace hs187 := hs187.mono hk.gle; replace hs194 := hs194.mono hk.gle; replace h200 := h200.mono hk.gle; replace hs209 := hs209.mono hk.gle; replace hs211 := hs211.mono hk.gle; replace hOout2_ := hOout2_.mono hk.gle; replace hr297 := hr297.mono hk.gle
                  refine wlAppend (α := Mark) (bl := [(b167, 55, [(.slice none 0 0), (.slice A168 (((((mget ms.list 1).getD []))).length) cap169), (.slice (some ⟨b294, o295, none⟩) (((((mget ms.list 2).getD []))).length) cap176), (.slice A182 (((((mget ms.list 3).getD []))).length) cap183), (.slice A189 (((((mget ms.list 4).getD []))).length) cap190)])]) (o := out2_O) (r := []) elo54 hC hB rfl rfl hOout2_ hs302 (by have q := rw_len (good_len hJms _) hO2; simp only [List.length_cons, List.length_nil]; omega) rfl rfl ?_; intro A303 cap304 o305 w hC hB hO306
                  refine wlVal (opAssign rfl) rfl ?_
                  refine wlNil ?_
                  refine wcOf ?_
                  refine wcRegion ?_
                  refine wlVal (opMove rfl) rfl ?_
                  refine wlVal (opIncr rfl rfl (by have q := good_len hJms 2; have q2 := of_decide_eq_true h214; omega)) rfl ?_
                  refine wlVal (opAssign rfl) rfl ?_
                  refine wlRound ?_
                  exact (IH3 (i2_ + 1, A303, cap304, o305, (out2_ ++ [x292])) _ _ ⟨hC, hB, hl, hs173, hs180, hs187, hs194, h200, hs209, hs211, hO306, (of_decide_eq_true h214), (rw_stepT hO2 hx293 h300)⟩ (by have q := of_decide_eq_true h214; show _ - (i2_ + 1) < _ - i2_; omega)).sub (fun _ ha => ((((((ha.start.cons ha (t := 5) rfl).cons ha (t := 7) rfl).cons ha (t := 8) rfl).cons ha (t := 10) rfl).cons ha (t := 11) rfl).cons ha (t := 12) rfl))
          · skip
            refine wcCondT rfl ?_
            refine wcSkip ?_
            refine wcOf ?_
            refine wcSeq ?_
            refine wcBlock ?_
            refine wcSeq ?_
            refine wcRegion ?_
            refine wlVal (opMove rfl) rfl ?_
            refine wlVal (opIndexArr (i := 1) rfl rfl ar55 (by decide)) rfl ?_
            refine wlVal (opLoadOne (v := (.slice A168 (((((mget ms.list 1).getD []))).length) cap169)) rfl (hB.cell (i := 0) rfl rfl) one54) rfl ?_
            refine wlVal (opMove rfl) rfl ?_
            obtain ⟨x307, hx308⟩ : ∃ y_, ((((mget ms.list 1).getD [])))[i1_]? = some y_ := ⟨_, List.getElem?_eq_getElem (of_decide_eq_true h203)⟩
            obtain ⟨b309, o310, row311, hA314, hr312, hi313⟩ := hs173.elem hx308; subst hA314
            obtain rfl := hi313
            refine wlVal (opIndexAddr rfl rfl slo54 (of_decide_eq_true h203)) rfl ?_
            refine wlVal (opFieldAddr rfl fo28_0) rfl ?_
            refine wlVal (opLoadOne (v := (.int .i64 x307.seq)) rfl (RowG.cell0 hC.holds hr312 (by simp [Mark.cells, Do.cells, Word.cells])) one3) rfl ?_
            refine wlVal (opMove rfl) rfl ?_
            refine wlVal (opGtr rfl rfl) rfl ?_
            refine wlThen ?_
            cases h315 : decide (((bringI sq 8)) < x307.seq)
            · skip
              refine wcCondF rfl ?_
              refine wcSkip ?_
              refine wcOf ?_
              refine wcRegion ?_
              refine wlVal (opMove rfl) rfl ?_
              refine wlVal (opIncr rfl rfl (by have q := good_len hJms 1; have q2 := of_decide_eq_true h203; omega)) rfl ?_
              refine wlVal (opAssign rfl) rfl ?_
              refine wlRound ?_
              exact (IH3 (i1_ + 1, out1_A, out1_C, out1_O, out1_) _ _ ⟨hC, hB, hl, hs173, hs180, hs187, hs194, h200, hOout1_, (of_decide_eq_true h203), (rw_stepF hO2 hx308 h315)⟩ (by have q := of_decide_eq_true h203; show _ - (i1_ + 1) < _ - i1_; omega)).sub (fun _ ha => ((((((ha.start.cons ha (t := 5) rfl).cons ha (t := 7) rfl).cons ha (t := 8) rfl).cons ha (t := 10) rfl).cons ha (t := 11) rfl).cons ha (t := 12) rfl))
            · skip
              refine wcCondT rfl ?_
              refine wcRegion ?_
              refine wlVal (opMove rfl) rfl ?_
              refine wlVal (opMove rfl) rfl ?_
              refine wlVal (opIndexArr (i := 1) rfl rfl ar55 (by decide)) rfl ?_
              refine wlVal (opLoadOne (v := (.slice (some ⟨b309, o310, none⟩) (((((mget ms.list 1).getD []))).length) cap169)) rfl (hB.cell (i := 0) rfl rfl) one54) rfl ?_
              refine wlVal (opMove rfl) rfl ?_
              refine wlVal (opIndexAddr rfl rfl slo54 (of_decide_eq_true h203)) rfl ?_
              refine wlVal (opLoadRow (cs := x307.cells) rfl (RowG.range hC.holds hr312) row28 (by simp [Mark.cells, Do.cells, Word.cells])) rfl ?_
              refine wlBuildSlice (α := Mark) (ps := [(0, .tmp 99)]) (xs := [x307]) (rows := [x307.cells]) elo54 rfl rfl hC hB rfl rfl rfl ⟨rfl, trivial⟩ rfl ?_; intro b316 G w hk hC hB hs317
              replace hl := hl.mono hk.gle; replace hs173 := hs173.mono hk.gle; replace hs180 := hs180.mono hk.gle; replace hs187 := hs187.mono hk.gle; replace hs194 := hs194.mono hk.gle; replace h200 := h200.mono hk.gle; replace hOout1_ := hOout1_.mono hk.gle; replace hr312 := hr312.mono hk.gle
              refine wlAppend (α := Mark) (bl := [(b167, 55, [(.slice none 0 0), (.slice (some ⟨b309, o310, none⟩) (((((mget ms.list 1).getD []))).length) cap169), (.slice A175 (((((mget ms.list 2).getD []))).length) cap176), (.slice A182 (((((mget ms.list 3).getD []))).length) cap183), (.slice A189 (((((mget ms.list 4).getD []))).length) cap190)])]) (o := out1_O) (r := []) elo54 hC hB rfl rfl hOout1_ hs317 (by have q := rw_len (good_len hJms _) hO2; simp only [List.length_cons, List.length_nil]; omega) rfl rfl ?_; intro A318 cap319 o320 w hC hB hO321
              refine wlVal (opAssign rfl) rfl ?_
              refine wlNil ?_
              refine wcOf ?_
              refine wcRegion ?_
              refine wlVal (opMove rfl) rfl ?_
              refine wlVal (opIncr rfl rfl (by have q := good_len hJms 1; have q2 := of_decide_eq_true h203; omega)) rfl ?_
              refine wlVal (opAssign rfl) rfl ?_
              refine wlRound ?_
              exact (IH3 (i1_ + 1, A318, cap319, o320, (out1_ ++ [x307])) _ _ ⟨hC, hB, hl, hs173, hs180, hs187, hs194, h200, hO321, (of_decide_eq_true h203), (rw_stepT hO2 hx308 h315)⟩ (by have q := of_decide_eq_true h203; show _ - (i1_ + 1) < _ - i1_; omega)).sub (fun _ ha => ((((((ha.start.cons ha (t := 5) rfl).cons ha (t := 7) rfl).cons ha (t := 8) rfl).cons ha (t := 10) rfl).cons ha (t := 11) rfl).cons ha (t := 12) rfl))
      · skip
        exact absurd h201 (by rw [rs_raise hJ]; simp)
    · skip
      refine wcCondT rfl ?_
      refine wcSkip ?_
      refine wcOf ?_
      refine wcSeq ?_
      refine wcBlock ?_
      obtain ⟨x322, hx323⟩ : ∃ y_, l[k]? = some y_ := ⟨_, List.getElem?_eq_getElem (of_decide_eq_true h10)⟩
      obtain ⟨b324, o325, row326, hA329, hr327, hi328⟩ := hl.elem hx323; subst hA329
      obtain rfl := hi328
      refine wcDrawT 22 fmix (by kernel_rfl) (by kernel_rfl) (by kernel_rfl) (by kernel_rfl) (vAt [(fun _ v_ => v_ = (.pointer (some ⟨b8, 0, none⟩))), (fun _ v_ => v_ = (.slice (some ⟨b324, o325, none⟩) l.length cap2)), (fun _ v_ => v_ = (.int .i64 (((k : Nat) : Int)))), (fun _ v_ => v_ = (.pointer (some ⟨b324, o325 + k * 3, none⟩))), (fun _ v_ => v_ = (.pointer (some ⟨b324, o325 + k * 3, none⟩))), (fun _ v_ => v_ = (.int .i64 x322.node)), (fun _ v_ => v_ = (.int .i64 (((bringI x322.node 4))))), (fun _ v_ => v_ = (.int .i64 (IntKind.wrap .i64 (1 + ((bringI x322.node 4)))))), (fun _ v_ => v_ = (.slice (some ⟨b324, o325, none⟩) l.length cap2)), (fun _ v_ => v_ = (.int .i64 (((k : Nat) : Int)))), (fun _ v_ => v_ = (.pointer (some ⟨b324, o325 + k * 3, none⟩))), (fun _ v_ => v_ = (.pointer (some ⟨b324, o325 + k * 3 + 1, none⟩))), (fun _ v_ => v_ = (.int .i64 x322.seq)), (fun _ v_ => v_ = (.int .i64 (((bringI x322.seq 6))))), (fun _ v_ => v_ = (.int .i64 (IntKind.wrap .i64 (1 + ((bringI x322.seq 6)))))), (fun _ v_ => v_ = (.slice (some ⟨b324, o325, none⟩) l.length cap2)), (fun _ v_ => v_ = (.int .i64 (((k : Nat) : Int)))), (fun _ v_ => v_ = (.pointer (some ⟨b324, o325 + k * 3, none⟩))), (fun _ v_ => v_ = (.pointer (some ⟨b324, o325 + k * 3 + 2, none⟩))), (fun _ v_ => v_ = (.int .u8 (((x322.b).toNat : Int)))), (fun _ v_ => v_ = (.int .u8 ((((x322.b &&& (1 : UInt8))).toNat : Int)))), (fun _ v_ => v_ = (.agg (((markI (IntKind.wrap .i64 (1 + ((bringI x322.seq 6)))) ((x322.b &&& (1 : UInt8)))))).cells.toArray))]) (fun _ _ G' w => Cx w0 G0 G' w ⟨[], [(b8, om), (l9, qm)]⟩ ∧ Bxs G' w w0.heap.size [] ⟨[], [(b8, om), (l9, qm)]⟩ ∧ GLe G G') G (vAt_mono ⟨fun _ _ _ _ h => h, fun _ _ _ _ h => h, fun _ _ _ _ h => h, fun _ _ _ _ h => h, fun _ _ _ _ h => h, fun _ _ _ _ h => h, fun _ _ _ _ h => h, fun _ _ _ _ h => h, fun _ _ _ _ h => h, fun _ _ _ _ h => h, fun _ _ _ _ h => h, fun _ _ _ _ h => h, fun _ _ _ _ h => h, fun _ _ _ _ h => h, fun _ _ _ _ h => h, fun _ _ _ _ h => h, fun _ _ _ _ h => h, fun _ _ _ _ h => h, fun _ _ _ _ h => h, fun _ _ _ _ h => h, fun _ _ _ _ h => h, fun _ _ _ _ h => h, trivial⟩) (fun _ _ => ⟨hC.drew, hB.drew, fun _ _ h => h⟩) ?_ ?_
      · refine dsNone (j := 1) rfl ?_ ?_
        · intro done G w ac_ hd hp hn ⟨hC, hB, hg⟩ hM
          have f5 : ac_.tmps[5]? = some (.pointer (some ⟨b8, 0, none⟩)) := hM.old0 rfl rfl
          have hF : Fr 131 ac_ (Env.nil.put 5 (.pointer (some ⟨b8, 0, none⟩))) := (hM.fr.add f5)
          exact OpVal.draw hF (opMove rfl) ⟨G, fun _ _ h => h, ⟨hC, hB, hg⟩, rfl⟩
        refine dsNone (j := 2) rfl ?_ ?_
        · intro done G w ac_ hd hp hn ⟨hC, hB, hg⟩ hM
          have f0 : ac_.tmps[0]? = some (.slice (some ⟨b324, o325, none⟩) l.length cap2) := hM.old0 rfl rfl
          have hF : Fr 131 ac_ (Env.nil.put 0 (.slice (some ⟨b324, o325, none⟩) l.length cap2)) := (hM.fr.add f0)
          exact OpVal.draw hF (opMove rfl) ⟨G, fun _ _ h => h, ⟨hC, hB, hg⟩, rfl⟩
        refine dsNone (j := 3) rfl ?_ ?_
        · intro done G w ac_ hd hp hn ⟨hC, hB, hg⟩ hM
          have f6 : ac_.tmps[6]? = some (.int .i64 (((k : Nat) : Int))) := hM.old0 rfl rfl
          have hF : Fr 131 ac_ (Env.nil.put 6 (.int .i64 (((k : Nat) : Int)))) := (hM.fr.add f6)
          exact OpVal.draw hF (opMove rfl) ⟨G, fun _ _ h => h, ⟨hC, hB, hg⟩, rfl⟩
        refine dsNone (j := 4) rfl ?_ ?_
        · intro done G w ac_ hd hp hn ⟨hC, hB, hg⟩ hM
          have f27 : ac_.tmps[27]? = some (.slice (some ⟨b324, o325, none⟩) l.length cap2) := hM.eqv 1 rfl (hp 1 rfl) rfl rfl
          have f28 : ac_.tmps[28]? = some (.int .i64 (((k : Nat) : Int))) := hM.eqv 2 rfl (hp 2 rfl) rfl rfl
          have hF : Fr 131 ac_ ((Env.nil.put 27 (.slice (some ⟨b324, o325, none⟩) l.length cap2)).put 28 (.int .i64 (((k : Nat) : Int)))) := ((hM.fr.add f27).add f28)
          exact OpVal.draw hF (opIndexAddr rfl rfl slo45 (of_decide_eq_true h10)) ⟨G, fun _ _ h => h, ⟨hC, hB, hg⟩, rfl⟩
        refine dsNone (j := 5) rfl ?_ ?_
        · intro done G w ac_ hd hp hn ⟨hC, hB, hg⟩ hM
          have f29 : ac_.tmps[29]? = some (.pointer (some ⟨b324, o325 + k * 3, none⟩)) := hM.eqv 3 rfl (hp 3 rfl) rfl rfl
          have hF : Fr 131 ac_ (Env.nil.put 29 (.pointer (some ⟨b324, o325 + k * 3, none⟩))) := (hM.fr.add f29)
          exact OpVal.draw hF (opFieldAddr rfl fo48_0) ⟨G, fun _ _ h => h, ⟨hC, hB, hg⟩, rfl⟩
        refine dsNone (j := 6) rfl ?_ ?_
        · intro done G w ac_ hd hp hn ⟨hC, hB, hg⟩ hM
          replace hr327 := hr327.mono hg
          have f30 : ac_.tmps[30]? = some (.pointer (some ⟨b324, o325 + k * 3, none⟩)) := hM.eqv 4 rfl (hp 4 rfl) rfl rfl
          have hF : Fr 131 ac_ (Env.nil.put 30 (.pointer (some ⟨b324, o325 + k * 3, none⟩))) := (hM.fr.add f30)
          exact OpVal.draw hF (opLoadOne (v := (.int .i64 x322.node)) rfl (RowG.cell0 hC.holds hr327 rfl) one3) ⟨G, fun _ _ h => h, ⟨hC, hB, hg⟩, rfl⟩
        refine dsNone (j := 7) rfl ?_ ?_
        · intro done G w ac_ hd hp hn ⟨hC, hB, hg⟩ hM
          have f31 : ac_.tmps[31]? = some (.int .i64 x322.node) := hM.eqv 5 rfl (hp 5 rfl) rfl rfl
          have hF : Fr 131 ac_ (Env.nil.put 31 (.int .i64 x322.node)) := (hM.fr.add f31)
          exact drawCallS hF rfl co11 rfl (bring_ret _ _ hC.holds x322.node 4) (fun w' hk => ⟨G, fun _ _ h => h, ⟨hC.trans hk, hB.ext hk, hg⟩, rfl⟩)
        refine dsNone (j := 8) rfl ?_ ?_
        · intro done G w ac_ hd hp hn ⟨hC, hB, hg⟩ hM
          have f32 : ac_.tmps[32]? = some (.int .i64 (((bringI x322.node 4)))) := hM.eqv 6 rfl (hp 6 rfl) rfl rfl
          have hF : Fr 131 ac_ (Env.nil.put 32 (.int .i64 (((bringI x322.node 4))))) := (hM.fr.add f32)
          exact OpVal.draw hF (opAdd rfl rfl) ⟨G, fun _ _ h => h, ⟨hC, hB, hg⟩, rfl⟩
        refine dsNone (j := 9) rfl ?_ ?_
        · intro done G w ac_ hd hp hn ⟨hC, hB, hg⟩ hM
          have f0 : ac_.tmps[0]? = some (.slice (some ⟨b324, o325, none⟩) l.length cap2) := hM.old0 rfl rfl
          have hF : Fr 131 ac_ (Env.nil.put 0 (.slice (some ⟨b324, o325, none⟩) l.length cap2)) := (hM.fr.add f0)
          exact OpVal.draw hF (opMove rfl) ⟨G, fun _ _ h => h, ⟨hC, hB, hg⟩, rfl⟩
        refine dsNone (j := 10) rfl ?_ ?_
        · intro done G w ac_ hd hp hn ⟨hC, hB, hg⟩ hM
          have f6 : ac_.tmps[6]? = some (.int .i64 (((k : Nat) : Int))) := hM.old0 rfl rfl
          have hF : Fr 131 ac_ (Env.nil.put 6 (.int .i64 (((k : Nat) : Int)))) := (hM.fr.add f6)
          exact OpVal.draw hF (opMove rfl) ⟨G, fun _ _ h => h, ⟨hC, hB, hg⟩, rfl⟩
        refine dsNone (j := 11) rfl ?_ ?_
        · intro done G w ac_ hd hp hn ⟨hC, hB, hg⟩ hM
          have f34 : ac_.tmps[34]? = some (.slice (some ⟨b324, o325, none⟩) l.length cap2) := hM.eqv 8 rfl (hp 8 rfl) rfl rfl
          have f35 : ac_.tmps[35]? = some (.int .i64 (((k : Nat) : Int))) := hM.eqv 9 rfl (hp 9 rfl) rfl rfl
          have hF : Fr 131 ac_ ((Env.nil.put 34 (.slice (some ⟨b324, o325, none⟩) l.length cap2)).put 35 (.int .i64 (((k : Nat) : Int)))) := ((hM.fr.add f34).add f35)
          exact OpVal.draw hF (opIndexAddr rfl rfl slo45 (of_decide_eq_true h10)) ⟨G, fun _ _ h => h, ⟨hC, hB, hg⟩, rfl⟩
        refine dsNone (j := 12) rfl ?_ ?_
        · intro done G w ac_ hd hp hn ⟨hC, hB, hg⟩ hM
          have f36 : ac_.tmps[36]? = some (.pointer (some ⟨b324, o325 + k * 3, none⟩)) := hM.eqv 10 rfl (hp 10 rfl) rfl rfl
          have hF : Fr 131 ac_ (Env.nil.put 36 (.pointer (some ⟨b324, o325 + k * 3, none⟩))) := (hM.fr.add f36)
          exact OpVal.draw hF (opFieldAddr rfl fo48_1) ⟨G, fun _ _ h => h, ⟨hC, hB, hg⟩, rfl⟩
        refine dsNone (j := 13) rfl ?_ ?_
        · intro done G w ac_ hd hp hn ⟨hC, hB, hg⟩ hM
          replace hr327 := hr327.mono hg
          have f37 : ac_.tmps[37]? = some (.pointer (some ⟨b324, o325 + k * 3 + 1, none⟩)) := hM.eqv 11 rfl (hp 11 rfl) rfl rfl
          have hF : Fr 131 ac_ (Env.nil.put 37 (.pointer (some ⟨b324, o325 + k * 3 + 1, none⟩))) := (hM.fr.add f37)
          exact OpVal.draw hF (opLoadOne (v := (.int .i64 x322.seq)) rfl (RowG.cell hC.holds hr327 (j := 1) rfl) one3) ⟨G, fun _ _ h => h, ⟨hC, hB, hg⟩, rfl⟩
        refine dsNone (j := 14) rfl ?_ ?_
        · intro done G w ac_ hd hp hn ⟨hC, hB, hg⟩ hM
          have f38 : ac_.tmps[38]? = some (.int .i64 x322.seq) := hM.eqv 12 rfl (hp 12 rfl) rfl rfl
          have hF : Fr 131 ac_ (Env.nil.put 38 (.int .i64 x322.seq)) := (hM.fr.add f38)
          exact drawCallS hF rfl co11 rfl (bring_ret _ _ hC.holds x322.seq 6) (fun w' hk => ⟨G, fun _ _ h => h, ⟨hC.trans hk, hB.ext hk, hg⟩, rfl⟩)
        refine dsNone (j := 15) rfl ?_ ?_
        · intro done G w ac_ hd hp hn ⟨hC, hB, hg⟩ hM
          have f39 : ac_.tmps[39]? = some (.int .i64 (((bringI x322.seq 6)))) := hM.eqv 13 rfl (hp 13 rfl) rfl rfl
          have hF : Fr 131 ac_ (Env.nil.put 39 (.int .i64 (((bringI x322.seq 6))))) := (hM.fr.add f39)
          exact OpVal.draw hF (opAdd rfl rfl) ⟨G, fun _ _ h => h, ⟨hC, hB, hg⟩, rfl⟩
        refine dsNone (j := 16) rfl ?_ ?_
        · intro done G w ac_ hd hp hn ⟨hC, hB, hg⟩ hM
          have f0 : ac_.tmps[0]? = some (.slice (some ⟨b324, o325, none⟩) l.length cap2) := hM.old0 rfl rfl
          have hF : Fr 131 ac_ (Env.nil.put 0 (.slice (some ⟨b324, o325, none⟩) l.length cap2)) := (hM.fr.add f0)
          exact OpVal.draw hF (opMove rfl) ⟨G, fun _ _ h => h, ⟨hC, hB, hg⟩, rfl⟩
        refine dsNone (j := 17) rfl ?_ ?_
        · intro done G w ac_ hd hp hn ⟨hC, hB, hg⟩ hM
          have f6 : ac_.tmps[6]? = some (.int .i64 (((k : Nat) : Int))) := hM.old0 rfl rfl
          have hF : Fr 131 ac_ (Env.nil.put 6 (.int .i64 (((k : Nat) : Int)))) := (hM.fr.add f6)
          exact OpVal.draw hF (opMove rfl) ⟨G, fun _ _ h => h, ⟨hC, hB, hg⟩, rfl⟩
        refine dsNone (j := 18) rfl ?_ ?_
        · intro done G w ac_ hd hp hn ⟨hC, hB, hg⟩ hM
          have f41 : ac_.tmps[41]? = some (.slice (some ⟨b324, o325, none⟩) l.length cap2) := hM.eqv 15 rfl (hp 15 rfl) rfl rfl
          have f42 : ac_.tmps[42]? = some (.int .i64 (((k : Nat) : Int))) := hM.eqv 16 rfl (hp 16 rfl) rfl rfl
          have hF : Fr 131 ac_ ((Env.nil.put 41 (.slice (some ⟨b324, o325, none⟩) l.length cap2)).put 42 (.int .i64 (((k : Nat) : Int)))) := ((hM.fr.add f41).add f42)
          exact OpVal.draw hF (opIndexAddr rfl rfl slo45 (of_decide_eq_true h10)) ⟨G, fun _ _ h => h, ⟨hC, hB, hg⟩, rfl⟩
        refine dsNone (j := 19) rfl ?_ ?_
        · intro done G w ac_ hd hp hn ⟨hC, hB, hg⟩ hM
          have f43 : ac_.tmps[43]? = some (.pointer (some ⟨b324, o325 + k * 3, none⟩)) := hM.eqv 17 rfl (hp 17 rfl) rfl rfl
          have hF : Fr 131 ac_ (Env.nil.put 43 (.pointer (some ⟨b324, o325 + k * 3, none⟩))) := (hM.fr.add f43)
          exact OpVal.draw hF (opFieldAddr rfl fo48_2) ⟨G, fun _ _ h => h, ⟨hC, hB, hg⟩, rfl⟩
        refine dsNone (j := 20) rfl ?_ ?_
        · intro done G w ac_ hd hp hn ⟨hC, hB, hg⟩ hM
          replace hr327 := hr327.mono hg
          have f44 : ac_.tmps[44]? = some (.pointer (some ⟨b324, o325 + k * 3 + 2, none⟩)) := hM.eqv 18 rfl (hp 18 rfl) rfl rfl
          have hF : Fr 131 ac_ (Env.nil.put 44 (.pointer (some ⟨b324, o325 + k * 3 + 2, none⟩))) := (hM.fr.add f44)
          exact OpVal.draw hF (opLoadOne (v := (.int .u8 (((x322.b).toNat : Int)))) rfl (RowG.cell hC.holds hr327 (j := 2) rfl) one5) ⟨G, fun _ _ h => h, ⟨hC, hB, hg⟩, rfl⟩
        refine dsNone (j := 21) rfl ?_ ?_
        · intro done G w ac_ hd hp hn ⟨hC, hB, hg⟩ hM
          have f45 : ac_.tmps[45]? = some (.int .u8 (((x322.b).toNat : Int))) := hM.eqv 19 rfl (hp 19 rfl) rfl rfl
          have hF : Fr 131 ac_ (Env.nil.put 45 (.int .u8 (((x322.b).toNat : Int)))) := (hM.fr.add f45)
          exact OpVal.draw hF (opAndU8 (a := x322.b) (b := (1 : UInt8)) rfl rfl) ⟨G, fun _ _ h => h, ⟨hC, hB, hg⟩, rfl⟩
        refine dsNone (j := 22) rfl ?_ ?_
        · intro done G w ac_ hd hp hn ⟨hC, hB, hg⟩ hM
          have f40 : ac_.tmps[40]? = some (.int .i64 (IntKind.wrap .i64 (1 + ((bringI x322.seq 6))))) := hM.eqv 14 rfl (hp 14 rfl) rfl rfl
          have f46 : ac_.tmps[46]? = some (.int .u8 ((((x322.b &&& (1 : UInt8))).toNat : Int))) := hM.eqv 20 rfl (hp 20 rfl) rfl rfl
          have hF : Fr 131 ac_ ((Env.nil.put 40 (.int .i64 (IntKind.wrap .i64 (1 + ((bringI x322.seq 6)))))).put 46 (.int .u8 ((((x322.b &&& (1 : UInt8))).toNat : Int)))) := ((hM.fr.add f40).add f46)
          exact drawCallS hF rfl co19 rfl (mark_ret _ _ hC.holds (IntKind.wrap .i64 (1 + ((bringI x322.seq 6)))) ((x322.b &&& (1 : UInt8)))) (fun w' hk => ⟨G, fun _ _ h => h, ⟨hC.trans hk, hB.ext hk, hg⟩, rfl⟩)
        exact dsNil
      · intro done G w ac_ hall htl ⟨hC, hB, hg⟩ hM
        replace hl := hl.mono hg
        replace hJms := hJms.mono hg
        replace hr327 := hr327.mono hg
        have f0 : ac_.tmps[0]? = some (.slice (some ⟨b324, o325, none⟩) l.length cap2) := hM.old0 rfl rfl
        have f1 : ac_.tmps[1]? = some (.int .i64 sq) := hM.old0 rfl rfl
        have f5 : ac_.tmps[5]? = some (.pointer (some ⟨b8, 0, none⟩)) := hM.old0 rfl rfl
        have f6 : ac_.tmps[6]? = some (.int .i64 (((k : Nat) : Int))) := hM.old0 rfl rfl
        have f26 : ac_.tmps[26]? = some (.pointer (some ⟨b8, 0, none⟩)) := hM.eqv 0 rfl (hall 0 rfl) rfl rfl
        have f33 : ac_.tmps[33]? = some (.int .i64 (IntKind.wrap .i64 (1 + ((bringI x322.node 4))))) := hM.eqv 7 rfl (hall 7 rfl) rfl rfl
        have f47 : ac_.tmps[47]? = some (.agg (((markI (IntKind.wrap .i64 (1 + ((bringI x322.seq 6)))) ((x322.b &&& (1 : UInt8)))))).cells.toArray) := hM.eqv 21 rfl (hall 21 rfl) rfl rfl
        refine ⟨(((((((Env.nil.put 0 (.slice (some ⟨b324, o325, none⟩) l.length cap2)).put 1 (.int .i64 sq)).put 5 (.pointer (some ⟨b8, 0, none⟩))).put 6 (.int .i64 (((k : Nat) : Int)))).put 26 (.pointer (some ⟨b8, 0, none⟩))).put 33 (.int .i64 (IntKind.wrap .i64 (1 + ((bringI x322.node 4)))))).put 47 (.agg (((markI (IntKind.wrap .i64 (1 + ((bringI x322.seq 6)))) ((x322.b &&& (1 : UInt8)))))).cells.toArray)), (((((((hM.fr.add f0).add f1).add f5).add f6).add f26).add f33).add f47), ?_⟩
        clear hM hall htl
        refine wlCallM (A := []) (O := [(b8, om), (l9, qm)]) (B := []) hC hB rfl co12 rfl rfl (vote_ret _ _ hC.holds b8 l9 _ _ ms ⟨hC.heldAt 0 rfl, hC.heldG 0 rfl⟩ ⟨hC.heldAt 1 rfl, hC.heldG 1 rfl⟩ (by have e_ := hC.hnd; simp at e_; omega) hJms (IntKind.wrap .i64 (1 + ((bringI x322.node 4)))) (((markI (IntKind.wrap .i64 (1 + ((bringI x322.seq 6)))) ((x322.b &&& (1 : UInt8))))))) ?_; rintro v330 G O331 w hg hC hB ⟨o332, q333, rfl, h334, rfl⟩
        replace hl := hl.mono hg; replace hr327 := hr327.mono hg
        replace hC : Cx w0 G0 G w ⟨[], [(b8, o332), (l9, q333)]⟩ := hC
        replace hB : Bxs G w w0.heap.size [] ⟨[], [(b8, o332), (l9, q333)]⟩ := hB
        refine wlNil ?_
        refine wcOf ?_
        refine wcRegion ?_
        refine wlVal (opMove rfl) rfl ?_
        refine wlVal (opIncr rfl rfl (incr_ok (of_decide_eq_true h10) hl.le)) rfl ?_
        refine wlVal (opAssign rfl) rfl ?_
        refine wlRound ?_
        exact (IH0 (k + 1, o332, q333, ((voteM ms (IntKind.wrap .i64 (1 + ((bringI x322.node 4)))) (((markI (IntKind.wrap .i64 (1 + ((bringI x322.seq 6)))) ((x322.b &&& (1 : UInt8))))))).1)) _ _ ⟨hC, hB, hl, h334, (rs_step hJ _ _)⟩ (by have := of_decide_eq_true h10; show l.length - (k + 1) < l.length - k; omega)).sub (fun _ ha => ((((ha.start.cons ha (t := 0) rfl).cons ha (t := 1) rfl).cons ha (t := 5) rfl).cons ha (t := 6) rfl))

end Go.Proofs.Ytbmanooiphghmaa
