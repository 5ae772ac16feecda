/- What functions of the marks seat return, part 10. No condition. -/
import Derived.Test.YtbmanooiphghmaaMkG9
import Derived.Test.YtbmanooiphghmaaMkRel
set_option linter.all false
namespace Go.Proofs.Ytbmanooiphghmaa
open Go Go.Gx Go.RowKit
theorem co20 : callOk Try.prog 20 = true := by kernel_rfl
theorem co42 : callOk Try.prog 42 = true := by kernel_rfl
theorem co21 : callOk Try.prog 21 = true := by kernel_rfl
theorem co43 : callOk Try.prog 43 = true := by kernel_rfl
theorem ub4 : Try.prog.underlying 4 = some .bool := by kernel_rfl
theorem co23 : callOk Try.prog 23 = true := by kernel_rfl
theorem co44 : callOk Try.prog 44 = true := by kernel_rfl
theorem co22 : callOk Try.prog 22 = true := by kernel_rfl
theorem co45 : callOk Try.prog 45 = true := by kernel_rfl
theorem co24 : callOk Try.prog 24 = true := by kernel_rfl
theorem sz3 : (Try.prog.info? 3).map (·.size) = some 1 := by kernel_rfl
theorem tells_ret (G0 : Gh) (w0 : World) (hw : Holds G0 w0) (bm lm : Nat) (om qm : Obj) (m : MSt) (hbm : HasO G0 bm om) (hlm : HasO G0 lm qm) (hm : MarksO G0 om qm lm m) (br lr : Nat) (or qr : Obj) (r : RSt) (hbr : HasO G0 br or) (hlr : HasO G0 lr qr) (hr : RMarksO G0 or qr lr r) (hR : Rel m r) :
    RetS Try.prog 16 #[.pointer (some ⟨bm, 0, none⟩), .pointer (some ⟨br, 0, none⟩)] G0 w0 (.bool true) := by
  have hC := Cx.refl hw
  have hB : Bxs G0 w0 w0.heap.size [] := Bxs.nil _ _ _
  obtain ⟨v1, e2, hs3, hM4, hi5⟩ := id hm
  have him := hi5
  obtain ⟨A6, cap7, rfl⟩ := hs3.form
  have hF8 : RowG G0 bm 0 ((.int .i64 m.crew.faults) :: ((.slice A6 m.crew.nodes.length cap7) :: ((.int .i64 m.low.seq) :: (m.low.dig.cells ++ ((.map (some lm)) :: []))))) := HasO.row (T := 64) (by rw [← e2]; exact hbm)
  obtain ⟨v9, v10, cs11, e12, hs13, e14, hO15, hn16⟩ := id hr
  have hir := hn16
  obtain ⟨A17, cap18, rfl⟩ := hs13.form
  have hs19 := hO15.frozen (by rw [← e14]; exact hlr) (by rw [hn16.1]; exact hs13.le)
  obtain ⟨A20, cap21, rfl⟩ := hs19.form
  have hF22 : RowG G0 br 0 ((.int .i64 r.crew.faults) :: ((.slice A17 r.crew.nodes.length cap18) :: ((.int .i64 r.mark.seq) :: (r.mark.dig.cells ++ ((.slice A20 r.l.length cap21) :: []))))) := HasO.row (T := 70) (by rw [← e12]; exact hbr)
  refine callsOf Try.func16 rfl _ Try.ntmps16 rfl _ (argsCons (argsCons argsNil (t := 0) rfl) (t := 1) rfl) ?_; intro Q0 hQ
  refine wcSeq ?_
  refine wcRegion ?_
  refine wlVal (opAssign rfl) rfl ?_
  refine wlThen ?_
  refine wcSeq ?_
  refine wcRegion ?_
  refine wlVal (opMove rfl) rfl ?_
  refine wlCallS hC hB rfl co20 rfl rfl (stable_ret _ _ hC.holds bm lm _ _ m hbm hlm hm) ?_; intro w hk hC hB
  refine wlVal (opMove rfl) rfl ?_
  refine wlVal (opExtract rfl rfl) rfl ?_
  refine wlVal (opExtract rfl rfl) rfl ?_
  refine wlAlloc hC hB zero28 rfl ?_; intro b23 w hk hC hB
  refine wlStore 0 (vs := (((gR (lists m) (most m.crew)).1)).cells) (cs := ((.int .i64 0) :: (Dig.zero.cells ++ []))) (cs' := (((gR (lists m) (most m.crew)).1)).cells) hC hB rfl rfl rfl sz28 rfl (by simp [Mark.cells, Do.cells, Word.cells]) (by simp [Mark.cells, Do.cells, Word.cells, Value.oneCell']) (by simp [Mark.cells, Do.cells, Word.cells]) (by simp [Mark.cells, Do.cells, Word.cells]) rfl ?_; intro w hC hB
  refine wlVal (opAssign rfl) rfl ?_
  refine wlThen ?_
  refine wcSeq ?_
  refine wcRegion ?_
  refine wlVal (opMove rfl) rfl ?_
  refine wlCallS hC hB rfl co42 rfl rfl (rstable_ret _ _ hC.holds br lr _ _ r hbr hlr hr) ?_; intro w hk hC hB
  refine wlVal (opMove rfl) rfl ?_
  refine wlVal (opExtract rfl rfl) rfl ?_
  refine wlVal (opExtract rfl rfl) rfl ?_
  refine wlAlloc hC hB zero28 rfl ?_; intro b24 w hk hC hB
  refine wlStore 0 (vs := (((gR r.l (most r.crew)).1)).cells) (cs := ((.int .i64 0) :: (Dig.zero.cells ++ []))) (cs' := (((gR r.l (most r.crew)).1)).cells) hC hB rfl rfl rfl sz28 rfl (by simp [Mark.cells, Do.cells, Word.cells]) (by simp [Mark.cells, Do.cells, Word.cells, Value.oneCell']) (by simp [Mark.cells, Do.cells, Word.cells]) (by simp [Mark.cells, Do.cells, Word.cells]) rfl ?_; intro w hC hB
  refine wlVal (opAssign rfl) rfl ?_
  refine wlThen ?_
  refine wcSeq ?_
  refine wcRegion ?_
  refine wlVal (opMove rfl) rfl ?_
  refine wlCallS hC hB rfl co21 rfl rfl (known_ret _ _ hC.holds bm lm _ _ m hbm hlm hm) ?_; intro w hk hC hB
  refine wlVal (opMove rfl) rfl ?_
  refine wlVal (opExtract rfl rfl) rfl ?_
  refine wlVal (opExtract rfl rfl) rfl ?_
  refine wlAlloc hC hB zero28 rfl ?_; intro b25 w hk hC hB
  refine wlStore 0 (vs := (((gR (lists m) (some_ m.crew)).1)).cells) (cs := ((.int .i64 0) :: (Dig.zero.cells ++ []))) (cs' := (((gR (lists m) (some_ m.crew)).1)).cells) hC hB rfl rfl rfl sz28 rfl (by simp [Mark.cells, Do.cells, Word.cells]) (by simp [Mark.cells, Do.cells, Word.cells, Value.oneCell']) (by simp [Mark.cells, Do.cells, Word.cells]) (by simp [Mark.cells, Do.cells, Word.cells]) rfl ?_; intro w hC hB
  refine wlVal (opAssign rfl) rfl ?_
  refine wlThen ?_
  refine wcSeq ?_
  refine wcRegion ?_
  refine wlVal (opMove rfl) rfl ?_
  refine wlCallS hC hB rfl co43 rfl rfl (rknown_ret _ _ hC.holds br lr _ _ r hbr hlr hr) ?_; intro w hk hC hB
  refine wlVal (opMove rfl) rfl ?_
  refine wlVal (opExtract rfl rfl) rfl ?_
  refine wlVal (opExtract rfl rfl) rfl ?_
  refine wlAlloc hC hB zero28 rfl ?_; intro b26 w hk hC hB
  refine wlStore 0 (vs := (((gR r.l (some_ r.crew)).1)).cells) (cs := ((.int .i64 0) :: (Dig.zero.cells ++ []))) (cs' := (((gR r.l (some_ r.crew)).1)).cells) hC hB rfl rfl rfl sz28 rfl (by simp [Mark.cells, Do.cells, Word.cells]) (by simp [Mark.cells, Do.cells, Word.cells, Value.oneCell']) (by simp [Mark.cells, Do.cells, Word.cells]) (by simp [Mark.cells, Do.cells, Word.cells]) rfl ?_; intro w hC hB
  refine wlVal (opAssign rfl) rfl ?_
  refine wlThen ?_
  refine wcSeq ?_
  refine wcSeq ?_
  refine wcRegion ?_
  refine wlVal (opLoadRow (cs := (((gR (lists m) (most m.crew)).1)).cells) rfl (hB.range (i := 3) (m := 33) rfl (by simp [Mark.cells, Do.cells, Word.cells])) row28 (by simp [Mark.cells, Do.cells, Word.cells])) rfl ?_
  refine wlVal (opLoadRow (cs := (((gR r.l (most r.crew)).1)).cells) rfl (hB.range (i := 2) (m := 33) rfl (by simp [Mark.cells, Do.cells, Word.cells])) row28 (by simp [Mark.cells, Do.cells, Word.cells])) rfl ?_
  refine wlVal (opNeRow (eq28 _ (((gR (lists m) (most m.crew)).1)) (((gR r.l (most r.crew)).1))) eg28 rfl rfl) rfl ?_
  refine wlVal (opMove rfl) rfl ?_
  cases h27 : decide (((gR (lists m) (most m.crew)).1) = ((gR r.l (most r.crew)).1))
  · skip
    exact absurd h27 (by simp [hR.crew, hR.gr, hR.low, hR.of])
  · skip
    refine wlOn rfl rfl ?_
    refine wlVal (opMove rfl) rfl ?_
    refine wlOn rfl rfl ?_
    refine wlVal (opMove rfl) rfl ?_
    refine wlOn rfl rfl ?_
    refine wlVal (opNeBool ub4 rfl rfl) rfl ?_
    refine wlVal (opPickF rfl rfl) rfl ?_
    refine wlVal (opMove rfl) rfl ?_
    cases h28 : (((gR (lists m) (most m.crew)).2)) != (((gR r.l (most r.crew)).2))
    · skip
      refine wlOn rfl rfl ?_
      refine wlVal (opLoadRow (cs := (((gR (lists m) (some_ m.crew)).1)).cells) rfl (hB.range (i := 1) (m := 33) rfl (by simp [Mark.cells, Do.cells, Word.cells])) row28 (by simp [Mark.cells, Do.cells, Word.cells])) rfl ?_
      refine wlOn rfl rfl ?_
      refine wlVal (opLoadRow (cs := (((gR r.l (some_ r.crew)).1)).cells) rfl (hB.range (i := 0) (m := 33) rfl (by simp [Mark.cells, Do.cells, Word.cells])) row28 (by simp [Mark.cells, Do.cells, Word.cells])) rfl ?_
      refine wlOn rfl rfl ?_
      refine wlVal (opNeRow (eq28 _ (((gR (lists m) (some_ m.crew)).1)) (((gR r.l (some_ r.crew)).1))) eg28 rfl rfl) rfl ?_
      refine wlVal (opPickF rfl rfl) rfl ?_
      refine wlVal (opMove rfl) rfl ?_
      cases h29 : decide (((gR (lists m) (some_ m.crew)).1) = ((gR r.l (some_ r.crew)).1))
      · skip
        exact absurd h29 (by simp [hR.crew, hR.gr, hR.low, hR.of])
      · skip
        refine wlOn rfl rfl ?_
        refine wlVal (opMove rfl) rfl ?_
        refine wlOn rfl rfl ?_
        refine wlVal (opMove rfl) rfl ?_
        refine wlOn rfl rfl ?_
        refine wlVal (opNeBool ub4 rfl rfl) rfl ?_
        refine wlVal (opPickF rfl rfl) rfl ?_
        refine wlVal (opMove rfl) rfl ?_
        cases h30 : (((gR (lists m) (some_ m.crew)).2)) != (((gR r.l (some_ r.crew)).2))
        · skip
          refine wlOn rfl rfl ?_
          refine wlVal (opMove rfl) rfl ?_
          refine wlOn rfl rfl ?_
          refine wlCallS hC hB rfl co23 rfl rfl (low_ret _ _ hC.holds bm lm _ _ m hbm hlm hm) ?_; intro w hk hC hB
          refine wlOn rfl rfl ?_
          refine wlVal (opMove rfl) rfl ?_
          refine wlOn rfl rfl ?_
          refine wlCallS hC hB rfl co44 rfl rfl (rlow_ret _ _ hC.holds br lr _ _ r hbr hlr hr) ?_; intro w hk hC hB
          refine wlOn rfl rfl ?_
          refine wlVal (opNeRow (eq28 _ m.low r.mark) eg28 rfl rfl) rfl ?_
          refine wlVal (opPickF rfl rfl) rfl ?_
          refine wlThen ?_
          cases h31 : decide (m.low = r.mark)
          · skip
            exact absurd h31 (by simp [hR.crew, hR.gr, hR.low, hR.of])
          · skip
            refine wcCondF rfl ?_
            refine wcSkip ?_
            refine wcOf ?_
            refine wcSeq ?_
            refine wcSeq ?_
            refine wcRegion ?_
            refine wlVal (opAssign rfl) rfl ?_
            refine wlThen ?_
            refine wcBlock ?_
            refine WC.sub (wrInd (ι := Nat) (fun k => 30 - k) (fun k G w => Cx w0 G0 G w ∧ Bxs G w w0.heap.size [(b26, 28, (((gR r.l (some_ r.crew)).1)).cells), (b25, 28, (((gR (lists m) (some_ m.crew)).1)).cells), (b24, 28, (((gR r.l (most r.crew)).1)).cells), (b23, 28, (((gR (lists m) (most m.crew)).1)).cells)] ∧ Sl G (.slice A6 m.crew.nodes.length cap7) m.crew.nodes ∧ MpO kI G qm m.list ∧ HasO G bm om ∧ HasO G lm qm ∧ MarksO G om qm lm m ∧ Sl G (.slice A17 r.crew.nodes.length cap18) r.crew.nodes ∧ Sl G (.slice A20 r.l.length cap21) r.l ∧ HasO G br or ∧ HasO G lr qr ∧ RMarksO G or qr lr r ∧ RowG G bm 0 ((.int .i64 m.crew.faults) :: ((.slice A6 m.crew.nodes.length cap7) :: ((.int .i64 m.low.seq) :: (m.low.dig.cells ++ ((.map (some lm)) :: []))))) ∧ RowG G br 0 ((.int .i64 r.crew.faults) :: ((.slice A17 r.crew.nodes.length cap18) :: ((.int .i64 r.mark.seq) :: (r.mark.dig.cells ++ ((.slice A20 r.l.length cap21) :: [])))))) (fun k => (((Env.nil.put 0 (.pointer (some ⟨bm, 0, none⟩))).put 1 (.pointer (some ⟨br, 0, none⟩))).put 13 (.int .i64 (((k : Nat) : Int))))) ?_ (0) _ _ ⟨hC, hB, hs3, hM4, hbm, hlm, hm, hs13, hs19, hbr, hlr, hr, hF8, hF22⟩) (fun _ ha => (((ha.start.cons ha (t := 0) rfl).cons ha (t := 1) rfl).cons ha (t := 13) rfl))
            rintro k G w N0 IH0 ⟨hC, hB, hs3, hM4, hbm, hlm, hm, hs13, hs19, hbr, hlr, hr, hF8, hF22⟩
            show WC _ _ _ _ (((Env.nil.put 0 (.pointer (some ⟨bm, 0, none⟩))).put 1 (.pointer (some ⟨br, 0, none⟩))).put 13 (.int .i64 (((k : Nat) : Int)))) w
            refine wcSeq ?_
            refine wcSeq ?_
            refine wcRegion ?_
            refine wlVal (opMove rfl) rfl ?_
            refine wlVal (opLssN (b := 30) rfl rfl) rfl ?_
            refine wlThen ?_
            cases h32 : decide (k < 30)
            · skip
              refine wcCondF rfl ?_
              refine wcExit ?_
              refine wcOf ?_
              refine wcSeq ?_
              refine wcRegion ?_
              refine wlVal (opAssign rfl) rfl ?_
              refine wlThen ?_
              refine wcRet ?_
              exact fun ac_ ha => hQ _ _ _ (results1 ha rfl rfl) ha.df (endS hC hw rfl)
            · skip
              refine wcCondT rfl ?_
              refine wcSkip ?_
              refine wcOf ?_
              refine wcSeq ?_
              refine wcBlock ?_
              refine wcSeq ?_
              refine wcRegion ?_
              refine wlVal (opMove rfl) rfl ?_
              refine wlVal (opMove rfl) rfl ?_
              refine wlCallO (bl := [(b26, 28, (((gR r.l (some_ r.crew)).1)).cells), (b25, 28, (((gR (lists m) (some_ m.crew)).1)).cells), (b24, 28, (((gR r.l (most r.crew)).1)).cells), (b23, 28, (((gR (lists m) (most m.crew)).1)).cells)]) (r := []) hC hB rfl co22 rfl rfl (of_ret _ _ hC.holds bm lm _ _ m hbm hlm hm (((k : Nat) : Int))) ?_; rintro v37 G o35 w hk hC hB ⟨A33, cap34, rfl, hO36⟩
              replace hs3 := hs3.mono hk.gle; replace hM4 := hM4.mono hk.gle; replace hbm := hbm.mono hk.gle; replace hlm := hlm.mono hk.gle; replace hm := hm.mono hk.gle; replace hs13 := hs13.mono hk.gle; replace hs19 := hs19.mono hk.gle; replace hbr := hbr.mono hk.gle; replace hlr := hlr.mono hk.gle; replace hr := hr.mono hk.gle
              replace hF8 := hF8.mono hk.gle
              replace hF22 := hF22.mono hk.gle
              refine wlVal (opAssign rfl) rfl ?_
              refine wlThen ?_
              refine wcSeq ?_
              refine wcSeq ?_
              refine wcRegion ?_
              refine wlVal (opMove rfl) rfl ?_
              refine wlVal (opMove rfl) rfl ?_
              refine wlVal (opMove rfl) rfl ?_
              refine wlCallO (bl := [(b26, 28, (((gR r.l (some_ r.crew)).1)).cells), (b25, 28, (((gR (lists m) (some_ m.crew)).1)).cells), (b24, 28, (((gR r.l (most r.crew)).1)).cells), (b23, 28, (((gR (lists m) (most m.crew)).1)).cells)]) (r := (Option.toList o35 ++ [])) hC hB rfl co45 rfl rfl (rof_ret _ _ hC.holds br lr _ _ r hbr hlr hr (((k : Nat) : Int))) ?_; rintro v42 G o40 w hk hC hB ⟨A38, cap39, rfl, hO41⟩
              replace hs3 := hs3.mono hk.gle; replace hM4 := hM4.mono hk.gle; replace hbm := hbm.mono hk.gle; replace hlm := hlm.mono hk.gle; replace hm := hm.mono hk.gle; replace hs13 := hs13.mono hk.gle; replace hs19 := hs19.mono hk.gle; replace hbr := hbr.mono hk.gle; replace hlr := hlr.mono hk.gle; replace hr := hr.mono hk.gle; replace hO36 := hO36.mono hk.gle
              replace hF8 := hF8.mono hk.gle
              replace hF22 := hF22.mono hk.gle
              replace hB := Bxs.swapOwn (bl := [(b26, 28, (((gR r.l (some_ r.crew)).1)).cells), (b25, 28, (((gR (lists m) (some_ m.crew)).1)).cells), (b24, 28, (((gR r.l (most r.crew)).1)).cells), (b23, 28, (((gR (lists m) (most m.crew)).1)).cells)]) (A := Option.toList o40) (B := Option.toList o35) (r := []) hB
              replace hB := Bxs.swapOwn (bl := [(b26, 28, (((gR r.l (some_ r.crew)).1)).cells), (b25, 28, (((gR (lists m) (some_ m.crew)).1)).cells), (b24, 28, (((gR r.l (most r.crew)).1)).cells), (b23, 28, (((gR (lists m) (most m.crew)).1)).cells)]) (A := Option.toList o35) (B := Option.toList o40) (r := []) hB
              obtain ⟨G, hg44, hC, hB, hs43⟩ := Ow.freeze' (bl := [(b26, 28, (((gR r.l (some_ r.crew)).1)).cells), (b25, 28, (((gR (lists m) (some_ m.crew)).1)).cells), (b24, 28, (((gR r.l (most r.crew)).1)).cells), (b23, 28, (((gR (lists m) (most m.crew)).1)).cells)]) (r := (Option.toList o35 ++ [])) hO41 hC (Nat.le_refl _) hB (by have q := him.get ((k : Nat) : Int); try rw [hR.of] at q; unfold maxL; (try rw [hR.of]); omega)
              replace hs3 := hs3.mono hg44; replace hM4 := hM4.mono hg44; replace hbm := hbm.mono hg44; replace hlm := hlm.mono hg44; replace hm := hm.mono hg44; replace hs13 := hs13.mono hg44; replace hs19 := hs19.mono hg44; replace hbr := hbr.mono hg44; replace hlr := hlr.mono hg44; replace hr := hr.mono hg44; replace hO36 := hO36.mono hg44
              replace hF8 := hF8.mono hg44
              replace hF22 := hF22.mono hg44
              refine wlCallS hC hB rfl co24 rfl rfl (RetS.borrow (bl := [(b26, 28, (((gR r.l (some_ r.crew)).1)).cells), (b25, 28, (((gR (lists m) (some_ m.crew)).1)).cells), (b24, 28, (((gR r.l (most r.crew)).1)).cells), (b23, 28, (((gR (lists m) (most m.crew)).1)).cells)]) (r := []) hO36 hC hB (by have q := him.get ((k : Nat) : Int); try rw [hR.of] at q; unfold maxL; (try rw [hR.of]); omega) (fun G_ hglent hhlent hlent => rsame_ret _ _ hhlent _ ((((mget m.list (((k : Nat) : Int))).getD []))) hlent _ (((rofL r (((k : Nat) : Int))))) (hs43.mono hglent))) ?_; intro w hk hC hB
              refine wlVal (opNot rfl) rfl ?_
              refine wlThen ?_
              cases h45 : (decide (((((mget m.list (((k : Nat) : Int))).getD []))) = (((rofL r (((k : Nat) : Int)))))))
              · skip
                exact absurd h45 (by simp [hR.crew, hR.gr, hR.low, hR.of])
              · skip
                refine wcCondF rfl ?_
                refine wcSkip ?_
                refine wcOf ?_
                refine wcSeq ?_
                refine wcRegion ?_
                refine wlVal (opAssign rfl) rfl ?_
                refine wlThen ?_
                refine wcBlock ?_
                refine WC.sub (wrInd (ι := Nat × (Option Addr) × Nat × (Option Bx) × (List Mark)) (fun i => match i with | (i, curA, curC, curO, cur) => cur.length - i) (fun i G w => match i with | (i, curA, curC, curO, cur) => Cx w0 G0 G w ∧ Bxs G w w0.heap.size ([(b26, 28, (((gR r.l (some_ r.crew)).1)).cells), (b25, 28, (((gR (lists m) (some_ m.crew)).1)).cells), (b24, 28, (((gR r.l (most r.crew)).1)).cells), (b23, 28, (((gR (lists m) (most m.crew)).1)).cells)] ++ (Option.toList curO ++ [])) ∧ Sl G (.slice A6 m.crew.nodes.length cap7) m.crew.nodes ∧ MpO kI G qm m.list ∧ HasO G bm om ∧ HasO G lm qm ∧ MarksO G om qm lm m ∧ Sl G (.slice A17 r.crew.nodes.length cap18) r.crew.nodes ∧ Sl G (.slice A20 r.l.length cap21) r.l ∧ HasO G br or ∧ HasO G lr qr ∧ RMarksO G or qr lr r ∧ Sl G (.slice A38 ((((rofL r (((k : Nat) : Int))))).length) cap39) (((rofL r (((k : Nat) : Int))))) ∧ Ow G curO 28 (.slice curA cur.length curC) cur ∧ RowG G bm 0 ((.int .i64 m.crew.faults) :: ((.slice A6 m.crew.nodes.length cap7) :: ((.int .i64 m.low.seq) :: (m.low.dig.cells ++ ((.map (some lm)) :: []))))) ∧ RowG G br 0 ((.int .i64 r.crew.faults) :: ((.slice A17 r.crew.nodes.length cap18) :: ((.int .i64 r.mark.seq) :: (r.mark.dig.cells ++ ((.slice A20 r.l.length cap21) :: []))))) ∧ cur.length ≤ 4) (fun i => match i with | (i, curA, curC, curO, cur) => (((((Env.nil.put 0 (.pointer (some ⟨bm, 0, none⟩))).put 1 (.pointer (some ⟨br, 0, none⟩))).put 13 (.int .i64 (((k : Nat) : Int)))).put 14 (.slice curA cur.length curC)).put 15 (.int .i64 (((i : Nat) : Int))))) ?_ (0, A33, cap34, o35, (((mget m.list (((k : Nat) : Int))).getD []))) _ _ ⟨hC, hB, hs3, hM4, hbm, hlm, hm, hs13, hs19, hbr, hlr, hr, hs43, hO36, hF8, hF22, (him.get _)⟩) (fun _ ha => (((((ha.start.cons ha (t := 0) rfl).cons ha (t := 1) rfl).cons ha (t := 13) rfl).cons ha (t := 14) rfl).cons ha (t := 15) rfl))
                rintro ⟨i, curA, curC, curO, cur⟩ G w N1 IH1 ⟨hC, hB, hs3, hM4, hbm, hlm, hm, hs13, hs19, hbr, hlr, hr, hs43, hOcur, hF8, hF22, hcl⟩
                show WC _ _ _ _ (((((Env.nil.put 0 (.pointer (some ⟨bm, 0, none⟩))).put 1 (.pointer (some ⟨br, 0, none⟩))).put 13 (.int .i64 (((k : Nat) : Int)))).put 14 (.slice curA cur.length curC)).put 15 (.int .i64 (((i : Nat) : Int)))) w
                refine wcSeq ?_
                refine wcSeq ?_
                refine wcRegion ?_
                refine wlVal (opMove rfl) rfl ?_
                refine wlVal (opMove rfl) rfl ?_
                refine wlVal (opLen rfl isl54) rfl ?_
                refine wlVal (opLssN rfl rfl) rfl ?_
                refine wlThen ?_
                cases h46 : decide (i < cur.length)
                · skip
                  refine wcCondF rfl ?_
                  refine wcExit ?_
                  refine wcOf ?_
                  refine wcRegion ?_
                  refine wlVal (opMove rfl) rfl ?_
                  refine wlVal (opIncr rfl rfl (by have q := of_decide_eq_true h32; omega)) rfl ?_
                  refine wlVal (opAssign rfl) rfl ?_
                  refine wlRound ?_
                  replace hB := hB.sub ((List.sublist_append_right _ _).append_left _)
                  exact (IH0 (k + 1) _ _ ⟨hC, hB, hs3, hM4, hbm, hlm, hm, hs13, hs19, hbr, hlr, hr, hF8, hF22⟩ (by have q := of_decide_eq_true h32; show 30 - (k + 1) < 30 - k; omega)).sub (fun _ ha => (((ha.start.cons ha (t := 0) rfl).cons ha (t := 1) rfl).cons ha (t := 13) rfl))
                · skip
                  refine wcCondT rfl ?_
                  refine wcSkip ?_
                  refine wcOf ?_
                  refine wcSeq ?_
                  refine wcBlock ?_
                  refine wcRegion ?_
                  refine wlVal (opMove rfl) rfl ?_
                  refine wlVal (opMove rfl) rfl ?_
                  obtain ⟨x47, hx48⟩ : ∃ y_, cur[i]? = some y_ := ⟨_, List.getElem?_eq_getElem (of_decide_eq_true h46)⟩
                  obtain ⟨g49, cs50, rfl, rfl⟩ := hOcur.addr (of_decide_eq_true h46)
                  refine wlVal (opIndexAddr rfl rfl slo54 (of_decide_eq_true h46)) rfl ?_
                  refine wlVal (opFieldAddr rfl fo28_0) rfl ?_
                  refine wlStoreOw (α := Mark) (bl := [(b26, 28, (((gR r.l (some_ r.crew)).1)).cells), (b25, 28, (((gR (lists m) (some_ m.crew)).1)).cells), (b24, 28, (((gR r.l (most r.crew)).1)).cells), (b23, 28, (((gR (lists m) (most m.crew)).1)).cells)]) (r := []) (vs := [(.int .i64 ((-1)))]) (off := 0) (y := (Mark.mk ((-1)) x47.dig)) hC hB hOcur hx48 rfl (by show _ = _ * 33 + 0; omega) rfl sz3 rfl rfl rfl (by decide) (fun row h => by obtain rfl := h; rfl) rfl ?_; intro cs51 w hC hB hO52
                  refine wlNil ?_
                  refine wcOf ?_
                  refine wcRegion ?_
                  refine wlVal (opMove rfl) rfl ?_
                  refine wlVal (opIncr rfl rfl (by have q := of_decide_eq_true h46; omega)) rfl ?_
                  refine wlVal (opAssign rfl) rfl ?_
                  refine wlRound ?_
                  exact (IH1 (i + 1, (some ⟨g49, 0, none⟩), curC, (some (g49, 28, cs51)), (List.set cur i (Mark.mk ((-1)) x47.dig))) _ _ ⟨hC, hB, hs3, hM4, hbm, hlm, hm, hs13, hs19, hbr, hlr, hr, hs43, (by simpa using hO52), hF8, hF22, (by simpa using hcl)⟩ (by have q := of_decide_eq_true h46; simp; omega)).sub (fun _ ha => (((((ha.start.cons ha (t := 0) rfl).cons ha (t := 1) rfl).cons ha (t := 13) rfl).cons ha (t := 14) (congrArg (fun n_ => some (Value.slice (some ⟨g49, 0, none⟩) n_ curC)) (by simp))).cons ha (t := 15) rfl))
        · skip
          exact absurd h30 (by simp [hR.crew, hR.gr, hR.low, hR.of])
    · skip
      exact absurd h28 (by simp [hR.crew, hR.gr, hR.low, hR.of])

end Go.Proofs.Ytbmanooiphghmaa
