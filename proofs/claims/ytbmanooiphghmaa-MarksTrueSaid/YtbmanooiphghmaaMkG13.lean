/- What functions of the marks seat return, part 13. No condition. -/
import Derived.Test.YtbmanooiphghmaaMkG12
import Derived.Test.YtbmanooiphghmaaMkLaws
set_option linter.all false
namespace Go.Proofs.Ytbmanooiphghmaa
open Go Go.Gx Go.RowKit
theorem isl45 : isSlice Try.prog 45 = true := by kernel_rfl
theorem slo45 : sliceOk Try.prog 45 48 3 = true := by kernel_rfl
theorem fo48_0 : fieldOk Try.prog 48 0 0 = true := by kernel_rfl
theorem fo48_2 : fieldOk Try.prog 48 2 2 = true := by kernel_rfl
theorem fo48_1 : fieldOk Try.prog 48 1 1 = true := by kernel_rfl
theorem fi28_1 : fieldIs Try.prog 28 1 26 1 = true := by kernel_rfl
theorem fresh12_ret (G0 : Gh) (w0 : World) (hw : Holds G0 w0) (f : Int) (h12 : f = 1 ∨ f = 2) :
    RetN Try.prog 18 #[.int .i64 f] G0 w0 (fun G L v => ∃ b l o q, L = [(b, o), (l, q)] ∧ MarksO G o q l ((MSt.mk (crewI f) (Mark.mk 0 Dig.zero) [])) ∧ v = (.pointer (some ⟨b, 0, none⟩))) := by
  rcases h12 with rfl | rfl
  · exact fresh1_ret G0 w0 hw
  · exact fresh2_ret G0 w0 hw

theorem true_ret (G0 : Gh) (w0 : World) (hw : Holds G0 w0) (faults : Int) (vl : Value) (l : List Word) (hl : Sl G0 vl l) :
    RetS Try.prog 4 #[.int .i64 faults, vl] G0 w0 (.bool true) := by
  have hC := Cx.refl hw
  have hB : Bxs G0 w0 w0.heap.size [] := Bxs.nil _ _ _
  obtain ⟨A1, cap2, rfl⟩ := hl.form
  have h12 := f12 faults
  refine callsOf Try.func4 rfl _ Try.ntmps4 rfl _ (argsCons (argsCons argsNil (t := 0) rfl) (t := 1) rfl) ?_; intro Q0 hQ
  refine wcSeq ?_
  refine wcRegion ?_
  refine wlVal (opAssign rfl) rfl ?_
  refine wlThen ?_
  refine wcSeq ?_
  refine wcRegion ?_
  refine wlVal (opMove rfl) rfl ?_
  refine wlCallS hC hB rfl co11 rfl rfl (bring_ret _ _ hC.holds faults 2) ?_; intro w hk hC hB
  refine wlVal (opAdd rfl rfl) rfl ?_
  refine wlVal (opAssign rfl) rfl ?_
  refine wlThen ?_
  refine wcSeq ?_
  refine wcRegion ?_
  refine wlVal (opMove rfl) rfl ?_
  refine wlCallN (m := []) (B := []) hC hB rfl co18 rfl rfl (fresh12_ret _ _ hC.holds (IntKind.wrap .i64 (1 + ((bringI faults 2)))) h12) ?_; rintro v3 G O4 w hg hC hB ⟨b8, l9, o5, q6, rfl, h7, rfl⟩
  replace hl := hl.mono hg
  replace hC : Cx w0 G0 G w ⟨[], [(b8, o5), (l9, q6)]⟩ := hC
  replace hB : Bxs G w w0.heap.size [] ⟨[], [(b8, o5), (l9, q6)]⟩ := hB
  refine wlVal (opAssign rfl) rfl ?_
  refine wlThen ?_
  refine wcSeq ?_
  refine wcSeq ?_
  refine wcRegion ?_
  refine wlVal (opAssign rfl) rfl ?_
  refine wlThen ?_
  refine wcBlock ?_
  refine WC.sub (wrInd (ι := Nat × Obj × Obj × MSt) (fun i => match i with | (k, om, qm, ms) => l.length - k) (fun i G w => match i with | (k, om, qm, ms) => Cx w0 G0 G w ⟨[], [(b8, om), (l9, qm)]⟩ ∧ Bxs G w w0.heap.size [] ⟨[], [(b8, om), (l9, qm)]⟩ ∧ Sl G (.slice A1 l.length cap2) l ∧ MarksO G om qm l9 ms ∧ TrJ (IntKind.wrap .i64 (1 + bringI faults 2)) ms) (fun i => match i with | (k, om, qm, ms) => ((((Env.nil.put 1 (.slice A1 l.length cap2)).put 5 (.int .i64 (IntKind.wrap .i64 (1 + ((bringI faults 2)))))).put 6 (.pointer (some ⟨b8, 0, none⟩))).put 7 (.int .i64 (((k : Nat) : Int))))) ?_ (0, o5, q6, ((MSt.mk (crewI (IntKind.wrap .i64 (1 + ((bringI faults 2))))) (Mark.mk 0 Dig.zero) []))) _ _ ⟨hC, hB, hl, h7, tr_new⟩) (fun _ ha => ((((ha.start.cons ha (t := 1) rfl).cons ha (t := 5) rfl).cons ha (t := 6) rfl).cons ha (t := 7) rfl))
  rintro ⟨k, om, qm, ms⟩ G w N0 IH0 ⟨hC, hB, hl, hJms, hJ⟩
  show WC _ _ _ _ ((((Env.nil.put 1 (.slice A1 l.length cap2)).put 5 (.int .i64 (IntKind.wrap .i64 (1 + ((bringI faults 2)))))).put 6 (.pointer (some ⟨b8, 0, none⟩))).put 7 (.int .i64 (((k : Nat) : Int)))) w
  refine wcSeq ?_
  refine wcSeq ?_
  refine wcRegion ?_
  refine wlVal (opMove rfl) rfl ?_
  refine wlVal (opMove rfl) rfl ?_
  refine wlVal (opLen rfl isl45) rfl ?_
  refine wlVal (opLssN rfl rfl) rfl ?_
  refine wlVal (opMove rfl) rfl ?_
  cases h10 : decide (k < l.length)
  · skip
    refine wlOff rfl rfl rfl rfl ?_
    refine wlOff rfl rfl rfl rfl ?_
    refine wlVal (opPickF rfl rfl) rfl ?_
    refine wlThen ?_
    refine wcCondF rfl ?_
    refine wcExit ?_
    refine wcOf ?_
    refine wcSeq ?_
    refine wcRegion ?_
    refine wlCallS hC hB rfl co17 rfl rfl (awake_ret _ _ hC.holds ) ?_; intro w hk hC hB
    refine wlVal (opAssign rfl) rfl ?_
    refine wlThen ?_
    refine wcRet ?_
    exact fun ac_ ha => hQ _ _ _ (results1 ha rfl rfl) ha.df (endS hC hw rfl)
  · skip
    refine wlOn rfl rfl ?_
    refine wlVal (opMove rfl) rfl ?_
    refine wlOn rfl rfl ?_
    refine wlVal (opLssN (b := 80) rfl rfl) rfl ?_
    refine wlVal (opPickT rfl rfl) rfl ?_
    refine wlThen ?_
    cases h11 : decide (k < 80)
    · skip
      refine wcCondF rfl ?_
      refine wcExit ?_
      refine wcOf ?_
      refine wcSeq ?_
      refine wcRegion ?_
      refine wlCallS hC hB rfl co17 rfl rfl (awake_ret _ _ hC.holds ) ?_; intro w hk hC hB
      refine wlVal (opAssign rfl) rfl ?_
      refine wlThen ?_
      refine wcRet ?_
      exact fun ac_ ha => hQ _ _ _ (results1 ha rfl rfl) ha.df (endS hC hw rfl)
    · skip
      refine wcCondT rfl ?_
      refine wcSkip ?_
      refine wcOf ?_
      refine wcSeq ?_
      refine wcBlock ?_
      refine wcSeq ?_
      refine wcRegion ?_
      refine wlVal (opMove rfl) rfl ?_
      refine wlVal (opMove rfl) rfl ?_
      obtain ⟨x12, hx13⟩ : ∃ y_, l[k]? = some y_ := ⟨_, List.getElem?_eq_getElem (of_decide_eq_true h10)⟩
      obtain ⟨b14, o15, row16, hA19, hr17, hi18⟩ := hl.elem hx13; subst hA19
      obtain rfl := hi18
      refine wlVal (opIndexAddr rfl rfl slo45 (of_decide_eq_true h10)) rfl ?_
      refine wlVal (opFieldAddr rfl fo48_0) rfl ?_
      refine wlVal (opLoadOne (v := (.int .i64 x12.node)) rfl (RowG.cell0 hC.holds hr17 rfl) one3) rfl ?_
      refine wlVal (opMove rfl) rfl ?_
      refine wlVal (opMul rfl rfl) rfl ?_
      refine wlVal (opAdd rfl rfl) rfl ?_
      refine wlCallS hC hB rfl co11 rfl rfl (bring_ret _ _ hC.holds x12.node (IntKind.wrap .i64 (IntKind.wrap .i64 (3 * IntKind.wrap .i64 (1 + ((bringI faults 2)))) + 1))) ?_; intro w hk hC hB
      refine wlVal (opAssign rfl) rfl ?_
      refine wlThen ?_
      refine wcSeq ?_
      refine wcRegion ?_
      refine wlVal (opMove rfl) rfl ?_
      refine wlVal (opMove rfl) rfl ?_
      refine wlVal (opIndexAddr rfl rfl slo45 (of_decide_eq_true h10)) rfl ?_
      refine wlVal (opFieldAddr rfl fo48_2) rfl ?_
      refine wlVal (opLoadOne (v := (.int .u8 (((x12.b).toNat : Int)))) rfl (RowG.cell hC.holds hr17 (j := 2) rfl) one5) rfl ?_
      refine wlVal (opAssign rfl) rfl ?_
      refine wlThen ?_
      refine wcSeq ?_
      refine wcSeq ?_
      refine wcRegion ?_
      refine wlVal (opMove rfl) rfl ?_
      refine wlVal (opMove rfl) rfl ?_
      refine wlVal (opGeq rfl rfl) rfl ?_
      refine wlThen ?_
      cases h20 : decide (IntKind.wrap .i64 (1 + ((bringI faults 2))) ≤ ((bringI x12.node (IntKind.wrap .i64 (IntKind.wrap .i64 (3 * IntKind.wrap .i64 (1 + ((bringI faults 2)))) + 1)))))
      · skip
        refine wcCondF rfl ?_
        refine wcSkip ?_
        refine wcOf ?_
        refine wcSeq ?_
        refine wcRegion ?_
        refine wlVal (opMove rfl) rfl ?_
        refine wlVal (opMove rfl) rfl ?_
        refine wlVal (opAdd rfl rfl) rfl ?_
        refine wlVal (opMove rfl) rfl ?_
        refine wlVal (opMove rfl) rfl ?_
        refine wlVal (opIndexAddr rfl rfl slo45 (of_decide_eq_true h10)) rfl ?_
        refine wlVal (opFieldAddr rfl fo48_1) rfl ?_
        refine wlVal (opLoadOne (v := (.int .i64 x12.seq)) rfl (RowG.cell hC.holds hr17 (j := 1) rfl) one3) rfl ?_
        refine wlCallS hC hB rfl co11 rfl rfl (bring_ret _ _ hC.holds x12.seq 6) ?_; intro w hk hC hB
        refine wlVal (opAdd rfl rfl) rfl ?_
        refine wlVal (opMove rfl) rfl ?_
        refine wlCallS hC hB rfl co19 rfl rfl (mark_ret _ _ hC.holds (IntKind.wrap .i64 (1 + ((bringI x12.seq 6)))) x12.b) ?_; intro w hk hC hB
        refine wlCallM (A := []) (O := [(b8, om), (l9, qm)]) (B := []) hC hB rfl co12 rfl rfl (vote_ret _ _ hC.holds b8 l9 _ _ ms ⟨hC.heldAt 0 rfl, hC.heldG 0 rfl⟩ ⟨hC.heldAt 1 rfl, hC.heldG 1 rfl⟩ (by have e_ := hC.hnd; simp at e_; omega) hJms (IntKind.wrap .i64 (1 + ((bringI x12.node (IntKind.wrap .i64 (IntKind.wrap .i64 (3 * IntKind.wrap .i64 (1 + ((bringI faults 2)))) + 1)))))) (((markI (IntKind.wrap .i64 (1 + ((bringI x12.seq 6)))) x12.b)))) ?_; rintro v21 G O22 w hg hC hB ⟨o23, q24, rfl, h25, rfl⟩
        replace hl := hl.mono hg; replace hr17 := hr17.mono hg
        replace hC : Cx w0 G0 G w ⟨[], [(b8, o23), (l9, q24)]⟩ := hC
        replace hB : Bxs G w w0.heap.size [] ⟨[], [(b8, o23), (l9, q24)]⟩ := hB
        refine wlThen ?_
        refine wcSeq ?_
        refine wcRegion ?_
        refine wlVal (opMove rfl) rfl ?_
        refine wlCallS hC hB rfl co20 rfl rfl (RetS.lend hC (fun G_ hg_ hh_ hL_ => stable_ret _ _ hh_ b8 l9 _ _ (((voteM ms (IntKind.wrap .i64 (1 + ((bringI x12.node (IntKind.wrap .i64 (IntKind.wrap .i64 (3 * IntKind.wrap .i64 (1 + ((bringI faults 2)))) + 1)))))) (((markI (IntKind.wrap .i64 (1 + ((bringI x12.seq 6)))) x12.b)))).1)) (hL_ (b8, o23) (by simp)) (hL_ (l9, q24) (by simp)) (show MarksO G_ o23 q24 l9 (((voteM ms (IntKind.wrap .i64 (1 + ((bringI x12.node (IntKind.wrap .i64 (IntKind.wrap .i64 (3 * IntKind.wrap .i64 (1 + ((bringI faults 2)))) + 1)))))) (((markI (IntKind.wrap .i64 (1 + ((bringI x12.seq 6)))) x12.b)))).1)) from (h25.mono hg_)))) ?_; intro w hk hC hB
        refine wlVal (opMove rfl) rfl ?_
        refine wlVal (opExtract rfl rfl) rfl ?_
        refine wlVal (opExtract rfl rfl) rfl ?_
        refine wlAlloc hC hB zero28 rfl ?_; intro b26 w hk hC hB
        refine wlStore 0 (vs := (((gR (lists (((voteM ms (IntKind.wrap .i64 (1 + ((bringI x12.node (IntKind.wrap .i64 (IntKind.wrap .i64 (3 * IntKind.wrap .i64 (1 + ((bringI faults 2)))) + 1)))))) (((markI (IntKind.wrap .i64 (1 + ((bringI x12.seq 6)))) x12.b)))).1))) (most (((voteM ms (IntKind.wrap .i64 (1 + ((bringI x12.node (IntKind.wrap .i64 (IntKind.wrap .i64 (3 * IntKind.wrap .i64 (1 + ((bringI faults 2)))) + 1)))))) (((markI (IntKind.wrap .i64 (1 + ((bringI x12.seq 6)))) x12.b)))).1)).crew)).1)).cells) (cs := ((.int .i64 0) :: (Dig.zero.cells ++ []))) (cs' := (((gR (lists (((voteM ms (IntKind.wrap .i64 (1 + ((bringI x12.node (IntKind.wrap .i64 (IntKind.wrap .i64 (3 * IntKind.wrap .i64 (1 + ((bringI faults 2)))) + 1)))))) (((markI (IntKind.wrap .i64 (1 + ((bringI x12.seq 6)))) x12.b)))).1))) (most (((voteM ms (IntKind.wrap .i64 (1 + ((bringI x12.node (IntKind.wrap .i64 (IntKind.wrap .i64 (3 * IntKind.wrap .i64 (1 + ((bringI faults 2)))) + 1)))))) (((markI (IntKind.wrap .i64 (1 + ((bringI x12.seq 6)))) x12.b)))).1)).crew)).1)).cells) hC hB rfl rfl rfl sz28 rfl (by simp [Mark.cells, Do.cells, Word.cells]) (by simp [Mark.cells, Do.cells, Word.cells, Value.oneCell']) (by simp [Mark.cells, Do.cells, Word.cells]) (by simp [Mark.cells, Do.cells, Word.cells]) rfl ?_; intro w hC hB
        refine wlVal (opAssign rfl) rfl ?_
        refine wlThen ?_
        refine wcSeq ?_
        refine wcRegion ?_
        refine wlVal (opMove rfl) rfl ?_
        refine wlCallS hC hB rfl co21 rfl rfl (RetS.lend hC (fun G_ hg_ hh_ hL_ => known_ret _ _ hh_ b8 l9 _ _ (((voteM ms (IntKind.wrap .i64 (1 + ((bringI x12.node (IntKind.wrap .i64 (IntKind.wrap .i64 (3 * IntKind.wrap .i64 (1 + ((bringI faults 2)))) + 1)))))) (((markI (IntKind.wrap .i64 (1 + ((bringI x12.seq 6)))) x12.b)))).1)) (hL_ (b8, o23) (by simp)) (hL_ (l9, q24) (by simp)) (show MarksO G_ o23 q24 l9 (((voteM ms (IntKind.wrap .i64 (1 + ((bringI x12.node (IntKind.wrap .i64 (IntKind.wrap .i64 (3 * IntKind.wrap .i64 (1 + ((bringI faults 2)))) + 1)))))) (((markI (IntKind.wrap .i64 (1 + ((bringI x12.seq 6)))) x12.b)))).1)) from (h25.mono hg_)))) ?_; intro w hk hC hB
        refine wlVal (opMove rfl) rfl ?_
        refine wlVal (opExtract rfl rfl) rfl ?_
        refine wlVal (opExtract rfl rfl) rfl ?_
        refine wlAlloc hC hB zero28 rfl ?_; intro b27 w hk hC hB
        refine wlStore 0 (vs := (((gR (lists (((voteM ms (IntKind.wrap .i64 (1 + ((bringI x12.node (IntKind.wrap .i64 (IntKind.wrap .i64 (3 * IntKind.wrap .i64 (1 + ((bringI faults 2)))) + 1)))))) (((markI (IntKind.wrap .i64 (1 + ((bringI x12.seq 6)))) x12.b)))).1))) (some_ (((voteM ms (IntKind.wrap .i64 (1 + ((bringI x12.node (IntKind.wrap .i64 (IntKind.wrap .i64 (3 * IntKind.wrap .i64 (1 + ((bringI faults 2)))) + 1)))))) (((markI (IntKind.wrap .i64 (1 + ((bringI x12.seq 6)))) x12.b)))).1)).crew)).1)).cells) (cs := ((.int .i64 0) :: (Dig.zero.cells ++ []))) (cs' := (((gR (lists (((voteM ms (IntKind.wrap .i64 (1 + ((bringI x12.node (IntKind.wrap .i64 (IntKind.wrap .i64 (3 * IntKind.wrap .i64 (1 + ((bringI faults 2)))) + 1)))))) (((markI (IntKind.wrap .i64 (1 + ((bringI x12.seq 6)))) x12.b)))).1))) (some_ (((voteM ms (IntKind.wrap .i64 (1 + ((bringI x12.node (IntKind.wrap .i64 (IntKind.wrap .i64 (3 * IntKind.wrap .i64 (1 + ((bringI faults 2)))) + 1)))))) (((markI (IntKind.wrap .i64 (1 + ((bringI x12.seq 6)))) x12.b)))).1)).crew)).1)).cells) hC hB rfl rfl rfl sz28 rfl (by simp [Mark.cells, Do.cells, Word.cells]) (by simp [Mark.cells, Do.cells, Word.cells, Value.oneCell']) (by simp [Mark.cells, Do.cells, Word.cells]) (by simp [Mark.cells, Do.cells, Word.cells]) rfl ?_; intro w hC hB
        refine wlVal (opAssign rfl) rfl ?_
        refine wlThen ?_
        refine wcSeq ?_
        cases h28 : ((gR (lists (((voteM ms (IntKind.wrap .i64 (1 + ((bringI x12.node (IntKind.wrap .i64 (IntKind.wrap .i64 (3 * IntKind.wrap .i64 (1 + ((bringI faults 2)))) + 1)))))) (((markI (IntKind.wrap .i64 (1 + ((bringI x12.seq 6)))) x12.b)))).1))) (most (((voteM ms (IntKind.wrap .i64 (1 + ((bringI x12.node (IntKind.wrap .i64 (IntKind.wrap .i64 (3 * IntKind.wrap .i64 (1 + ((bringI faults 2)))) + 1)))))) (((markI (IntKind.wrap .i64 (1 + ((bringI x12.seq 6)))) x12.b)))).1)).crew)).2)
        · skip
          cases h29 : ((gR (lists (((voteM ms (IntKind.wrap .i64 (1 + ((bringI x12.node (IntKind.wrap .i64 (IntKind.wrap .i64 (3 * IntKind.wrap .i64 (1 + ((bringI faults 2)))) + 1)))))) (((markI (IntKind.wrap .i64 (1 + ((bringI x12.seq 6)))) x12.b)))).1))) (some_ (((voteM ms (IntKind.wrap .i64 (1 + ((bringI x12.node (IntKind.wrap .i64 (IntKind.wrap .i64 (3 * IntKind.wrap .i64 (1 + ((bringI faults 2)))) + 1)))))) (((markI (IntKind.wrap .i64 (1 + ((bringI x12.seq 6)))) x12.b)))).1)).crew)).2)
          · skip
            refine wcDrawT 28 fmix (by kernel_rfl) (by kernel_rfl) (by kernel_rfl) (by kernel_rfl) (vAt [(fun _ v_ => v_ = (.bool false)), (fun _ v_ => v_ = (.bool false)), (fun _ v_ => v_ = undef), (fun _ v_ => v_ = undef), (fun _ v_ => v_ = undef), (fun _ v_ => v_ = undef), (fun _ v_ => v_ = undef), (fun _ v_ => v_ = (.bool false)), (fun _ v_ => v_ = (.bool false)), (fun _ v_ => v_ = (.bool false)), (fun _ v_ => v_ = (.bool false)), (fun _ v_ => v_ = undef), (fun _ v_ => v_ = undef), (fun _ v_ => v_ = undef), (fun _ v_ => v_ = undef), (fun _ v_ => v_ = undef), (fun _ v_ => v_ = (.bool false)), (fun _ v_ => v_ = (.bool false)), (fun _ v_ => v_ = (.bool false)), (fun _ v_ => v_ = (.bool false)), (fun _ v_ => v_ = (.bool false)), (fun _ v_ => v_ = undef), (fun _ v_ => v_ = undef), (fun _ v_ => v_ = undef), (fun _ v_ => v_ = undef), (fun _ v_ => v_ = undef), (fun _ v_ => v_ = undef), (fun _ v_ => v_ = undef)]) (fun _ _ G' w => Cx w0 G0 G' w ⟨[], [(b8, o23), (l9, q24)]⟩ ∧ Bxs G' w w0.heap.size [(b27, 28, (((gR (lists (((voteM ms (IntKind.wrap .i64 (1 + ((bringI x12.node (IntKind.wrap .i64 (IntKind.wrap .i64 (3 * IntKind.wrap .i64 (1 + ((bringI faults 2)))) + 1)))))) (((markI (IntKind.wrap .i64 (1 + ((bringI x12.seq 6)))) x12.b)))).1))) (some_ (((voteM ms (IntKind.wrap .i64 (1 + ((bringI x12.node (IntKind.wrap .i64 (IntKind.wrap .i64 (3 * IntKind.wrap .i64 (1 + ((bringI faults 2)))) + 1)))))) (((markI (IntKind.wrap .i64 (1 + ((bringI x12.seq 6)))) x12.b)))).1)).crew)).1)).cells), (b26, 28, (((gR (lists (((voteM ms (IntKind.wrap .i64 (1 + ((bringI x12.node (IntKind.wrap .i64 (IntKind.wrap .i64 (3 * IntKind.wrap .i64 (1 + ((bringI faults 2)))) + 1)))))) (((markI (IntKind.wrap .i64 (1 + ((bringI x12.seq 6)))) x12.b)))).1))) (most (((voteM ms (IntKind.wrap .i64 (1 + ((bringI x12.node (IntKind.wrap .i64 (IntKind.wrap .i64 (3 * IntKind.wrap .i64 (1 + ((bringI faults 2)))) + 1)))))) (((markI (IntKind.wrap .i64 (1 + ((bringI x12.seq 6)))) x12.b)))).1)).crew)).1)).cells)] ⟨[], [(b8, o23), (l9, q24)]⟩ ∧ GLe G G') G (vAt_mono ⟨fun _ _ _ _ h => h, fun _ _ _ _ h => h, fun _ _ _ _ h => h, fun _ _ _ _ h => h, fun _ _ _ _ h => h, fun _ _ _ _ h => h, fun _ _ _ _ h => h, fun _ _ _ _ h => h, fun _ _ _ _ h => h, fun _ _ _ _ h => h, fun _ _ _ _ h => h, fun _ _ _ _ h => h, fun _ _ _ _ h => h, fun _ _ _ _ h => h, fun _ _ _ _ h => h, fun _ _ _ _ h => h, fun _ _ _ _ h => h, fun _ _ _ _ h => h, fun _ _ _ _ h => h, fun _ _ _ _ h => h, fun _ _ _ _ h => h, fun _ _ _ _ h => h, fun _ _ _ _ h => h, fun _ _ _ _ h => h, fun _ _ _ _ h => h, fun _ _ _ _ h => h, fun _ _ _ _ h => h, fun _ _ _ _ h => h, trivial⟩) (fun _ _ => ⟨hC.drew, hB.drew, fun _ _ h => h⟩) ?_ ?_
            · refine dsNone (j := 1) rfl ?_ ?_
              · intro done G w ac_ hd hp hn ⟨hC, hB, hg⟩ hM
                have f11 : ac_.tmps[11]? = some (.bool false) := hM.old0 rfl rfl
                have hF : Fr 102 ac_ (Env.nil.put 11 (.bool false)) := (hM.fr.add f11)
                exact OpVal.draw hF (opMove rfl) ⟨G, fun _ _ h => h, ⟨hC, hB, hg⟩, rfl⟩
              refine dsNone (j := 2) rfl ?_ ?_
              · intro done G w ac_ hd hp hn ⟨hC, hB, hg⟩ hM
                have f69 : ac_.tmps[69]? = some (.bool false) := hM.eqv 0 rfl (hp 0 rfl) rfl rfl
                have hF : Fr 102 ac_ (Env.nil.put 69 (.bool false)) := (hM.fr.add f69)
                exact OpVal.draw hF (opMove rfl) ⟨G, fun _ _ h => h, ⟨hC, hB, hg⟩, rfl⟩
              refine dsOff (j := 3) (b' := false) rfl rfl rfl ?_ ?_
              · intro done G w ac_ hd hp hn ⟨hC, hB, hg⟩ hM
                have f70 : ac_.tmps[70]? = some (.bool false) := hM.eqv 1 rfl (hp 1 rfl) rfl rfl
                exact ⟨f70, ⟨hC, hB, hg⟩, rfl⟩
              refine dsOff (j := 4) (b' := false) rfl rfl rfl ?_ ?_
              · intro done G w ac_ hd hp hn ⟨hC, hB, hg⟩ hM
                have f70 : ac_.tmps[70]? = some (.bool false) := hM.eqv 1 rfl (hp 1 rfl) rfl rfl
                exact ⟨f70, ⟨hC, hB, hg⟩, rfl⟩
              refine dsOff (j := 5) (b' := false) rfl rfl rfl ?_ ?_
              · intro done G w ac_ hd hp hn ⟨hC, hB, hg⟩ hM
                have f70 : ac_.tmps[70]? = some (.bool false) := hM.eqv 1 rfl (hp 1 rfl) rfl rfl
                exact ⟨f70, ⟨hC, hB, hg⟩, rfl⟩
              refine dsOff (j := 6) (b' := false) rfl rfl rfl ?_ ?_
              · intro done G w ac_ hd hp hn ⟨hC, hB, hg⟩ hM
                have f70 : ac_.tmps[70]? = some (.bool false) := hM.eqv 1 rfl (hp 1 rfl) rfl rfl
                exact ⟨f70, ⟨hC, hB, hg⟩, rfl⟩
              refine dsOff (j := 7) (b' := false) rfl rfl rfl ?_ ?_
              · intro done G w ac_ hd hp hn ⟨hC, hB, hg⟩ hM
                have f70 : ac_.tmps[70]? = some (.bool false) := hM.eqv 1 rfl (hp 1 rfl) rfl rfl
                exact ⟨f70, ⟨hC, hB, hg⟩, rfl⟩
              refine dsNone (j := 8) rfl ?_ ?_
              · intro done G w ac_ hd hp hn ⟨hC, hB, hg⟩ hM
                have f70 : ac_.tmps[70]? = some (.bool false) := hM.eqv 1 rfl (hp 1 rfl) rfl rfl
                have f75 : ac_.tmps[75]? = some undef := hM.eqv 6 rfl (hp 6 rfl) rfl rfl
                have hF : Fr 102 ac_ ((Env.nil.put 70 (.bool false)).put 75 undef) := ((hM.fr.add f70).add f75)
                exact OpVal.draw hF (opPickF rfl rfl) ⟨G, fun _ _ h => h, ⟨hC, hB, hg⟩, rfl⟩
              refine dsNone (j := 9) rfl ?_ ?_
              · intro done G w ac_ hd hp hn ⟨hC, hB, hg⟩ hM
                have f76 : ac_.tmps[76]? = some (.bool false) := hM.eqv 7 rfl (hp 7 rfl) rfl rfl
                have hF : Fr 102 ac_ (Env.nil.put 76 (.bool false)) := (hM.fr.add f76)
                exact OpVal.draw hF (opMove rfl) ⟨G, fun _ _ h => h, ⟨hC, hB, hg⟩, rfl⟩
              refine dsOn (j := 10) rfl rfl ?_ ?_
              · intro done G w ac_ hd hp hn ⟨hC, hB, hg⟩ hM
                have f13 : ac_.tmps[13]? = some (.bool false) := hM.old0 rfl rfl
                have f77 : ac_.tmps[77]? = some (.bool false) := hM.eqv 8 rfl (hp 8 rfl) rfl rfl
                refine ⟨f77, ?_⟩
                have hF : Fr 102 ac_ (Env.nil.put 13 (.bool false)) := (hM.fr.add f13)
                exact OpVal.draw hF (opMove rfl) ⟨G, fun _ _ h => h, ⟨hC, hB, hg⟩, rfl⟩
              refine dsOn (j := 11) rfl rfl ?_ ?_
              · intro done G w ac_ hd hp hn ⟨hC, hB, hg⟩ hM
                have f78 : ac_.tmps[78]? = some (.bool false) := hM.eqv 9 rfl (hp 9 rfl) rfl rfl
                have f77 : ac_.tmps[77]? = some (.bool false) := hM.eqv 8 rfl (hp 8 rfl) rfl rfl
                refine ⟨f77, ?_⟩
                have hF : Fr 102 ac_ (Env.nil.put 78 (.bool false)) := (hM.fr.add f78)
                exact OpVal.draw hF (opMove rfl) ⟨G, fun _ _ h => h, ⟨hC, hB, hg⟩, rfl⟩
              refine dsOff (j := 12) (b' := false) rfl rfl rfl ?_ ?_
              · intro done G w ac_ hd hp hn ⟨hC, hB, hg⟩ hM
                have f79 : ac_.tmps[79]? = some (.bool false) := hM.eqv 10 rfl (hp 10 rfl) rfl rfl
                exact ⟨f79, ⟨hC, hB, hg⟩, rfl⟩
              refine dsOff (j := 13) (b' := false) rfl rfl rfl ?_ ?_
              · intro done G w ac_ hd hp hn ⟨hC, hB, hg⟩ hM
                have f79 : ac_.tmps[79]? = some (.bool false) := hM.eqv 10 rfl (hp 10 rfl) rfl rfl
                exact ⟨f79, ⟨hC, hB, hg⟩, rfl⟩
              refine dsOff (j := 14) (b' := false) rfl rfl rfl ?_ ?_
              · intro done G w ac_ hd hp hn ⟨hC, hB, hg⟩ hM
                have f79 : ac_.tmps[79]? = some (.bool false) := hM.eqv 10 rfl (hp 10 rfl) rfl rfl
                exact ⟨f79, ⟨hC, hB, hg⟩, rfl⟩
              refine dsOff (j := 15) (b' := false) rfl rfl rfl ?_ ?_
              · intro done G w ac_ hd hp hn ⟨hC, hB, hg⟩ hM
                have f79 : ac_.tmps[79]? = some (.bool false) := hM.eqv 10 rfl (hp 10 rfl) rfl rfl
                exact ⟨f79, ⟨hC, hB, hg⟩, rfl⟩
              refine dsOff (j := 16) (b' := false) rfl rfl rfl ?_ ?_
              · intro done G w ac_ hd hp hn ⟨hC, hB, hg⟩ hM
                have f79 : ac_.tmps[79]? = some (.bool false) := hM.eqv 10 rfl (hp 10 rfl) rfl rfl
                exact ⟨f79, ⟨hC, hB, hg⟩, rfl⟩
              refine dsOn (j := 17) rfl rfl ?_ ?_
              · intro done G w ac_ hd hp hn ⟨hC, hB, hg⟩ hM
                have f79 : ac_.tmps[79]? = some (.bool false) := hM.eqv 10 rfl (hp 10 rfl) rfl rfl
                have f84 : ac_.tmps[84]? = some undef := hM.eqv 15 rfl (hp 15 rfl) rfl rfl
                have f77 : ac_.tmps[77]? = some (.bool false) := hM.eqv 8 rfl (hp 8 rfl) rfl rfl
                refine ⟨f77, ?_⟩
                have hF : Fr 102 ac_ ((Env.nil.put 79 (.bool false)).put 84 undef) := ((hM.fr.add f79).add f84)
                exact OpVal.draw hF (opPickF rfl rfl) ⟨G, fun _ _ h => h, ⟨hC, hB, hg⟩, rfl⟩
              refine dsNone (j := 18) rfl ?_ ?_
              · intro done G w ac_ hd hp hn ⟨hC, hB, hg⟩ hM
                have f77 : ac_.tmps[77]? = some (.bool false) := hM.eqv 8 rfl (hp 8 rfl) rfl rfl
                have f85 : ac_.tmps[85]? = some (.bool false) := hM.eqv 16 rfl (hp 16 rfl) rfl rfl
                have hF : Fr 102 ac_ ((Env.nil.put 77 (.bool false)).put 85 (.bool false)) := ((hM.fr.add f77).add f85)
                exact OpVal.draw hF (opPickF rfl rfl) ⟨G, fun _ _ h => h, ⟨hC, hB, hg⟩, rfl⟩
              refine dsNone (j := 19) rfl ?_ ?_
              · intro done G w ac_ hd hp hn ⟨hC, hB, hg⟩ hM
                have f86 : ac_.tmps[86]? = some (.bool false) := hM.eqv 17 rfl (hp 17 rfl) rfl rfl
                have hF : Fr 102 ac_ (Env.nil.put 86 (.bool false)) := (hM.fr.add f86)
                exact OpVal.draw hF (opMove rfl) ⟨G, fun _ _ h => h, ⟨hC, hB, hg⟩, rfl⟩
              refine dsOn (j := 20) rfl rfl ?_ ?_
              · intro done G w ac_ hd hp hn ⟨hC, hB, hg⟩ hM
                have f11 : ac_.tmps[11]? = some (.bool false) := hM.old0 rfl rfl
                have f87 : ac_.tmps[87]? = some (.bool false) := hM.eqv 18 rfl (hp 18 rfl) rfl rfl
                refine ⟨f87, ?_⟩
                have hF : Fr 102 ac_ (Env.nil.put 11 (.bool false)) := (hM.fr.add f11)
                exact OpVal.draw hF (opMove rfl) ⟨G, fun _ _ h => h, ⟨hC, hB, hg⟩, rfl⟩
              refine dsOn (j := 21) rfl rfl ?_ ?_
              · intro done G w ac_ hd hp hn ⟨hC, hB, hg⟩ hM
                have f88 : ac_.tmps[88]? = some (.bool false) := hM.eqv 19 rfl (hp 19 rfl) rfl rfl
                have f87 : ac_.tmps[87]? = some (.bool false) := hM.eqv 18 rfl (hp 18 rfl) rfl rfl
                refine ⟨f87, ?_⟩
                have hF : Fr 102 ac_ (Env.nil.put 88 (.bool false)) := (hM.fr.add f88)
                exact OpVal.draw hF (opMove rfl) ⟨G, fun _ _ h => h, ⟨hC, hB, hg⟩, rfl⟩
              refine dsOff (j := 22) (b' := false) rfl rfl rfl ?_ ?_
              · intro done G w ac_ hd hp hn ⟨hC, hB, hg⟩ hM
                have f89 : ac_.tmps[89]? = some (.bool false) := hM.eqv 20 rfl (hp 20 rfl) rfl rfl
                exact ⟨f89, ⟨hC, hB, hg⟩, rfl⟩
              refine dsOff (j := 23) (b' := false) rfl rfl rfl ?_ ?_
              · intro done G w ac_ hd hp hn ⟨hC, hB, hg⟩ hM
                have f89 : ac_.tmps[89]? = some (.bool false) := hM.eqv 20 rfl (hp 20 rfl) rfl rfl
                exact ⟨f89, ⟨hC, hB, hg⟩, rfl⟩
              refine dsOff (j := 24) (b' := false) rfl rfl rfl ?_ ?_
              · intro done G w ac_ hd hp hn ⟨hC, hB, hg⟩ hM
                have f89 : ac_.tmps[89]? = some (.bool false) := hM.eqv 20 rfl (hp 20 rfl) rfl rfl
                exact ⟨f89, ⟨hC, hB, hg⟩, rfl⟩
              refine dsOffU (j := 25) rfl rfl ?_ ?_
              · intro done G w ac_ hd hp hn ⟨hC, hB, hg⟩ hM
                have f92 : ac_.tmps[92]? = some undef := hM.eqv 23 rfl (hp 23 rfl) rfl rfl
                exact ⟨f92, ⟨hC, hB, hg⟩, rfl⟩
              refine dsOffU (j := 26) rfl rfl ?_ ?_
              · intro done G w ac_ hd hp hn ⟨hC, hB, hg⟩ hM
                have f92 : ac_.tmps[92]? = some undef := hM.eqv 23 rfl (hp 23 rfl) rfl rfl
                exact ⟨f92, ⟨hC, hB, hg⟩, rfl⟩
              refine dsOffU (j := 27) rfl rfl ?_ ?_
              · intro done G w ac_ hd hp hn ⟨hC, hB, hg⟩ hM
                have f92 : ac_.tmps[92]? = some undef := hM.eqv 23 rfl (hp 23 rfl) rfl rfl
                exact ⟨f92, ⟨hC, hB, hg⟩, rfl⟩
              refine dsOffU (j := 28) rfl rfl ?_ ?_
              · intro done G w ac_ hd hp hn ⟨hC, hB, hg⟩ hM
                have f92 : ac_.tmps[92]? = some undef := hM.eqv 23 rfl (hp 23 rfl) rfl rfl
                exact ⟨f92, ⟨hC, hB, hg⟩, rfl⟩
              exact dsNil
            · intro done G w ac_ hall htl ⟨hC, hB, hg⟩ hM
              replace hl := hl.mono hg
              replace hr17 := hr17.mono hg
              replace h25 := h25.mono hg
              have f1 : ac_.tmps[1]? = some (.slice (some ⟨b14, o15, none⟩) l.length cap2) := hM.old0 rfl rfl
              have f5 : ac_.tmps[5]? = some (.int .i64 (IntKind.wrap .i64 (1 + ((bringI faults 2))))) := hM.old0 rfl rfl
              have f6 : ac_.tmps[6]? = some (.pointer (some ⟨b8, 0, none⟩)) := hM.old0 rfl rfl
              have f7 : ac_.tmps[7]? = some (.int .i64 (((k : Nat) : Int))) := hM.old0 rfl rfl
              have f87 : ac_.tmps[87]? = some (.bool false) := hM.eqv 18 rfl (hall 18 rfl) rfl rfl
              have f89 : ac_.tmps[89]? = some (.bool false) := hM.eqv 20 rfl (hall 20 rfl) rfl rfl
              have f92 : ac_.tmps[92]? = some undef := hM.eqv 23 rfl (hall 23 rfl) rfl rfl
              have f94 : ac_.tmps[94]? = some undef := hM.eqv 25 rfl (hall 25 rfl) rfl rfl
              have f96 : ac_.tmps[96]? = some undef := hM.eqv 27 rfl (hall 27 rfl) rfl rfl
              refine ⟨(((((((((Env.nil.put 1 (.slice (some ⟨b14, o15, none⟩) l.length cap2)).put 5 (.int .i64 (IntKind.wrap .i64 (1 + ((bringI faults 2)))))).put 6 (.pointer (some ⟨b8, 0, none⟩))).put 7 (.int .i64 (((k : Nat) : Int)))).put 87 (.bool false)).put 89 (.bool false)).put 92 undef).put 94 undef).put 96 undef), (((((((((hM.fr.add f1).add f5).add f6).add f7).add f87).add f89).add f92).add f94).add f96), ?_⟩
              clear hM hall htl
              refine wlOffU rfl rfl rfl ?_
              refine wlOff rfl rfl rfl rfl ?_
              refine wlOn rfl rfl ?_
              refine wlVal (opPickF rfl rfl) rfl ?_
              refine wlVal (opPickF rfl rfl) rfl ?_
              refine wlThen ?_
              refine wcCondF rfl ?_
              refine wcSkip ?_
              refine wcOf ?_
              refine wcRegion ?_
              refine wlVal (opMove rfl) rfl ?_
              refine wlVal (opIncr rfl rfl (incr_ok (of_decide_eq_true h10) hl.le)) rfl ?_
              refine wlVal (opAssign rfl) rfl ?_
              refine wlRound ?_
              exact (IH0 (k + 1, o23, q24, ((voteM ms (IntKind.wrap .i64 (1 + ((bringI x12.node (IntKind.wrap .i64 (IntKind.wrap .i64 (3 * IntKind.wrap .i64 (1 + ((bringI faults 2)))) + 1)))))) (((markI (IntKind.wrap .i64 (1 + ((bringI x12.seq 6)))) x12.b)))).1)) _ _ ⟨hC, hB.tail.tail, hl, h25, (tr_vote hJ (tr_liar h12 h20))⟩ (by have := of_decide_eq_true h10; show l.length - (k + 1) < l.length - k; omega)).sub (fun _ ha => ((((ha.start.cons ha (t := 1) rfl).cons ha (t := 5) rfl).cons ha (t := 6) rfl).cons ha (t := 7) rfl))
          · skip
            cases h30 : decide (((gR (lists (((voteM ms (IntKind.wrap .i64 (1 + ((bringI x12.node (IntKind.wrap .i64 (IntKind.wrap .i64 (3 * IntKind.wrap .i64 (1 + ((bringI faults 2)))) + 1)))))) (((markI (IntKind.wrap .i64 (1 + ((bringI x12.seq 6)))) x12.b)))).1))) (some_ (((voteM ms (IntKind.wrap .i64 (1 + ((bringI x12.node (IntKind.wrap .i64 (IntKind.wrap .i64 (3 * IntKind.wrap .i64 (1 + ((bringI faults 2)))) + 1)))))) (((markI (IntKind.wrap .i64 (1 + ((bringI x12.seq 6)))) x12.b)))).1)).crew)).1).dig = ((markI 0 ((0 : UInt8)))).dig)
            · skip
              exact absurd ((tr_law h12 (tr_vote hJ (tr_liar h12 h20))).2.1 h29) (of_decide_eq_false h30)
            · skip
              refine wcDrawT 28 fmix (by kernel_rfl) (by kernel_rfl) (by kernel_rfl) (by kernel_rfl) (vAt [(fun _ v_ => v_ = (.bool false)), (fun _ v_ => v_ = (.bool false)), (fun _ v_ => v_ = undef), (fun _ v_ => v_ = undef), (fun _ v_ => v_ = undef), (fun _ v_ => v_ = undef), (fun _ v_ => v_ = undef), (fun _ v_ => v_ = (.bool false)), (fun _ v_ => v_ = (.bool false)), (fun _ v_ => v_ = (.bool true)), (fun _ v_ => v_ = (.bool true)), (fun _ v_ => v_ = (.pointer (some ⟨b27, 1, none⟩))), (fun _ v_ => v_ = (.agg (((gR (lists (((voteM ms (IntKind.wrap .i64 (1 + ((bringI x12.node (IntKind.wrap .i64 (IntKind.wrap .i64 (3 * IntKind.wrap .i64 (1 + ((bringI faults 2)))) + 1)))))) (((markI (IntKind.wrap .i64 (1 + ((bringI x12.seq 6)))) x12.b)))).1))) (some_ (((voteM ms (IntKind.wrap .i64 (1 + ((bringI x12.node (IntKind.wrap .i64 (IntKind.wrap .i64 (3 * IntKind.wrap .i64 (1 + ((bringI faults 2)))) + 1)))))) (((markI (IntKind.wrap .i64 (1 + ((bringI x12.seq 6)))) x12.b)))).1)).crew)).1).dig).cells.toArray)), (fun _ v_ => v_ = (.agg (((markI 0 ((0 : UInt8))))).cells.toArray)), (fun _ v_ => v_ = (.agg (((markI 0 ((0 : UInt8)))).dig).cells.toArray)), (fun _ v_ => v_ = (.bool false)), (fun _ v_ => v_ = (.bool false)), (fun _ v_ => v_ = (.bool false)), (fun _ v_ => v_ = (.bool false)), (fun _ v_ => v_ = (.bool false)), (fun _ v_ => v_ = (.bool false)), (fun _ v_ => v_ = undef), (fun _ v_ => v_ = undef), (fun _ v_ => v_ = undef), (fun _ v_ => v_ = undef), (fun _ v_ => v_ = undef), (fun _ v_ => v_ = undef), (fun _ v_ => v_ = undef)]) (fun _ _ G' w => Cx w0 G0 G' w ⟨[], [(b8, o23), (l9, q24)]⟩ ∧ Bxs G' w w0.heap.size [(b27, 28, (((gR (lists (((voteM ms (IntKind.wrap .i64 (1 + ((bringI x12.node (IntKind.wrap .i64 (IntKind.wrap .i64 (3 * IntKind.wrap .i64 (1 + ((bringI faults 2)))) + 1)))))) (((markI (IntKind.wrap .i64 (1 + ((bringI x12.seq 6)))) x12.b)))).1))) (some_ (((voteM ms (IntKind.wrap .i64 (1 + ((bringI x12.node (IntKind.wrap .i64 (IntKind.wrap .i64 (3 * IntKind.wrap .i64 (1 + ((bringI faults 2)))) + 1)))))) (((markI (IntKind.wrap .i64 (1 + ((bringI x12.seq 6)))) x12.b)))).1)).crew)).1)).cells), (b26, 28, (((gR (lists (((voteM ms (IntKind.wrap .i64 (1 + ((bringI x12.node (IntKind.wrap .i64 (IntKind.wrap .i64 (3 * IntKind.wrap .i64 (1 + ((bringI faults 2)))) + 1)))))) (((markI (IntKind.wrap .i64 (1 + ((bringI x12.seq 6)))) x12.b)))).1))) (most (((voteM ms (IntKind.wrap .i64 (1 + ((bringI x12.node (IntKind.wrap .i64 (IntKind.wrap .i64 (3 * IntKind.wrap .i64 (1 + ((bringI faults 2)))) + 1)))))) (((markI (IntKind.wrap .i64 (1 + ((bringI x12.seq 6)))) x12.b)))).1)).crew)).1)).cells)] ⟨[], [(b8, o23), (l9, q24)]⟩ ∧ GLe G G') G (vAt_mono ⟨fun _ _ _ _ h => h, fun _ _ _ _ h => h, fun _ _ _ _ h => h, fun _ _ _ _ h => h, fun _ _ _ _ h => h, fun _ _ _ _ h => h, fun _ _ _ _ h => h, fun _ _ _ _ h => h, fun _ _ _ _ h => h, fun _ _ _ _ h => h, fun _ _ _ _ h => h, fun _ _ _ _ h => h, fun _ _ _ _ h => h, fun _ _ _ _ h => h, fun _ _ _ _ h => h, fun _ _ _ _ h => h, fun _ _ _ _ h => h, fun _ _ _ _ h => h, fun _ _ _ _ h => h, fun _ _ _ _ h => h, fun _ _ _ _ h => h, fun _ _ _ _ h => h, fun _ _ _ _ h => h, fun _ _ _ _ h => h, fun _ _ _ _ h => h, fun _ _ _ _ h => h, fun _ _ _ _ h => h, fun _ _ _ _ h => h, trivial⟩) (fun _ _ => ⟨hC.drew, hB.drew, fun _ _ h => h⟩) ?_ ?_
              · refine dsNone (j := 1) rfl ?_ ?_
                · intro done G w ac_ hd hp hn ⟨hC, hB, hg⟩ hM
                  have f11 : ac_.tmps[11]? = some (.bool false) := hM.old0 rfl rfl
                  have hF : Fr 102 ac_ (Env.nil.put 11 (.bool false)) := (hM.fr.add f11)
                  exact OpVal.draw hF (opMove rfl) ⟨G, fun _ _ h => h, ⟨hC, hB, hg⟩, rfl⟩
                refine dsNone (j := 2) rfl ?_ ?_
                · intro done G w ac_ hd hp hn ⟨hC, hB, hg⟩ hM
                  have f69 : ac_.tmps[69]? = some (.bool false) := hM.eqv 0 rfl (hp 0 rfl) rfl rfl
                  have hF : Fr 102 ac_ (Env.nil.put 69 (.bool false)) := (hM.fr.add f69)
                  exact OpVal.draw hF (opMove rfl) ⟨G, fun _ _ h => h, ⟨hC, hB, hg⟩, rfl⟩
                refine dsOff (j := 3) (b' := false) rfl rfl rfl ?_ ?_
                · intro done G w ac_ hd hp hn ⟨hC, hB, hg⟩ hM
                  have f70 : ac_.tmps[70]? = some (.bool false) := hM.eqv 1 rfl (hp 1 rfl) rfl rfl
                  exact ⟨f70, ⟨hC, hB, hg⟩, rfl⟩
                refine dsOff (j := 4) (b' := false) rfl rfl rfl ?_ ?_
                · intro done G w ac_ hd hp hn ⟨hC, hB, hg⟩ hM
                  have f70 : ac_.tmps[70]? = some (.bool false) := hM.eqv 1 rfl (hp 1 rfl) rfl rfl
                  exact ⟨f70, ⟨hC, hB, hg⟩, rfl⟩
                refine dsOff (j := 5) (b' := false) rfl rfl rfl ?_ ?_
                · intro done G w ac_ hd hp hn ⟨hC, hB, hg⟩ hM
                  have f70 : ac_.tmps[70]? = some (.bool false) := hM.eqv 1 rfl (hp 1 rfl) rfl rfl
                  exact ⟨f70, ⟨hC, hB, hg⟩, rfl⟩
                refine dsOff (j := 6) (b' := false) rfl rfl rfl ?_ ?_
                · intro done G w ac_ hd hp hn ⟨hC, hB, hg⟩ hM
                  have f70 : ac_.tmps[70]? = some (.bool false) := hM.eqv 1 rfl (hp 1 rfl) rfl rfl
                  exact ⟨f70, ⟨hC, hB, hg⟩, rfl⟩
                refine dsOff (j := 7) (b' := false) rfl rfl rfl ?_ ?_
                · intro done G w ac_ hd hp hn ⟨hC, hB, hg⟩ hM
                  have f70 : ac_.tmps[70]? = some (.bool false) := hM.eqv 1 rfl (hp 1 rfl) rfl rfl
                  exact ⟨f70, ⟨hC, hB, hg⟩, rfl⟩
                refine dsNone (j := 8) rfl ?_ ?_
                · intro done G w ac_ hd hp hn ⟨hC, hB, hg⟩ hM
                  have f70 : ac_.tmps[70]? = some (.bool false) := hM.eqv 1 rfl (hp 1 rfl) rfl rfl
                  have f75 : ac_.tmps[75]? = some undef := hM.eqv 6 rfl (hp 6 rfl) rfl rfl
                  have hF : Fr 102 ac_ ((Env.nil.put 70 (.bool false)).put 75 undef) := ((hM.fr.add f70).add f75)
                  exact OpVal.draw hF (opPickF rfl rfl) ⟨G, fun _ _ h => h, ⟨hC, hB, hg⟩, rfl⟩
                refine dsNone (j := 9) rfl ?_ ?_
                · intro done G w ac_ hd hp hn ⟨hC, hB, hg⟩ hM
                  have f76 : ac_.tmps[76]? = some (.bool false) := hM.eqv 7 rfl (hp 7 rfl) rfl rfl
                  have hF : Fr 102 ac_ (Env.nil.put 76 (.bool false)) := (hM.fr.add f76)
                  exact OpVal.draw hF (opMove rfl) ⟨G, fun _ _ h => h, ⟨hC, hB, hg⟩, rfl⟩
                refine dsOn (j := 10) rfl rfl ?_ ?_
                · intro done G w ac_ hd hp hn ⟨hC, hB, hg⟩ hM
                  have f13 : ac_.tmps[13]? = some (.bool true) := hM.old0 rfl rfl
                  have f77 : ac_.tmps[77]? = some (.bool false) := hM.eqv 8 rfl (hp 8 rfl) rfl rfl
                  refine ⟨f77, ?_⟩
                  have hF : Fr 102 ac_ (Env.nil.put 13 (.bool true)) := (hM.fr.add f13)
                  exact OpVal.draw hF (opMove rfl) ⟨G, fun _ _ h => h, ⟨hC, hB, hg⟩, rfl⟩
                refine dsOn (j := 11) rfl rfl ?_ ?_
                · intro done G w ac_ hd hp hn ⟨hC, hB, hg⟩ hM
                  have f78 : ac_.tmps[78]? = some (.bool true) := hM.eqv 9 rfl (hp 9 rfl) rfl rfl
                  have f77 : ac_.tmps[77]? = some (.bool false) := hM.eqv 8 rfl (hp 8 rfl) rfl rfl
                  refine ⟨f77, ?_⟩
                  have hF : Fr 102 ac_ (Env.nil.put 78 (.bool true)) := (hM.fr.add f78)
                  exact OpVal.draw hF (opMove rfl) ⟨G, fun _ _ h => h, ⟨hC, hB, hg⟩, rfl⟩
                refine dsOn (j := 12) rfl rfl ?_ ?_
                · intro done G w ac_ hd hp hn ⟨hC, hB, hg⟩ hM
                  have f12 : ac_.tmps[12]? = some (.pointer (some ⟨b27, 0, none⟩)) := hM.old0 rfl rfl
                  have f79 : ac_.tmps[79]? = some (.bool true) := hM.eqv 10 rfl (hp 10 rfl) rfl rfl
                  refine ⟨f79, ?_⟩
                  have hF : Fr 102 ac_ (Env.nil.put 12 (.pointer (some ⟨b27, 0, none⟩))) := (hM.fr.add f12)
                  exact OpVal.draw hF (opFieldAddr rfl fo28_1) ⟨G, fun _ _ h => h, ⟨hC, hB, hg⟩, rfl⟩
                refine dsOn (j := 13) rfl rfl ?_ ?_
                · intro done G w ac_ hd hp hn ⟨hC, hB, hg⟩ hM
                  have f80 : ac_.tmps[80]? = some (.pointer (some ⟨b27, 1, none⟩)) := hM.eqv 11 rfl (hp 11 rfl) rfl rfl
                  have f79 : ac_.tmps[79]? = some (.bool true) := hM.eqv 10 rfl (hp 10 rfl) rfl rfl
                  refine ⟨f79, ?_⟩
                  have hF : Fr 102 ac_ (Env.nil.put 80 (.pointer (some ⟨b27, 1, none⟩))) := (hM.fr.add f80)
                  exact OpVal.draw hF (opLoadRow (cs := (((gR (lists (((voteM ms (IntKind.wrap .i64 (1 + ((bringI x12.node (IntKind.wrap .i64 (IntKind.wrap .i64 (3 * IntKind.wrap .i64 (1 + ((bringI faults 2)))) + 1)))))) (((markI (IntKind.wrap .i64 (1 + ((bringI x12.seq 6)))) x12.b)))).1))) (some_ (((voteM ms (IntKind.wrap .i64 (1 + ((bringI x12.node (IntKind.wrap .i64 (IntKind.wrap .i64 (3 * IntKind.wrap .i64 (1 + ((bringI faults 2)))) + 1)))))) (((markI (IntKind.wrap .i64 (1 + ((bringI x12.seq 6)))) x12.b)))).1)).crew)).1).dig).cells) rfl (hB.range (i := 0) (m := 32) rfl (by simp [Mark.cells, Do.cells, Word.cells])) row26 (by simp [Mark.cells, Do.cells, Word.cells])) ⟨G, fun _ _ h => h, ⟨hC, hB, hg⟩, rfl⟩
                refine dsOn (j := 14) rfl rfl ?_ ?_
                · intro done G w ac_ hd hp hn ⟨hC, hB, hg⟩ hM
                  have f79 : ac_.tmps[79]? = some (.bool true) := hM.eqv 10 rfl (hp 10 rfl) rfl rfl
                  refine ⟨f79, ?_⟩
                  have hF : Fr 102 ac_ Env.nil := hM.fr
                  exact drawCallS hF rfl co19 rfl (mark_ret _ _ hC.holds 0 ((0 : UInt8))) (fun w' hk => ⟨G, fun _ _ h => h, ⟨hC.trans hk, hB.ext hk, hg⟩, rfl⟩)
                refine dsOn (j := 15) rfl rfl ?_ ?_
                · intro done G w ac_ hd hp hn ⟨hC, hB, hg⟩ hM
                  have f82 : ac_.tmps[82]? = some (.agg (((markI 0 ((0 : UInt8))))).cells.toArray) := hM.eqv 13 rfl (hp 13 rfl) rfl rfl
                  have f79 : ac_.tmps[79]? = some (.bool true) := hM.eqv 10 rfl (hp 10 rfl) rfl rfl
                  refine ⟨f79, ?_⟩
                  have hF : Fr 102 ac_ (Env.nil.put 82 (.agg (((markI 0 ((0 : UInt8))))).cells.toArray)) := (hM.fr.add f82)
                  exact OpVal.draw hF (opFieldRow (cs := (((markI 0 ((0 : UInt8))))).cells) (r := (((markI 0 ((0 : UInt8)))).dig).cells) rfl fi28_1 row26 (by simp [Mark.cells, Do.cells, Word.cells])) ⟨G, fun _ _ h => h, ⟨hC, hB, hg⟩, rfl⟩
                refine dsOn (j := 16) rfl rfl ?_ ?_
                · intro done G w ac_ hd hp hn ⟨hC, hB, hg⟩ hM
                  have f81 : ac_.tmps[81]? = some (.agg (((gR (lists (((voteM ms (IntKind.wrap .i64 (1 + ((bringI x12.node (IntKind.wrap .i64 (IntKind.wrap .i64 (3 * IntKind.wrap .i64 (1 + ((bringI faults 2)))) + 1)))))) (((markI (IntKind.wrap .i64 (1 + ((bringI x12.seq 6)))) x12.b)))).1))) (some_ (((voteM ms (IntKind.wrap .i64 (1 + ((bringI x12.node (IntKind.wrap .i64 (IntKind.wrap .i64 (3 * IntKind.wrap .i64 (1 + ((bringI faults 2)))) + 1)))))) (((markI (IntKind.wrap .i64 (1 + ((bringI x12.seq 6)))) x12.b)))).1)).crew)).1).dig).cells.toArray) := hM.eqv 12 rfl (hp 12 rfl) rfl rfl
                  have f83 : ac_.tmps[83]? = some (.agg (((markI 0 ((0 : UInt8)))).dig).cells.toArray) := hM.eqv 14 rfl (hp 14 rfl) rfl rfl
                  have f79 : ac_.tmps[79]? = some (.bool true) := hM.eqv 10 rfl (hp 10 rfl) rfl rfl
                  refine ⟨f79, ?_⟩
                  have hF : Fr 102 ac_ ((Env.nil.put 81 (.agg (((gR (lists (((voteM ms (IntKind.wrap .i64 (1 + ((bringI x12.node (IntKind.wrap .i64 (IntKind.wrap .i64 (3 * IntKind.wrap .i64 (1 + ((bringI faults 2)))) + 1)))))) (((markI (IntKind.wrap .i64 (1 + ((bringI x12.seq 6)))) x12.b)))).1))) (some_ (((voteM ms (IntKind.wrap .i64 (1 + ((bringI x12.node (IntKind.wrap .i64 (IntKind.wrap .i64 (3 * IntKind.wrap .i64 (1 + ((bringI faults 2)))) + 1)))))) (((markI (IntKind.wrap .i64 (1 + ((bringI x12.seq 6)))) x12.b)))).1)).crew)).1).dig).cells.toArray)).put 83 (.agg (((markI 0 ((0 : UInt8)))).dig).cells.toArray)) := ((hM.fr.add f81).add f83)
                  exact OpVal.draw hF (OpVal.cast (opNeRow (eq26 _ (((gR (lists (((voteM ms (IntKind.wrap .i64 (1 + ((bringI x12.node (IntKind.wrap .i64 (IntKind.wrap .i64 (3 * IntKind.wrap .i64 (1 + ((bringI faults 2)))) + 1)))))) (((markI (IntKind.wrap .i64 (1 + ((bringI x12.seq 6)))) x12.b)))).1))) (some_ (((voteM ms (IntKind.wrap .i64 (1 + ((bringI x12.node (IntKind.wrap .i64 (IntKind.wrap .i64 (3 * IntKind.wrap .i64 (1 + ((bringI faults 2)))) + 1)))))) (((markI (IntKind.wrap .i64 (1 + ((bringI x12.seq 6)))) x12.b)))).1)).crew)).1).dig) (((markI 0 ((0 : UInt8)))).dig)) eg26 rfl rfl) (congrArg Value.bool (by rw [h30]; rfl))) ⟨G, fun _ _ h => h, ⟨hC, hB, hg⟩, rfl⟩
                refine dsOn (j := 17) rfl rfl ?_ ?_
                · intro done G w ac_ hd hp hn ⟨hC, hB, hg⟩ hM
                  have f79 : ac_.tmps[79]? = some (.bool true) := hM.eqv 10 rfl (hp 10 rfl) rfl rfl
                  have f84 : ac_.tmps[84]? = some (.bool false) := hM.eqv 15 rfl (hp 15 rfl) rfl rfl
                  have f77 : ac_.tmps[77]? = some (.bool false) := hM.eqv 8 rfl (hp 8 rfl) rfl rfl
                  refine ⟨f77, ?_⟩
                  have hF : Fr 102 ac_ ((Env.nil.put 79 (.bool true)).put 84 (.bool false)) := ((hM.fr.add f79).add f84)
                  exact OpVal.draw hF (opPickT rfl rfl) ⟨G, fun _ _ h => h, ⟨hC, hB, hg⟩, rfl⟩
                refine dsNone (j := 18) rfl ?_ ?_
                · intro done G w ac_ hd hp hn ⟨hC, hB, hg⟩ hM
                  have f77 : ac_.tmps[77]? = some (.bool false) := hM.eqv 8 rfl (hp 8 rfl) rfl rfl
                  have f85 : ac_.tmps[85]? = some (.bool false) := hM.eqv 16 rfl (hp 16 rfl) rfl rfl
                  have hF : Fr 102 ac_ ((Env.nil.put 77 (.bool false)).put 85 (.bool false)) := ((hM.fr.add f77).add f85)
                  exact OpVal.draw hF (opPickF rfl rfl) ⟨G, fun _ _ h => h, ⟨hC, hB, hg⟩, rfl⟩
                refine dsNone (j := 19) rfl ?_ ?_
                · intro done G w ac_ hd hp hn ⟨hC, hB, hg⟩ hM
                  have f86 : ac_.tmps[86]? = some (.bool false) := hM.eqv 17 rfl (hp 17 rfl) rfl rfl
                  have hF : Fr 102 ac_ (Env.nil.put 86 (.bool false)) := (hM.fr.add f86)
                  exact OpVal.draw hF (opMove rfl) ⟨G, fun _ _ h => h, ⟨hC, hB, hg⟩, rfl⟩
                refine dsOn (j := 20) rfl rfl ?_ ?_
                · intro done G w ac_ hd hp hn ⟨hC, hB, hg⟩ hM
                  have f11 : ac_.tmps[11]? = some (.bool false) := hM.old0 rfl rfl
                  have f87 : ac_.tmps[87]? = some (.bool false) := hM.eqv 18 rfl (hp 18 rfl) rfl rfl
                  refine ⟨f87, ?_⟩
                  have hF : Fr 102 ac_ (Env.nil.put 11 (.bool false)) := (hM.fr.add f11)
                  exact OpVal.draw hF (opMove rfl) ⟨G, fun _ _ h => h, ⟨hC, hB, hg⟩, rfl⟩
                refine dsOn (j := 21) rfl rfl ?_ ?_
                · intro done G w ac_ hd hp hn ⟨hC, hB, hg⟩ hM
                  have f88 : ac_.tmps[88]? = some (.bool false) := hM.eqv 19 rfl (hp 19 rfl) rfl rfl
                  have f87 : ac_.tmps[87]? = some (.bool false) := hM.eqv 18 rfl (hp 18 rfl) rfl rfl
                  refine ⟨f87, ?_⟩
                  have hF : Fr 102 ac_ (Env.nil.put 88 (.bool false)) := (hM.fr.add f88)
                  exact OpVal.draw hF (opMove rfl) ⟨G, fun _ _ h => h, ⟨hC, hB, hg⟩, rfl⟩
                refine dsOff (j := 22) (b' := false) rfl rfl rfl ?_ ?_
                · intro done G w ac_ hd hp hn ⟨hC, hB, hg⟩ hM
                  have f89 : ac_.tmps[89]? = some (.bool false) := hM.eqv 20 rfl (hp 20 rfl) rfl rfl
                  exact ⟨f89, ⟨hC, hB, hg⟩, rfl⟩
                refine dsOff (j := 23) (b' := false) rfl rfl rfl ?_ ?_
                · intro done G w ac_ hd hp hn ⟨hC, hB, hg⟩ hM
                  have f89 : ac_.tmps[89]? = some (.bool false) := hM.eqv 20 rfl (hp 20 rfl) rfl rfl
                  exact ⟨f89, ⟨hC, hB, hg⟩, rfl⟩
                refine dsOff (j := 24) (b' := false) rfl rfl rfl ?_ ?_
                · intro done G w ac_ hd hp hn ⟨hC, hB, hg⟩ hM
                  have f89 : ac_.tmps[89]? = some (.bool false) := hM.eqv 20 rfl (hp 20 rfl) rfl rfl
                  exact ⟨f89, ⟨hC, hB, hg⟩, rfl⟩
                refine dsOffU (j := 25) rfl rfl ?_ ?_
                · intro done G w ac_ hd hp hn ⟨hC, hB, hg⟩ hM
                  have f92 : ac_.tmps[92]? = some undef := hM.eqv 23 rfl (hp 23 rfl) rfl rfl
                  exact ⟨f92, ⟨hC, hB, hg⟩, rfl⟩
                refine dsOffU (j := 26) rfl rfl ?_ ?_
                · intro done G w ac_ hd hp hn ⟨hC, hB, hg⟩ hM
                  have f92 : ac_.tmps[92]? = some undef := hM.eqv 23 rfl (hp 23 rfl) rfl rfl
                  exact ⟨f92, ⟨hC, hB, hg⟩, rfl⟩
                refine dsOffU (j := 27) rfl rfl ?_ ?_
                · intro done G w ac_ hd hp hn ⟨hC, hB, hg⟩ hM
                  have f92 : ac_.tmps[92]? = some undef := hM.eqv 23 rfl (hp 23 rfl) rfl rfl
                  exact ⟨f92, ⟨hC, hB, hg⟩, rfl⟩
                refine dsOffU (j := 28) rfl rfl ?_ ?_
                · intro done G w ac_ hd hp hn ⟨hC, hB, hg⟩ hM
                  have f92 : ac_.tmps[92]? = some undef := hM.eqv 23 rfl (hp 23 rfl) rfl rfl
                  exact ⟨f92, ⟨hC, hB, hg⟩, rfl⟩
                exact dsNil
              · intro done G w ac_ hall htl ⟨hC, hB, hg⟩ hM
                replace hl := hl.mono hg
                replace hr17 := hr17.mono hg
                replace h25 := h25.mono hg
                have f1 : ac_.tmps[1]? = some (.slice (some ⟨b14, o15, none⟩) l.length cap2) := hM.old0 rfl rfl
                have f5 : ac_.tmps[5]? = some (.int .i64 (IntKind.wrap .i64 (1 + ((bringI faults 2))))) := hM.old0 rfl rfl
                have f6 : ac_.tmps[6]? = some (.pointer (some ⟨b8, 0, none⟩)) := hM.old0 rfl rfl
                have f7 : ac_.tmps[7]? = some (.int .i64 (((k : Nat) : Int))) := hM.old0 rfl rfl
                have f87 : ac_.tmps[87]? = some (.bool false) := hM.eqv 18 rfl (hall 18 rfl) rfl rfl
                have f89 : ac_.tmps[89]? = some (.bool false) := hM.eqv 20 rfl (hall 20 rfl) rfl rfl
                have f92 : ac_.tmps[92]? = some undef := hM.eqv 23 rfl (hall 23 rfl) rfl rfl
                have f94 : ac_.tmps[94]? = some undef := hM.eqv 25 rfl (hall 25 rfl) rfl rfl
                have f96 : ac_.tmps[96]? = some undef := hM.eqv 27 rfl (hall 27 rfl) rfl rfl
                refine ⟨(((((((((Env.nil.put 1 (.slice (some ⟨b14, o15, none⟩) l.length cap2)).put 5 (.int .i64 (IntKind.wrap .i64 (1 + ((bringI faults 2)))))).put 6 (.pointer (some ⟨b8, 0, none⟩))).put 7 (.int .i64 (((k : Nat) : Int)))).put 87 (.bool false)).put 89 (.bool false)).put 92 undef).put 94 undef).put 96 undef), (((((((((hM.fr.add f1).add f5).add f6).add f7).add f87).add f89).add f92).add f94).add f96), ?_⟩
                clear hM hall htl
                refine wlOffU rfl rfl rfl ?_
                refine wlOff rfl rfl rfl rfl ?_
                refine wlOn rfl rfl ?_
                refine wlVal (opPickF rfl rfl) rfl ?_
                refine wlVal (opPickF rfl rfl) rfl ?_
                refine wlThen ?_
                refine wcCondF rfl ?_
                refine wcSkip ?_
                refine wcOf ?_
                refine wcRegion ?_
                refine wlVal (opMove rfl) rfl ?_
                refine wlVal (opIncr rfl rfl (incr_ok (of_decide_eq_true h10) hl.le)) rfl ?_
                refine wlVal (opAssign rfl) rfl ?_
                refine wlRound ?_
                exact (IH0 (k + 1, o23, q24, ((voteM ms (IntKind.wrap .i64 (1 + ((bringI x12.node (IntKind.wrap .i64 (IntKind.wrap .i64 (3 * IntKind.wrap .i64 (1 + ((bringI faults 2)))) + 1)))))) (((markI (IntKind.wrap .i64 (1 + ((bringI x12.seq 6)))) x12.b)))).1)) _ _ ⟨hC, hB.tail.tail, hl, h25, (tr_vote hJ (tr_liar h12 h20))⟩ (by have := of_decide_eq_true h10; show l.length - (k + 1) < l.length - k; omega)).sub (fun _ ha => ((((ha.start.cons ha (t := 1) rfl).cons ha (t := 5) rfl).cons ha (t := 6) rfl).cons ha (t := 7) rfl))
        · skip
          cases h31 : decide (((gR (lists (((voteM ms (IntKind.wrap .i64 (1 + ((bringI x12.node (IntKind.wrap .i64 (IntKind.wrap .i64 (3 * IntKind.wrap .i64 (1 + ((bringI faults 2)))) + 1)))))) (((markI (IntKind.wrap .i64 (1 + ((bringI x12.seq 6)))) x12.b)))).1))) (most (((voteM ms (IntKind.wrap .i64 (1 + ((bringI x12.node (IntKind.wrap .i64 (IntKind.wrap .i64 (3 * IntKind.wrap .i64 (1 + ((bringI faults 2)))) + 1)))))) (((markI (IntKind.wrap .i64 (1 + ((bringI x12.seq 6)))) x12.b)))).1)).crew)).1).dig = ((markI 0 ((0 : UInt8)))).dig)
          · skip
            exact absurd ((tr_law h12 (tr_vote hJ (tr_liar h12 h20))).1 h28) (of_decide_eq_false h31)
          · skip
            cases h32 : ((gR (lists (((voteM ms (IntKind.wrap .i64 (1 + ((bringI x12.node (IntKind.wrap .i64 (IntKind.wrap .i64 (3 * IntKind.wrap .i64 (1 + ((bringI faults 2)))) + 1)))))) (((markI (IntKind.wrap .i64 (1 + ((bringI x12.seq 6)))) x12.b)))).1))) (some_ (((voteM ms (IntKind.wrap .i64 (1 + ((bringI x12.node (IntKind.wrap .i64 (IntKind.wrap .i64 (3 * IntKind.wrap .i64 (1 + ((bringI faults 2)))) + 1)))))) (((markI (IntKind.wrap .i64 (1 + ((bringI x12.seq 6)))) x12.b)))).1)).crew)).2)
            · skip
              exact (Bool.false_ne_true (h32.symm.trans ((tr_law h12 (tr_vote hJ (tr_liar h12 h20))).2.2 h28).1)).elim
            · skip
              cases h33 : decide (((gR (lists (((voteM ms (IntKind.wrap .i64 (1 + ((bringI x12.node (IntKind.wrap .i64 (IntKind.wrap .i64 (3 * IntKind.wrap .i64 (1 + ((bringI faults 2)))) + 1)))))) (((markI (IntKind.wrap .i64 (1 + ((bringI x12.seq 6)))) x12.b)))).1))) (some_ (((voteM ms (IntKind.wrap .i64 (1 + ((bringI x12.node (IntKind.wrap .i64 (IntKind.wrap .i64 (3 * IntKind.wrap .i64 (1 + ((bringI faults 2)))) + 1)))))) (((markI (IntKind.wrap .i64 (1 + ((bringI x12.seq 6)))) x12.b)))).1)).crew)).1).dig = ((markI 0 ((0 : UInt8)))).dig)
              · skip
                exact absurd ((tr_law h12 (tr_vote hJ (tr_liar h12 h20))).2.1 h32) (of_decide_eq_false h33)
              · skip
                refine wcDrawT 28 fmix (by kernel_rfl) (by kernel_rfl) (by kernel_rfl) (by kernel_rfl) (vAt [(fun _ v_ => v_ = (.bool true)), (fun _ v_ => v_ = (.bool true)), (fun _ v_ => v_ = (.pointer (some ⟨b26, 1, none⟩))), (fun _ v_ => v_ = (.agg (((gR (lists (((voteM ms (IntKind.wrap .i64 (1 + ((bringI x12.node (IntKind.wrap .i64 (IntKind.wrap .i64 (3 * IntKind.wrap .i64 (1 + ((bringI faults 2)))) + 1)))))) (((markI (IntKind.wrap .i64 (1 + ((bringI x12.seq 6)))) x12.b)))).1))) (most (((voteM ms (IntKind.wrap .i64 (1 + ((bringI x12.node (IntKind.wrap .i64 (IntKind.wrap .i64 (3 * IntKind.wrap .i64 (1 + ((bringI faults 2)))) + 1)))))) (((markI (IntKind.wrap .i64 (1 + ((bringI x12.seq 6)))) x12.b)))).1)).crew)).1).dig).cells.toArray)), (fun _ v_ => v_ = (.agg (((markI 0 ((0 : UInt8))))).cells.toArray)), (fun _ v_ => v_ = (.agg (((markI 0 ((0 : UInt8)))).dig).cells.toArray)), (fun _ v_ => v_ = (.bool false)), (fun _ v_ => v_ = (.bool false)), (fun _ v_ => v_ = (.bool false)), (fun _ v_ => v_ = (.bool true)), (fun _ v_ => v_ = (.bool true)), (fun _ v_ => v_ = (.pointer (some ⟨b27, 1, none⟩))), (fun _ v_ => v_ = (.agg (((gR (lists (((voteM ms (IntKind.wrap .i64 (1 + ((bringI x12.node (IntKind.wrap .i64 (IntKind.wrap .i64 (3 * IntKind.wrap .i64 (1 + ((bringI faults 2)))) + 1)))))) (((markI (IntKind.wrap .i64 (1 + ((bringI x12.seq 6)))) x12.b)))).1))) (some_ (((voteM ms (IntKind.wrap .i64 (1 + ((bringI x12.node (IntKind.wrap .i64 (IntKind.wrap .i64 (3 * IntKind.wrap .i64 (1 + ((bringI faults 2)))) + 1)))))) (((markI (IntKind.wrap .i64 (1 + ((bringI x12.seq 6)))) x12.b)))).1)).crew)).1).dig).cells.toArray)), (fun _ v_ => v_ = (.agg (((markI 0 ((0 : UInt8))))).cells.toArray)), (fun _ v_ => v_ = (.agg (((markI 0 ((0 : UInt8)))).dig).cells.toArray)), (fun _ v_ => v_ = (.bool false)), (fun _ v_ => v_ = (.bool false)), (fun _ v_ => v_ = (.bool false)), (fun _ v_ => v_ = (.bool false)), (fun _ v_ => v_ = (.bool true)), (fun _ v_ => v_ = (.bool true)), (fun _ v_ => v_ = (.bool true)), (fun _ v_ => v_ = (.bool false)), (fun _ v_ => v_ = (.bool false)), (fun _ v_ => v_ = (.pointer (some ⟨b27, 0, none⟩))), (fun _ v_ => v_ = (.int .i64 (((gR (lists (((voteM ms (IntKind.wrap .i64 (1 + ((bringI x12.node (IntKind.wrap .i64 (IntKind.wrap .i64 (3 * IntKind.wrap .i64 (1 + ((bringI faults 2)))) + 1)))))) (((markI (IntKind.wrap .i64 (1 + ((bringI x12.seq 6)))) x12.b)))).1))) (some_ (((voteM ms (IntKind.wrap .i64 (1 + ((bringI x12.node (IntKind.wrap .i64 (IntKind.wrap .i64 (3 * IntKind.wrap .i64 (1 + ((bringI faults 2)))) + 1)))))) (((markI (IntKind.wrap .i64 (1 + ((bringI x12.seq 6)))) x12.b)))).1)).crew)).1).seq))), (fun _ v_ => v_ = (.pointer (some ⟨b26, 0, none⟩))), (fun _ v_ => v_ = (.int .i64 (((gR (lists (((voteM ms (IntKind.wrap .i64 (1 + ((bringI x12.node (IntKind.wrap .i64 (IntKind.wrap .i64 (3 * IntKind.wrap .i64 (1 + ((bringI faults 2)))) + 1)))))) (((markI (IntKind.wrap .i64 (1 + ((bringI x12.seq 6)))) x12.b)))).1))) (most (((voteM ms (IntKind.wrap .i64 (1 + ((bringI x12.node (IntKind.wrap .i64 (IntKind.wrap .i64 (3 * IntKind.wrap .i64 (1 + ((bringI faults 2)))) + 1)))))) (((markI (IntKind.wrap .i64 (1 + ((bringI x12.seq 6)))) x12.b)))).1)).crew)).1).seq)))]) (fun _ _ G' w => Cx w0 G0 G' w ⟨[], [(b8, o23), (l9, q24)]⟩ ∧ Bxs G' w w0.heap.size [(b27, 28, (((gR (lists (((voteM ms (IntKind.wrap .i64 (1 + ((bringI x12.node (IntKind.wrap .i64 (IntKind.wrap .i64 (3 * IntKind.wrap .i64 (1 + ((bringI faults 2)))) + 1)))))) (((markI (IntKind.wrap .i64 (1 + ((bringI x12.seq 6)))) x12.b)))).1))) (some_ (((voteM ms (IntKind.wrap .i64 (1 + ((bringI x12.node (IntKind.wrap .i64 (IntKind.wrap .i64 (3 * IntKind.wrap .i64 (1 + ((bringI faults 2)))) + 1)))))) (((markI (IntKind.wrap .i64 (1 + ((bringI x12.seq 6)))) x12.b)))).1)).crew)).1)).cells), (b26, 28, (((gR (lists (((voteM ms (IntKind.wrap .i64 (1 + ((bringI x12.node (IntKind.wrap .i64 (IntKind.wrap .i64 (3 * IntKind.wrap .i64 (1 + ((bringI faults 2)))) + 1)))))) (((markI (IntKind.wrap .i64 (1 + ((bringI x12.seq 6)))) x12.b)))).1))) (most (((voteM ms (IntKind.wrap .i64 (1 + ((bringI x12.node (IntKind.wrap .i64 (IntKind.wrap .i64 (3 * IntKind.wrap .i64 (1 + ((bringI faults 2)))) + 1)))))) (((markI (IntKind.wrap .i64 (1 + ((bringI x12.seq 6)))) x12.b)))).1)).crew)).1)).cells)] ⟨[], [(b8, o23), (l9, q24)]⟩ ∧ GLe G G') G (vAt_mono ⟨fun _ _ _ _ h => h, fun _ _ _ _ h => h, fun _ _ _ _ h => h, fun _ _ _ _ h => h, fun _ _ _ _ h => h, fun _ _ _ _ h => h, fun _ _ _ _ h => h, fun _ _ _ _ h => h, fun _ _ _ _ h => h, fun _ _ _ _ h => h, fun _ _ _ _ h => h, fun _ _ _ _ h => h, fun _ _ _ _ h => h, fun _ _ _ _ h => h, fun _ _ _ _ h => h, fun _ _ _ _ h => h, fun _ _ _ _ h => h, fun _ _ _ _ h => h, fun _ _ _ _ h => h, fun _ _ _ _ h => h, fun _ _ _ _ h => h, fun _ _ _ _ h => h, fun _ _ _ _ h => h, fun _ _ _ _ h => h, fun _ _ _ _ h => h, fun _ _ _ _ h => h, fun _ _ _ _ h => h, fun _ _ _ _ h => h, trivial⟩) (fun _ _ => ⟨hC.drew, hB.drew, fun _ _ h => h⟩) ?_ ?_
                · refine dsNone (j := 1) rfl ?_ ?_
                  · intro done G w ac_ hd hp hn ⟨hC, hB, hg⟩ hM
                    have f11 : ac_.tmps[11]? = some (.bool true) := hM.old0 rfl rfl
                    have hF : Fr 102 ac_ (Env.nil.put 11 (.bool true)) := (hM.fr.add f11)
                    exact OpVal.draw hF (opMove rfl) ⟨G, fun _ _ h => h, ⟨hC, hB, hg⟩, rfl⟩
                  refine dsNone (j := 2) rfl ?_ ?_
                  · intro done G w ac_ hd hp hn ⟨hC, hB, hg⟩ hM
                    have f69 : ac_.tmps[69]? = some (.bool true) := hM.eqv 0 rfl (hp 0 rfl) rfl rfl
                    have hF : Fr 102 ac_ (Env.nil.put 69 (.bool true)) := (hM.fr.add f69)
                    exact OpVal.draw hF (opMove rfl) ⟨G, fun _ _ h => h, ⟨hC, hB, hg⟩, rfl⟩
                  refine dsOn (j := 3) rfl rfl ?_ ?_
                  · intro done G w ac_ hd hp hn ⟨hC, hB, hg⟩ hM
                    have f10 : ac_.tmps[10]? = some (.pointer (some ⟨b26, 0, none⟩)) := hM.old0 rfl rfl
                    have f70 : ac_.tmps[70]? = some (.bool true) := hM.eqv 1 rfl (hp 1 rfl) rfl rfl
                    refine ⟨f70, ?_⟩
                    have hF : Fr 102 ac_ (Env.nil.put 10 (.pointer (some ⟨b26, 0, none⟩))) := (hM.fr.add f10)
                    exact OpVal.draw hF (opFieldAddr rfl fo28_1) ⟨G, fun _ _ h => h, ⟨hC, hB, hg⟩, rfl⟩
                  refine dsOn (j := 4) rfl rfl ?_ ?_
                  · intro done G w ac_ hd hp hn ⟨hC, hB, hg⟩ hM
                    have f71 : ac_.tmps[71]? = some (.pointer (some ⟨b26, 1, none⟩)) := hM.eqv 2 rfl (hp 2 rfl) rfl rfl
                    have f70 : ac_.tmps[70]? = some (.bool true) := hM.eqv 1 rfl (hp 1 rfl) rfl rfl
                    refine ⟨f70, ?_⟩
                    have hF : Fr 102 ac_ (Env.nil.put 71 (.pointer (some ⟨b26, 1, none⟩))) := (hM.fr.add f71)
                    exact OpVal.draw hF (opLoadRow (cs := (((gR (lists (((voteM ms (IntKind.wrap .i64 (1 + ((bringI x12.node (IntKind.wrap .i64 (IntKind.wrap .i64 (3 * IntKind.wrap .i64 (1 + ((bringI faults 2)))) + 1)))))) (((markI (IntKind.wrap .i64 (1 + ((bringI x12.seq 6)))) x12.b)))).1))) (most (((voteM ms (IntKind.wrap .i64 (1 + ((bringI x12.node (IntKind.wrap .i64 (IntKind.wrap .i64 (3 * IntKind.wrap .i64 (1 + ((bringI faults 2)))) + 1)))))) (((markI (IntKind.wrap .i64 (1 + ((bringI x12.seq 6)))) x12.b)))).1)).crew)).1).dig).cells) rfl (hB.range (i := 1) (m := 32) rfl (by simp [Mark.cells, Do.cells, Word.cells])) row26 (by simp [Mark.cells, Do.cells, Word.cells])) ⟨G, fun _ _ h => h, ⟨hC, hB, hg⟩, rfl⟩
                  refine dsOn (j := 5) rfl rfl ?_ ?_
                  · intro done G w ac_ hd hp hn ⟨hC, hB, hg⟩ hM
                    have f70 : ac_.tmps[70]? = some (.bool true) := hM.eqv 1 rfl (hp 1 rfl) rfl rfl
                    refine ⟨f70, ?_⟩
                    have hF : Fr 102 ac_ Env.nil := hM.fr
                    exact drawCallS hF rfl co19 rfl (mark_ret _ _ hC.holds 0 ((0 : UInt8))) (fun w' hk => ⟨G, fun _ _ h => h, ⟨hC.trans hk, hB.ext hk, hg⟩, rfl⟩)
                  refine dsOn (j := 6) rfl rfl ?_ ?_
                  · intro done G w ac_ hd hp hn ⟨hC, hB, hg⟩ hM
                    have f73 : ac_.tmps[73]? = some (.agg (((markI 0 ((0 : UInt8))))).cells.toArray) := hM.eqv 4 rfl (hp 4 rfl) rfl rfl
                    have f70 : ac_.tmps[70]? = some (.bool true) := hM.eqv 1 rfl (hp 1 rfl) rfl rfl
                    refine ⟨f70, ?_⟩
                    have hF : Fr 102 ac_ (Env.nil.put 73 (.agg (((markI 0 ((0 : UInt8))))).cells.toArray)) := (hM.fr.add f73)
                    exact OpVal.draw hF (opFieldRow (cs := (((markI 0 ((0 : UInt8))))).cells) (r := (((markI 0 ((0 : UInt8)))).dig).cells) rfl fi28_1 row26 (by simp [Mark.cells, Do.cells, Word.cells])) ⟨G, fun _ _ h => h, ⟨hC, hB, hg⟩, rfl⟩
                  refine dsOn (j := 7) rfl rfl ?_ ?_
                  · intro done G w ac_ hd hp hn ⟨hC, hB, hg⟩ hM
                    have f72 : ac_.tmps[72]? = some (.agg (((gR (lists (((voteM ms (IntKind.wrap .i64 (1 + ((bringI x12.node (IntKind.wrap .i64 (IntKind.wrap .i64 (3 * IntKind.wrap .i64 (1 + ((bringI faults 2)))) + 1)))))) (((markI (IntKind.wrap .i64 (1 + ((bringI x12.seq 6)))) x12.b)))).1))) (most (((voteM ms (IntKind.wrap .i64 (1 + ((bringI x12.node (IntKind.wrap .i64 (IntKind.wrap .i64 (3 * IntKind.wrap .i64 (1 + ((bringI faults 2)))) + 1)))))) (((markI (IntKind.wrap .i64 (1 + ((bringI x12.seq 6)))) x12.b)))).1)).crew)).1).dig).cells.toArray) := hM.eqv 3 rfl (hp 3 rfl) rfl rfl
                    have f74 : ac_.tmps[74]? = some (.agg (((markI 0 ((0 : UInt8)))).dig).cells.toArray) := hM.eqv 5 rfl (hp 5 rfl) rfl rfl
                    have f70 : ac_.tmps[70]? = some (.bool true) := hM.eqv 1 rfl (hp 1 rfl) rfl rfl
                    refine ⟨f70, ?_⟩
                    have hF : Fr 102 ac_ ((Env.nil.put 72 (.agg (((gR (lists (((voteM ms (IntKind.wrap .i64 (1 + ((bringI x12.node (IntKind.wrap .i64 (IntKind.wrap .i64 (3 * IntKind.wrap .i64 (1 + ((bringI faults 2)))) + 1)))))) (((markI (IntKind.wrap .i64 (1 + ((bringI x12.seq 6)))) x12.b)))).1))) (most (((voteM ms (IntKind.wrap .i64 (1 + ((bringI x12.node (IntKind.wrap .i64 (IntKind.wrap .i64 (3 * IntKind.wrap .i64 (1 + ((bringI faults 2)))) + 1)))))) (((markI (IntKind.wrap .i64 (1 + ((bringI x12.seq 6)))) x12.b)))).1)).crew)).1).dig).cells.toArray)).put 74 (.agg (((markI 0 ((0 : UInt8)))).dig).cells.toArray)) := ((hM.fr.add f72).add f74)
                    exact OpVal.draw hF (OpVal.cast (opNeRow (eq26 _ (((gR (lists (((voteM ms (IntKind.wrap .i64 (1 + ((bringI x12.node (IntKind.wrap .i64 (IntKind.wrap .i64 (3 * IntKind.wrap .i64 (1 + ((bringI faults 2)))) + 1)))))) (((markI (IntKind.wrap .i64 (1 + ((bringI x12.seq 6)))) x12.b)))).1))) (most (((voteM ms (IntKind.wrap .i64 (1 + ((bringI x12.node (IntKind.wrap .i64 (IntKind.wrap .i64 (3 * IntKind.wrap .i64 (1 + ((bringI faults 2)))) + 1)))))) (((markI (IntKind.wrap .i64 (1 + ((bringI x12.seq 6)))) x12.b)))).1)).crew)).1).dig) (((markI 0 ((0 : UInt8)))).dig)) eg26 rfl rfl) (congrArg Value.bool (by rw [h31]; rfl))) ⟨G, fun _ _ h => h, ⟨hC, hB, hg⟩, rfl⟩
                  refine dsNone (j := 8) rfl ?_ ?_
                  · intro done G w ac_ hd hp hn ⟨hC, hB, hg⟩ hM
                    have f70 : ac_.tmps[70]? = some (.bool true) := hM.eqv 1 rfl (hp 1 rfl) rfl rfl
                    have f75 : ac_.tmps[75]? = some (.bool false) := hM.eqv 6 rfl (hp 6 rfl) rfl rfl
                    have hF : Fr 102 ac_ ((Env.nil.put 70 (.bool true)).put 75 (.bool false)) := ((hM.fr.add f70).add f75)
                    exact OpVal.draw hF (opPickT rfl rfl) ⟨G, fun _ _ h => h, ⟨hC, hB, hg⟩, rfl⟩
                  refine dsNone (j := 9) rfl ?_ ?_
                  · intro done G w ac_ hd hp hn ⟨hC, hB, hg⟩ hM
                    have f76 : ac_.tmps[76]? = some (.bool false) := hM.eqv 7 rfl (hp 7 rfl) rfl rfl
                    have hF : Fr 102 ac_ (Env.nil.put 76 (.bool false)) := (hM.fr.add f76)
                    exact OpVal.draw hF (opMove rfl) ⟨G, fun _ _ h => h, ⟨hC, hB, hg⟩, rfl⟩
                  refine dsOn (j := 10) rfl rfl ?_ ?_
                  · intro done G w ac_ hd hp hn ⟨hC, hB, hg⟩ hM
                    have f13 : ac_.tmps[13]? = some (.bool true) := hM.old0 rfl rfl
                    have f77 : ac_.tmps[77]? = some (.bool false) := hM.eqv 8 rfl (hp 8 rfl) rfl rfl
                    refine ⟨f77, ?_⟩
                    have hF : Fr 102 ac_ (Env.nil.put 13 (.bool true)) := (hM.fr.add f13)
                    exact OpVal.draw hF (opMove rfl) ⟨G, fun _ _ h => h, ⟨hC, hB, hg⟩, rfl⟩
                  refine dsOn (j := 11) rfl rfl ?_ ?_
                  · intro done G w ac_ hd hp hn ⟨hC, hB, hg⟩ hM
                    have f78 : ac_.tmps[78]? = some (.bool true) := hM.eqv 9 rfl (hp 9 rfl) rfl rfl
                    have f77 : ac_.tmps[77]? = some (.bool false) := hM.eqv 8 rfl (hp 8 rfl) rfl rfl
                    refine ⟨f77, ?_⟩
                    have hF : Fr 102 ac_ (Env.nil.put 78 (.bool true)) := (hM.fr.add f78)
                    exact OpVal.draw hF (opMove rfl) ⟨G, fun _ _ h => h, ⟨hC, hB, hg⟩, rfl⟩
                  refine dsOn (j := 12) rfl rfl ?_ ?_
                  · intro done G w ac_ hd hp hn ⟨hC, hB, hg⟩ hM
                    have f12 : ac_.tmps[12]? = some (.pointer (some ⟨b27, 0, none⟩)) := hM.old0 rfl rfl
                    have f79 : ac_.tmps[79]? = some (.bool true) := hM.eqv 10 rfl (hp 10 rfl) rfl rfl
                    refine ⟨f79, ?_⟩
                    have hF : Fr 102 ac_ (Env.nil.put 12 (.pointer (some ⟨b27, 0, none⟩))) := (hM.fr.add f12)
                    exact OpVal.draw hF (opFieldAddr rfl fo28_1) ⟨G, fun _ _ h => h, ⟨hC, hB, hg⟩, rfl⟩
                  refine dsOn (j := 13) rfl rfl ?_ ?_
                  · intro done G w ac_ hd hp hn ⟨hC, hB, hg⟩ hM
                    have f80 : ac_.tmps[80]? = some (.pointer (some ⟨b27, 1, none⟩)) := hM.eqv 11 rfl (hp 11 rfl) rfl rfl
                    have f79 : ac_.tmps[79]? = some (.bool true) := hM.eqv 10 rfl (hp 10 rfl) rfl rfl
                    refine ⟨f79, ?_⟩
                    have hF : Fr 102 ac_ (Env.nil.put 80 (.pointer (some ⟨b27, 1, none⟩))) := (hM.fr.add f80)
                    exact OpVal.draw hF (opLoadRow (cs := (((gR (lists (((voteM ms (IntKind.wrap .i64 (1 + ((bringI x12.node (IntKind.wrap .i64 (IntKind.wrap .i64 (3 * IntKind.wrap .i64 (1 + ((bringI faults 2)))) + 1)))))) (((markI (IntKind.wrap .i64 (1 + ((bringI x12.seq 6)))) x12.b)))).1))) (some_ (((voteM ms (IntKind.wrap .i64 (1 + ((bringI x12.node (IntKind.wrap .i64 (IntKind.wrap .i64 (3 * IntKind.wrap .i64 (1 + ((bringI faults 2)))) + 1)))))) (((markI (IntKind.wrap .i64 (1 + ((bringI x12.seq 6)))) x12.b)))).1)).crew)).1).dig).cells) rfl (hB.range (i := 0) (m := 32) rfl (by simp [Mark.cells, Do.cells, Word.cells])) row26 (by simp [Mark.cells, Do.cells, Word.cells])) ⟨G, fun _ _ h => h, ⟨hC, hB, hg⟩, rfl⟩
                  refine dsOn (j := 14) rfl rfl ?_ ?_
                  · intro done G w ac_ hd hp hn ⟨hC, hB, hg⟩ hM
                    have f79 : ac_.tmps[79]? = some (.bool true) := hM.eqv 10 rfl (hp 10 rfl) rfl rfl
                    refine ⟨f79, ?_⟩
                    have hF : Fr 102 ac_ Env.nil := hM.fr
                    exact drawCallS hF rfl co19 rfl (mark_ret _ _ hC.holds 0 ((0 : UInt8))) (fun w' hk => ⟨G, fun _ _ h => h, ⟨hC.trans hk, hB.ext hk, hg⟩, rfl⟩)
                  refine dsOn (j := 15) rfl rfl ?_ ?_
                  · intro done G w ac_ hd hp hn ⟨hC, hB, hg⟩ hM
                    have f82 : ac_.tmps[82]? = some (.agg (((markI 0 ((0 : UInt8))))).cells.toArray) := hM.eqv 13 rfl (hp 13 rfl) rfl rfl
                    have f79 : ac_.tmps[79]? = some (.bool true) := hM.eqv 10 rfl (hp 10 rfl) rfl rfl
                    refine ⟨f79, ?_⟩
                    have hF : Fr 102 ac_ (Env.nil.put 82 (.agg (((markI 0 ((0 : UInt8))))).cells.toArray)) := (hM.fr.add f82)
                    exact OpVal.draw hF (opFieldRow (cs := (((markI 0 ((0 : UInt8))))).cells) (r := (((markI 0 ((0 : UInt8)))).dig).cells) rfl fi28_1 row26 (by simp [Mark.cells, Do.cells, Word.cells])) ⟨G, fun _ _ h => h, ⟨hC, hB, hg⟩, rfl⟩
                  refine dsOn (j := 16) rfl rfl ?_ ?_
                  · intro done G w ac_ hd hp hn ⟨hC, hB, hg⟩ hM
                    have f81 : ac_.tmps[81]? = some (.agg (((gR (lists (((voteM ms (IntKind.wrap .i64 (1 + ((bringI x12.node (IntKind.wrap .i64 (IntKind.wrap .i64 (3 * IntKind.wrap .i64 (1 + ((bringI faults 2)))) + 1)))))) (((markI (IntKind.wrap .i64 (1 + ((bringI x12.seq 6)))) x12.b)))).1))) (some_ (((voteM ms (IntKind.wrap .i64 (1 + ((bringI x12.node (IntKind.wrap .i64 (IntKind.wrap .i64 (3 * IntKind.wrap .i64 (1 + ((bringI faults 2)))) + 1)))))) (((markI (IntKind.wrap .i64 (1 + ((bringI x12.seq 6)))) x12.b)))).1)).crew)).1).dig).cells.toArray) := hM.eqv 12 rfl (hp 12 rfl) rfl rfl
                    have f83 : ac_.tmps[83]? = some (.agg (((markI 0 ((0 : UInt8)))).dig).cells.toArray) := hM.eqv 14 rfl (hp 14 rfl) rfl rfl
                    have f79 : ac_.tmps[79]? = some (.bool true) := hM.eqv 10 rfl (hp 10 rfl) rfl rfl
                    refine ⟨f79, ?_⟩
                    have hF : Fr 102 ac_ ((Env.nil.put 81 (.agg (((gR (lists (((voteM ms (IntKind.wrap .i64 (1 + ((bringI x12.node (IntKind.wrap .i64 (IntKind.wrap .i64 (3 * IntKind.wrap .i64 (1 + ((bringI faults 2)))) + 1)))))) (((markI (IntKind.wrap .i64 (1 + ((bringI x12.seq 6)))) x12.b)))).1))) (some_ (((voteM ms (IntKind.wrap .i64 (1 + ((bringI x12.node (IntKind.wrap .i64 (IntKind.wrap .i64 (3 * IntKind.wrap .i64 (1 + ((bringI faults 2)))) + 1)))))) (((markI (IntKind.wrap .i64 (1 + ((bringI x12.seq 6)))) x12.b)))).1)).crew)).1).dig).cells.toArray)).put 83 (.agg (((markI 0 ((0 : UInt8)))).dig).cells.toArray)) := ((hM.fr.add f81).add f83)
                    exact OpVal.draw hF (OpVal.cast (opNeRow (eq26 _ (((gR (lists (((voteM ms (IntKind.wrap .i64 (1 + ((bringI x12.node (IntKind.wrap .i64 (IntKind.wrap .i64 (3 * IntKind.wrap .i64 (1 + ((bringI faults 2)))) + 1)))))) (((markI (IntKind.wrap .i64 (1 + ((bringI x12.seq 6)))) x12.b)))).1))) (some_ (((voteM ms (IntKind.wrap .i64 (1 + ((bringI x12.node (IntKind.wrap .i64 (IntKind.wrap .i64 (3 * IntKind.wrap .i64 (1 + ((bringI faults 2)))) + 1)))))) (((markI (IntKind.wrap .i64 (1 + ((bringI x12.seq 6)))) x12.b)))).1)).crew)).1).dig) (((markI 0 ((0 : UInt8)))).dig)) eg26 rfl rfl) (congrArg Value.bool (by rw [h33]; rfl))) ⟨G, fun _ _ h => h, ⟨hC, hB, hg⟩, rfl⟩
                  refine dsOn (j := 17) rfl rfl ?_ ?_
                  · intro done G w ac_ hd hp hn ⟨hC, hB, hg⟩ hM
                    have f79 : ac_.tmps[79]? = some (.bool true) := hM.eqv 10 rfl (hp 10 rfl) rfl rfl
                    have f84 : ac_.tmps[84]? = some (.bool false) := hM.eqv 15 rfl (hp 15 rfl) rfl rfl
                    have f77 : ac_.tmps[77]? = some (.bool false) := hM.eqv 8 rfl (hp 8 rfl) rfl rfl
                    refine ⟨f77, ?_⟩
                    have hF : Fr 102 ac_ ((Env.nil.put 79 (.bool true)).put 84 (.bool false)) := ((hM.fr.add f79).add f84)
                    exact OpVal.draw hF (opPickT rfl rfl) ⟨G, fun _ _ h => h, ⟨hC, hB, hg⟩, rfl⟩
                  refine dsNone (j := 18) rfl ?_ ?_
                  · intro done G w ac_ hd hp hn ⟨hC, hB, hg⟩ hM
                    have f77 : ac_.tmps[77]? = some (.bool false) := hM.eqv 8 rfl (hp 8 rfl) rfl rfl
                    have f85 : ac_.tmps[85]? = some (.bool false) := hM.eqv 16 rfl (hp 16 rfl) rfl rfl
                    have hF : Fr 102 ac_ ((Env.nil.put 77 (.bool false)).put 85 (.bool false)) := ((hM.fr.add f77).add f85)
                    exact OpVal.draw hF (opPickF rfl rfl) ⟨G, fun _ _ h => h, ⟨hC, hB, hg⟩, rfl⟩
                  refine dsNone (j := 19) rfl ?_ ?_
                  · intro done G w ac_ hd hp hn ⟨hC, hB, hg⟩ hM
                    have f86 : ac_.tmps[86]? = some (.bool false) := hM.eqv 17 rfl (hp 17 rfl) rfl rfl
                    have hF : Fr 102 ac_ (Env.nil.put 86 (.bool false)) := (hM.fr.add f86)
                    exact OpVal.draw hF (opMove rfl) ⟨G, fun _ _ h => h, ⟨hC, hB, hg⟩, rfl⟩
                  refine dsOn (j := 20) rfl rfl ?_ ?_
                  · intro done G w ac_ hd hp hn ⟨hC, hB, hg⟩ hM
                    have f11 : ac_.tmps[11]? = some (.bool true) := hM.old0 rfl rfl
                    have f87 : ac_.tmps[87]? = some (.bool false) := hM.eqv 18 rfl (hp 18 rfl) rfl rfl
                    refine ⟨f87, ?_⟩
                    have hF : Fr 102 ac_ (Env.nil.put 11 (.bool true)) := (hM.fr.add f11)
                    exact OpVal.draw hF (opMove rfl) ⟨G, fun _ _ h => h, ⟨hC, hB, hg⟩, rfl⟩
                  refine dsOn (j := 21) rfl rfl ?_ ?_
                  · intro done G w ac_ hd hp hn ⟨hC, hB, hg⟩ hM
                    have f88 : ac_.tmps[88]? = some (.bool true) := hM.eqv 19 rfl (hp 19 rfl) rfl rfl
                    have f87 : ac_.tmps[87]? = some (.bool false) := hM.eqv 18 rfl (hp 18 rfl) rfl rfl
                    refine ⟨f87, ?_⟩
                    have hF : Fr 102 ac_ (Env.nil.put 88 (.bool true)) := (hM.fr.add f88)
                    exact OpVal.draw hF (opMove rfl) ⟨G, fun _ _ h => h, ⟨hC, hB, hg⟩, rfl⟩
                  refine dsOn (j := 22) rfl rfl ?_ ?_
                  · intro done G w ac_ hd hp hn ⟨hC, hB, hg⟩ hM
                    have f13 : ac_.tmps[13]? = some (.bool true) := hM.old0 rfl rfl
                    have f89 : ac_.tmps[89]? = some (.bool true) := hM.eqv 20 rfl (hp 20 rfl) rfl rfl
                    refine ⟨f89, ?_⟩
                    have hF : Fr 102 ac_ (Env.nil.put 13 (.bool true)) := (hM.fr.add f13)
                    exact OpVal.draw hF (opMove rfl) ⟨G, fun _ _ h => h, ⟨hC, hB, hg⟩, rfl⟩
                  refine dsOn (j := 23) rfl rfl ?_ ?_
                  · intro done G w ac_ hd hp hn ⟨hC, hB, hg⟩ hM
                    have f90 : ac_.tmps[90]? = some (.bool true) := hM.eqv 21 rfl (hp 21 rfl) rfl rfl
                    have f89 : ac_.tmps[89]? = some (.bool true) := hM.eqv 20 rfl (hp 20 rfl) rfl rfl
                    refine ⟨f89, ?_⟩
                    have hF : Fr 102 ac_ (Env.nil.put 90 (.bool true)) := (hM.fr.add f90)
                    exact OpVal.draw hF (opNot rfl) ⟨G, fun _ _ h => h, ⟨hC, hB, hg⟩, rfl⟩
                  refine dsOn (j := 24) rfl rfl ?_ ?_
                  · intro done G w ac_ hd hp hn ⟨hC, hB, hg⟩ hM
                    have f91 : ac_.tmps[91]? = some (.bool false) := hM.eqv 22 rfl (hp 22 rfl) rfl rfl
                    have f89 : ac_.tmps[89]? = some (.bool true) := hM.eqv 20 rfl (hp 20 rfl) rfl rfl
                    refine ⟨f89, ?_⟩
                    have hF : Fr 102 ac_ (Env.nil.put 91 (.bool false)) := (hM.fr.add f91)
                    exact OpVal.draw hF (opMove rfl) ⟨G, fun _ _ h => h, ⟨hC, hB, hg⟩, rfl⟩
                  refine dsOn (j := 25) rfl rfl ?_ ?_
                  · intro done G w ac_ hd hp hn ⟨hC, hB, hg⟩ hM
                    have f12 : ac_.tmps[12]? = some (.pointer (some ⟨b27, 0, none⟩)) := hM.old0 rfl rfl
                    have f92 : ac_.tmps[92]? = some (.bool false) := hM.eqv 23 rfl (hp 23 rfl) rfl rfl
                    refine ⟨f92, ?_⟩
                    have hF : Fr 102 ac_ (Env.nil.put 12 (.pointer (some ⟨b27, 0, none⟩))) := (hM.fr.add f12)
                    exact OpVal.draw hF (opFieldAddr rfl fo28_0) ⟨G, fun _ _ h => h, ⟨hC, hB, hg⟩, rfl⟩
                  refine dsOn (j := 26) rfl rfl ?_ ?_
                  · intro done G w ac_ hd hp hn ⟨hC, hB, hg⟩ hM
                    have f93 : ac_.tmps[93]? = some (.pointer (some ⟨b27, 0, none⟩)) := hM.eqv 24 rfl (hp 24 rfl) rfl rfl
                    have f92 : ac_.tmps[92]? = some (.bool false) := hM.eqv 23 rfl (hp 23 rfl) rfl rfl
                    refine ⟨f92, ?_⟩
                    have hF : Fr 102 ac_ (Env.nil.put 93 (.pointer (some ⟨b27, 0, none⟩))) := (hM.fr.add f93)
                    exact OpVal.draw hF (opLoadOne (v := (.int .i64 (((gR (lists (((voteM ms (IntKind.wrap .i64 (1 + ((bringI x12.node (IntKind.wrap .i64 (IntKind.wrap .i64 (3 * IntKind.wrap .i64 (1 + ((bringI faults 2)))) + 1)))))) (((markI (IntKind.wrap .i64 (1 + ((bringI x12.seq 6)))) x12.b)))).1))) (some_ (((voteM ms (IntKind.wrap .i64 (1 + ((bringI x12.node (IntKind.wrap .i64 (IntKind.wrap .i64 (3 * IntKind.wrap .i64 (1 + ((bringI faults 2)))) + 1)))))) (((markI (IntKind.wrap .i64 (1 + ((bringI x12.seq 6)))) x12.b)))).1)).crew)).1).seq))) rfl (hB.cell (i := 0) rfl (by simp [Mark.cells, Do.cells, Word.cells])) one3) ⟨G, fun _ _ h => h, ⟨hC, hB, hg⟩, rfl⟩
                  refine dsOn (j := 27) rfl rfl ?_ ?_
                  · intro done G w ac_ hd hp hn ⟨hC, hB, hg⟩ hM
                    have f10 : ac_.tmps[10]? = some (.pointer (some ⟨b26, 0, none⟩)) := hM.old0 rfl rfl
                    have f92 : ac_.tmps[92]? = some (.bool false) := hM.eqv 23 rfl (hp 23 rfl) rfl rfl
                    refine ⟨f92, ?_⟩
                    have hF : Fr 102 ac_ (Env.nil.put 10 (.pointer (some ⟨b26, 0, none⟩))) := (hM.fr.add f10)
                    exact OpVal.draw hF (opFieldAddr rfl fo28_0) ⟨G, fun _ _ h => h, ⟨hC, hB, hg⟩, rfl⟩
                  refine dsOn (j := 28) rfl rfl ?_ ?_
                  · intro done G w ac_ hd hp hn ⟨hC, hB, hg⟩ hM
                    have f95 : ac_.tmps[95]? = some (.pointer (some ⟨b26, 0, none⟩)) := hM.eqv 26 rfl (hp 26 rfl) rfl rfl
                    have f92 : ac_.tmps[92]? = some (.bool false) := hM.eqv 23 rfl (hp 23 rfl) rfl rfl
                    refine ⟨f92, ?_⟩
                    have hF : Fr 102 ac_ (Env.nil.put 95 (.pointer (some ⟨b26, 0, none⟩))) := (hM.fr.add f95)
                    exact OpVal.draw hF (opLoadOne (v := (.int .i64 (((gR (lists (((voteM ms (IntKind.wrap .i64 (1 + ((bringI x12.node (IntKind.wrap .i64 (IntKind.wrap .i64 (3 * IntKind.wrap .i64 (1 + ((bringI faults 2)))) + 1)))))) (((markI (IntKind.wrap .i64 (1 + ((bringI x12.seq 6)))) x12.b)))).1))) (most (((voteM ms (IntKind.wrap .i64 (1 + ((bringI x12.node (IntKind.wrap .i64 (IntKind.wrap .i64 (3 * IntKind.wrap .i64 (1 + ((bringI faults 2)))) + 1)))))) (((markI (IntKind.wrap .i64 (1 + ((bringI x12.seq 6)))) x12.b)))).1)).crew)).1).seq))) rfl (hB.cell (i := 1) rfl (by simp [Mark.cells, Do.cells, Word.cells])) one3) ⟨G, fun _ _ h => h, ⟨hC, hB, hg⟩, rfl⟩
                  exact dsNil
                · intro done G w ac_ hall htl ⟨hC, hB, hg⟩ hM
                  replace hl := hl.mono hg
                  replace hr17 := hr17.mono hg
                  replace h25 := h25.mono hg
                  have f1 : ac_.tmps[1]? = some (.slice (some ⟨b14, o15, none⟩) l.length cap2) := hM.old0 rfl rfl
                  have f5 : ac_.tmps[5]? = some (.int .i64 (IntKind.wrap .i64 (1 + ((bringI faults 2))))) := hM.old0 rfl rfl
                  have f6 : ac_.tmps[6]? = some (.pointer (some ⟨b8, 0, none⟩)) := hM.old0 rfl rfl
                  have f7 : ac_.tmps[7]? = some (.int .i64 (((k : Nat) : Int))) := hM.old0 rfl rfl
                  have f87 : ac_.tmps[87]? = some (.bool false) := hM.eqv 18 rfl (hall 18 rfl) rfl rfl
                  have f89 : ac_.tmps[89]? = some (.bool true) := hM.eqv 20 rfl (hall 20 rfl) rfl rfl
                  have f92 : ac_.tmps[92]? = some (.bool false) := hM.eqv 23 rfl (hall 23 rfl) rfl rfl
                  have f94 : ac_.tmps[94]? = some (.int .i64 (((gR (lists (((voteM ms (IntKind.wrap .i64 (1 + ((bringI x12.node (IntKind.wrap .i64 (IntKind.wrap .i64 (3 * IntKind.wrap .i64 (1 + ((bringI faults 2)))) + 1)))))) (((markI (IntKind.wrap .i64 (1 + ((bringI x12.seq 6)))) x12.b)))).1))) (some_ (((voteM ms (IntKind.wrap .i64 (1 + ((bringI x12.node (IntKind.wrap .i64 (IntKind.wrap .i64 (3 * IntKind.wrap .i64 (1 + ((bringI faults 2)))) + 1)))))) (((markI (IntKind.wrap .i64 (1 + ((bringI x12.seq 6)))) x12.b)))).1)).crew)).1).seq)) := hM.eqv 25 rfl (hall 25 rfl) rfl rfl
                  have f96 : ac_.tmps[96]? = some (.int .i64 (((gR (lists (((voteM ms (IntKind.wrap .i64 (1 + ((bringI x12.node (IntKind.wrap .i64 (IntKind.wrap .i64 (3 * IntKind.wrap .i64 (1 + ((bringI faults 2)))) + 1)))))) (((markI (IntKind.wrap .i64 (1 + ((bringI x12.seq 6)))) x12.b)))).1))) (most (((voteM ms (IntKind.wrap .i64 (1 + ((bringI x12.node (IntKind.wrap .i64 (IntKind.wrap .i64 (3 * IntKind.wrap .i64 (1 + ((bringI faults 2)))) + 1)))))) (((markI (IntKind.wrap .i64 (1 + ((bringI x12.seq 6)))) x12.b)))).1)).crew)).1).seq)) := hM.eqv 27 rfl (hall 27 rfl) rfl rfl
                  refine ⟨(((((((((Env.nil.put 1 (.slice (some ⟨b14, o15, none⟩) l.length cap2)).put 5 (.int .i64 (IntKind.wrap .i64 (1 + ((bringI faults 2)))))).put 6 (.pointer (some ⟨b8, 0, none⟩))).put 7 (.int .i64 (((k : Nat) : Int)))).put 87 (.bool false)).put 89 (.bool true)).put 92 (.bool false)).put 94 (.int .i64 (((gR (lists (((voteM ms (IntKind.wrap .i64 (1 + ((bringI x12.node (IntKind.wrap .i64 (IntKind.wrap .i64 (3 * IntKind.wrap .i64 (1 + ((bringI faults 2)))) + 1)))))) (((markI (IntKind.wrap .i64 (1 + ((bringI x12.seq 6)))) x12.b)))).1))) (some_ (((voteM ms (IntKind.wrap .i64 (1 + ((bringI x12.node (IntKind.wrap .i64 (IntKind.wrap .i64 (3 * IntKind.wrap .i64 (1 + ((bringI faults 2)))) + 1)))))) (((markI (IntKind.wrap .i64 (1 + ((bringI x12.seq 6)))) x12.b)))).1)).crew)).1).seq))).put 96 (.int .i64 (((gR (lists (((voteM ms (IntKind.wrap .i64 (1 + ((bringI x12.node (IntKind.wrap .i64 (IntKind.wrap .i64 (3 * IntKind.wrap .i64 (1 + ((bringI faults 2)))) + 1)))))) (((markI (IntKind.wrap .i64 (1 + ((bringI x12.seq 6)))) x12.b)))).1))) (most (((voteM ms (IntKind.wrap .i64 (1 + ((bringI x12.node (IntKind.wrap .i64 (IntKind.wrap .i64 (3 * IntKind.wrap .i64 (1 + ((bringI faults 2)))) + 1)))))) (((markI (IntKind.wrap .i64 (1 + ((bringI x12.seq 6)))) x12.b)))).1)).crew)).1).seq))), (((((((((hM.fr.add f1).add f5).add f6).add f7).add f87).add f89).add f92).add f94).add f96), ?_⟩
                  clear hM hall htl
                  refine wlOn rfl rfl ?_
                  refine wlVal (opLss rfl rfl) rfl ?_
                  refine wlOn rfl rfl ?_
                  refine wlVal (opPickF rfl rfl) rfl ?_
                  refine wlOn rfl rfl ?_
                  refine wlVal (opPickT rfl rfl) rfl ?_
                  refine wlVal (opPickF rfl rfl) rfl ?_
                  refine wlThen ?_
                  cases h34 : decide (((gR (lists (((voteM ms (IntKind.wrap .i64 (1 + ((bringI x12.node (IntKind.wrap .i64 (IntKind.wrap .i64 (3 * IntKind.wrap .i64 (1 + ((bringI faults 2)))) + 1)))))) (((markI (IntKind.wrap .i64 (1 + ((bringI x12.seq 6)))) x12.b)))).1))) (some_ (((voteM ms (IntKind.wrap .i64 (1 + ((bringI x12.node (IntKind.wrap .i64 (IntKind.wrap .i64 (3 * IntKind.wrap .i64 (1 + ((bringI faults 2)))) + 1)))))) (((markI (IntKind.wrap .i64 (1 + ((bringI x12.seq 6)))) x12.b)))).1)).crew)).1).seq < ((gR (lists (((voteM ms (IntKind.wrap .i64 (1 + ((bringI x12.node (IntKind.wrap .i64 (IntKind.wrap .i64 (3 * IntKind.wrap .i64 (1 + ((bringI faults 2)))) + 1)))))) (((markI (IntKind.wrap .i64 (1 + ((bringI x12.seq 6)))) x12.b)))).1))) (most (((voteM ms (IntKind.wrap .i64 (1 + ((bringI x12.node (IntKind.wrap .i64 (IntKind.wrap .i64 (3 * IntKind.wrap .i64 (1 + ((bringI faults 2)))) + 1)))))) (((markI (IntKind.wrap .i64 (1 + ((bringI x12.seq 6)))) x12.b)))).1)).crew)).1).seq)
                  · skip
                    refine wcCondF rfl ?_
                    refine wcSkip ?_
                    refine wcOf ?_
                    refine wcRegion ?_
                    refine wlVal (opMove rfl) rfl ?_
                    refine wlVal (opIncr rfl rfl (incr_ok (of_decide_eq_true h10) hl.le)) rfl ?_
                    refine wlVal (opAssign rfl) rfl ?_
                    refine wlRound ?_
                    exact (IH0 (k + 1, o23, q24, ((voteM ms (IntKind.wrap .i64 (1 + ((bringI x12.node (IntKind.wrap .i64 (IntKind.wrap .i64 (3 * IntKind.wrap .i64 (1 + ((bringI faults 2)))) + 1)))))) (((markI (IntKind.wrap .i64 (1 + ((bringI x12.seq 6)))) x12.b)))).1)) _ _ ⟨hC, hB.tail.tail, hl, h25, (tr_vote hJ (tr_liar h12 h20))⟩ (by have := of_decide_eq_true h10; show l.length - (k + 1) < l.length - k; omega)).sub (fun _ ha => ((((ha.start.cons ha (t := 1) rfl).cons ha (t := 5) rfl).cons ha (t := 6) rfl).cons ha (t := 7) rfl))
                  · skip
                    exact absurd (of_decide_eq_true h34) ((tr_law h12 (tr_vote hJ (tr_liar h12 h20))).2.2 h28).2
      · skip
        refine wcCondT rfl ?_
        refine wcRegion ?_
        refine wlVal (opAssign rfl) rfl ?_
        refine wlThen ?_
        refine wcSeq ?_
        refine wcRegion ?_
        refine wlVal (opMove rfl) rfl ?_
        refine wlVal (opMove rfl) rfl ?_
        refine wlVal (opAdd rfl rfl) rfl ?_
        refine wlVal (opMove rfl) rfl ?_
        refine wlVal (opMove rfl) rfl ?_
        refine wlVal (opIndexAddr rfl rfl slo45 (of_decide_eq_true h10)) rfl ?_
        refine wlVal (opFieldAddr rfl fo48_1) rfl ?_
        refine wlVal (opLoadOne (v := (.int .i64 x12.seq)) rfl (RowG.cell hC.holds hr17 (j := 1) rfl) one3) rfl ?_
        refine wlCallS hC hB rfl co11 rfl rfl (bring_ret _ _ hC.holds x12.seq 6) ?_; intro w hk hC hB
        refine wlVal (opAdd rfl rfl) rfl ?_
        refine wlVal (opMove rfl) rfl ?_
        refine wlCallS hC hB rfl co19 rfl rfl (mark_ret _ _ hC.holds (IntKind.wrap .i64 (1 + ((bringI x12.seq 6)))) ((0 : UInt8))) ?_; intro w hk hC hB
        refine wlCallM (A := []) (O := [(b8, om), (l9, qm)]) (B := []) hC hB rfl co12 rfl rfl (vote_ret _ _ hC.holds b8 l9 _ _ ms ⟨hC.heldAt 0 rfl, hC.heldG 0 rfl⟩ ⟨hC.heldAt 1 rfl, hC.heldG 1 rfl⟩ (by have e_ := hC.hnd; simp at e_; omega) hJms (IntKind.wrap .i64 (1 + ((bringI x12.node (IntKind.wrap .i64 (IntKind.wrap .i64 (3 * IntKind.wrap .i64 (1 + ((bringI faults 2)))) + 1)))))) (((markI (IntKind.wrap .i64 (1 + ((bringI x12.seq 6)))) ((0 : UInt8)))))) ?_; rintro v35 G O36 w hg hC hB ⟨o37, q38, rfl, h39, rfl⟩
        replace hl := hl.mono hg; replace hr17 := hr17.mono hg
        replace hC : Cx w0 G0 G w ⟨[], [(b8, o37), (l9, q38)]⟩ := hC
        replace hB : Bxs G w w0.heap.size [] ⟨[], [(b8, o37), (l9, q38)]⟩ := hB
        refine wlThen ?_
        refine wcSeq ?_
        refine wcRegion ?_
        refine wlVal (opMove rfl) rfl ?_
        refine wlCallS hC hB rfl co20 rfl rfl (RetS.lend hC (fun G_ hg_ hh_ hL_ => stable_ret _ _ hh_ b8 l9 _ _ (((voteM ms (IntKind.wrap .i64 (1 + ((bringI x12.node (IntKind.wrap .i64 (IntKind.wrap .i64 (3 * IntKind.wrap .i64 (1 + ((bringI faults 2)))) + 1)))))) (((markI (IntKind.wrap .i64 (1 + ((bringI x12.seq 6)))) ((0 : UInt8)))))).1)) (hL_ (b8, o37) (by simp)) (hL_ (l9, q38) (by simp)) (show MarksO G_ o37 q38 l9 (((voteM ms (IntKind.wrap .i64 (1 + ((bringI x12.node (IntKind.wrap .i64 (IntKind.wrap .i64 (3 * IntKind.wrap .i64 (1 + ((bringI faults 2)))) + 1)))))) (((markI (IntKind.wrap .i64 (1 + ((bringI x12.seq 6)))) ((0 : UInt8)))))).1)) from (h39.mono hg_)))) ?_; intro w hk hC hB
        refine wlVal (opMove rfl) rfl ?_
        refine wlVal (opExtract rfl rfl) rfl ?_
        refine wlVal (opExtract rfl rfl) rfl ?_
        refine wlAlloc hC hB zero28 rfl ?_; intro b40 w hk hC hB
        refine wlStore 0 (vs := (((gR (lists (((voteM ms (IntKind.wrap .i64 (1 + ((bringI x12.node (IntKind.wrap .i64 (IntKind.wrap .i64 (3 * IntKind.wrap .i64 (1 + ((bringI faults 2)))) + 1)))))) (((markI (IntKind.wrap .i64 (1 + ((bringI x12.seq 6)))) ((0 : UInt8)))))).1))) (most (((voteM ms (IntKind.wrap .i64 (1 + ((bringI x12.node (IntKind.wrap .i64 (IntKind.wrap .i64 (3 * IntKind.wrap .i64 (1 + ((bringI faults 2)))) + 1)))))) (((markI (IntKind.wrap .i64 (1 + ((bringI x12.seq 6)))) ((0 : UInt8)))))).1)).crew)).1)).cells) (cs := ((.int .i64 0) :: (Dig.zero.cells ++ []))) (cs' := (((gR (lists (((voteM ms (IntKind.wrap .i64 (1 + ((bringI x12.node (IntKind.wrap .i64 (IntKind.wrap .i64 (3 * IntKind.wrap .i64 (1 + ((bringI faults 2)))) + 1)))))) (((markI (IntKind.wrap .i64 (1 + ((bringI x12.seq 6)))) ((0 : UInt8)))))).1))) (most (((voteM ms (IntKind.wrap .i64 (1 + ((bringI x12.node (IntKind.wrap .i64 (IntKind.wrap .i64 (3 * IntKind.wrap .i64 (1 + ((bringI faults 2)))) + 1)))))) (((markI (IntKind.wrap .i64 (1 + ((bringI x12.seq 6)))) ((0 : UInt8)))))).1)).crew)).1)).cells) hC hB rfl rfl rfl sz28 rfl (by simp [Mark.cells, Do.cells, Word.cells]) (by simp [Mark.cells, Do.cells, Word.cells, Value.oneCell']) (by simp [Mark.cells, Do.cells, Word.cells]) (by simp [Mark.cells, Do.cells, Word.cells]) rfl ?_; intro w hC hB
        refine wlVal (opAssign rfl) rfl ?_
        refine wlThen ?_
        refine wcSeq ?_
        refine wcRegion ?_
        refine wlVal (opMove rfl) rfl ?_
        refine wlCallS hC hB rfl co21 rfl rfl (RetS.lend hC (fun G_ hg_ hh_ hL_ => known_ret _ _ hh_ b8 l9 _ _ (((voteM ms (IntKind.wrap .i64 (1 + ((bringI x12.node (IntKind.wrap .i64 (IntKind.wrap .i64 (3 * IntKind.wrap .i64 (1 + ((bringI faults 2)))) + 1)))))) (((markI (IntKind.wrap .i64 (1 + ((bringI x12.seq 6)))) ((0 : UInt8)))))).1)) (hL_ (b8, o37) (by simp)) (hL_ (l9, q38) (by simp)) (show MarksO G_ o37 q38 l9 (((voteM ms (IntKind.wrap .i64 (1 + ((bringI x12.node (IntKind.wrap .i64 (IntKind.wrap .i64 (3 * IntKind.wrap .i64 (1 + ((bringI faults 2)))) + 1)))))) (((markI (IntKind.wrap .i64 (1 + ((bringI x12.seq 6)))) ((0 : UInt8)))))).1)) from (h39.mono hg_)))) ?_; intro w hk hC hB
        refine wlVal (opMove rfl) rfl ?_
        refine wlVal (opExtract rfl rfl) rfl ?_
        refine wlVal (opExtract rfl rfl) rfl ?_
        refine wlAlloc hC hB zero28 rfl ?_; intro b41 w hk hC hB
        refine wlStore 0 (vs := (((gR (lists (((voteM ms (IntKind.wrap .i64 (1 + ((bringI x12.node (IntKind.wrap .i64 (IntKind.wrap .i64 (3 * IntKind.wrap .i64 (1 + ((bringI faults 2)))) + 1)))))) (((markI (IntKind.wrap .i64 (1 + ((bringI x12.seq 6)))) ((0 : UInt8)))))).1))) (some_ (((voteM ms (IntKind.wrap .i64 (1 + ((bringI x12.node (IntKind.wrap .i64 (IntKind.wrap .i64 (3 * IntKind.wrap .i64 (1 + ((bringI faults 2)))) + 1)))))) (((markI (IntKind.wrap .i64 (1 + ((bringI x12.seq 6)))) ((0 : UInt8)))))).1)).crew)).1)).cells) (cs := ((.int .i64 0) :: (Dig.zero.cells ++ []))) (cs' := (((gR (lists (((voteM ms (IntKind.wrap .i64 (1 + ((bringI x12.node (IntKind.wrap .i64 (IntKind.wrap .i64 (3 * IntKind.wrap .i64 (1 + ((bringI faults 2)))) + 1)))))) (((markI (IntKind.wrap .i64 (1 + ((bringI x12.seq 6)))) ((0 : UInt8)))))).1))) (some_ (((voteM ms (IntKind.wrap .i64 (1 + ((bringI x12.node (IntKind.wrap .i64 (IntKind.wrap .i64 (3 * IntKind.wrap .i64 (1 + ((bringI faults 2)))) + 1)))))) (((markI (IntKind.wrap .i64 (1 + ((bringI x12.seq 6)))) ((0 : UInt8)))))).1)).crew)).1)).cells) hC hB rfl rfl rfl sz28 rfl (by simp [Mark.cells, Do.cells, Word.cells]) (by simp [Mark.cells, Do.cells, Word.cells, Value.oneCell']) (by simp [Mark.cells, Do.cells, Word.cells]) (by simp [Mark.cells, Do.cells, Word.cells]) rfl ?_; intro w hC hB
        refine wlVal (opAssign rfl) rfl ?_
        refine wlThen ?_
        refine wcSeq ?_
        cases h42 : ((gR (lists (((voteM ms (IntKind.wrap .i64 (1 + ((bringI x12.node (IntKind.wrap .i64 (IntKind.wrap .i64 (3 * IntKind.wrap .i64 (1 + ((bringI faults 2)))) + 1)))))) (((markI (IntKind.wrap .i64 (1 + ((bringI x12.seq 6)))) ((0 : UInt8)))))).1))) (most (((voteM ms (IntKind.wrap .i64 (1 + ((bringI x12.node (IntKind.wrap .i64 (IntKind.wrap .i64 (3 * IntKind.wrap .i64 (1 + ((bringI faults 2)))) + 1)))))) (((markI (IntKind.wrap .i64 (1 + ((bringI x12.seq 6)))) ((0 : UInt8)))))).1)).crew)).2)
        · skip
          cases h43 : ((gR (lists (((voteM ms (IntKind.wrap .i64 (1 + ((bringI x12.node (IntKind.wrap .i64 (IntKind.wrap .i64 (3 * IntKind.wrap .i64 (1 + ((bringI faults 2)))) + 1)))))) (((markI (IntKind.wrap .i64 (1 + ((bringI x12.seq 6)))) ((0 : UInt8)))))).1))) (some_ (((voteM ms (IntKind.wrap .i64 (1 + ((bringI x12.node (IntKind.wrap .i64 (IntKind.wrap .i64 (3 * IntKind.wrap .i64 (1 + ((bringI faults 2)))) + 1)))))) (((markI (IntKind.wrap .i64 (1 + ((bringI x12.seq 6)))) ((0 : UInt8)))))).1)).crew)).2)
          · skip
            refine wcDrawT 28 fmix (by kernel_rfl) (by kernel_rfl) (by kernel_rfl) (by kernel_rfl) (vAt [(fun _ v_ => v_ = (.bool false)), (fun _ v_ => v_ = (.bool false)), (fun _ v_ => v_ = undef), (fun _ v_ => v_ = undef), (fun _ v_ => v_ = undef), (fun _ v_ => v_ = undef), (fun _ v_ => v_ = undef), (fun _ v_ => v_ = (.bool false)), (fun _ v_ => v_ = (.bool false)), (fun _ v_ => v_ = (.bool false)), (fun _ v_ => v_ = (.bool false)), (fun _ v_ => v_ = undef), (fun _ v_ => v_ = undef), (fun _ v_ => v_ = undef), (fun _ v_ => v_ = undef), (fun _ v_ => v_ = undef), (fun _ v_ => v_ = (.bool false)), (fun _ v_ => v_ = (.bool false)), (fun _ v_ => v_ = (.bool false)), (fun _ v_ => v_ = (.bool false)), (fun _ v_ => v_ = (.bool false)), (fun _ v_ => v_ = undef), (fun _ v_ => v_ = undef), (fun _ v_ => v_ = undef), (fun _ v_ => v_ = undef), (fun _ v_ => v_ = undef), (fun _ v_ => v_ = undef), (fun _ v_ => v_ = undef)]) (fun _ _ G' w => Cx w0 G0 G' w ⟨[], [(b8, o37), (l9, q38)]⟩ ∧ Bxs G' w w0.heap.size [(b41, 28, (((gR (lists (((voteM ms (IntKind.wrap .i64 (1 + ((bringI x12.node (IntKind.wrap .i64 (IntKind.wrap .i64 (3 * IntKind.wrap .i64 (1 + ((bringI faults 2)))) + 1)))))) (((markI (IntKind.wrap .i64 (1 + ((bringI x12.seq 6)))) ((0 : UInt8)))))).1))) (some_ (((voteM ms (IntKind.wrap .i64 (1 + ((bringI x12.node (IntKind.wrap .i64 (IntKind.wrap .i64 (3 * IntKind.wrap .i64 (1 + ((bringI faults 2)))) + 1)))))) (((markI (IntKind.wrap .i64 (1 + ((bringI x12.seq 6)))) ((0 : UInt8)))))).1)).crew)).1)).cells), (b40, 28, (((gR (lists (((voteM ms (IntKind.wrap .i64 (1 + ((bringI x12.node (IntKind.wrap .i64 (IntKind.wrap .i64 (3 * IntKind.wrap .i64 (1 + ((bringI faults 2)))) + 1)))))) (((markI (IntKind.wrap .i64 (1 + ((bringI x12.seq 6)))) ((0 : UInt8)))))).1))) (most (((voteM ms (IntKind.wrap .i64 (1 + ((bringI x12.node (IntKind.wrap .i64 (IntKind.wrap .i64 (3 * IntKind.wrap .i64 (1 + ((bringI faults 2)))) + 1)))))) (((markI (IntKind.wrap .i64 (1 + ((bringI x12.seq 6)))) ((0 : UInt8)))))).1)).crew)).1)).cells)] ⟨[], [(b8, o37), (l9, q38)]⟩ ∧ GLe G G') G (vAt_mono ⟨fun _ _ _ _ h => h, fun _ _ _ _ h => h, fun _ _ _ _ h => h, fun _ _ _ _ h => h, fun _ _ _ _ h => h, fun _ _ _ _ h => h, fun _ _ _ _ h => h, fun _ _ _ _ h => h, fun _ _ _ _ h => h, fun _ _ _ _ h => h, fun _ _ _ _ h => h, fun _ _ _ _ h => h, fun _ _ _ _ h => h, fun _ _ _ _ h => h, fun _ _ _ _ h => h, fun _ _ _ _ h => h, fun _ _ _ _ h => h, fun _ _ _ _ h => h, fun _ _ _ _ h => h, fun _ _ _ _ h => h, fun _ _ _ _ h => h, fun _ _ _ _ h => h, fun _ _ _ _ h => h, fun _ _ _ _ h => h, fun _ _ _ _ h => h, fun _ _ _ _ h => h, fun _ _ _ _ h => h, fun _ _ _ _ h => h, trivial⟩) (fun _ _ => ⟨hC.drew, hB.drew, fun _ _ h => h⟩) ?_ ?_
            · refine dsNone (j := 1) rfl ?_ ?_
              · intro done G w ac_ hd hp hn ⟨hC, hB, hg⟩ hM
                have f11 : ac_.tmps[11]? = some (.bool false) := hM.old0 rfl rfl
                have hF : Fr 102 ac_ (Env.nil.put 11 (.bool false)) := (hM.fr.add f11)
                exact OpVal.draw hF (opMove rfl) ⟨G, fun _ _ h => h, ⟨hC, hB, hg⟩, rfl⟩
              refine dsNone (j := 2) rfl ?_ ?_
              · intro done G w ac_ hd hp hn ⟨hC, hB, hg⟩ hM
                have f69 : ac_.tmps[69]? = some (.bool false) := hM.eqv 0 rfl (hp 0 rfl) rfl rfl
                have hF : Fr 102 ac_ (Env.nil.put 69 (.bool false)) := (hM.fr.add f69)
                exact OpVal.draw hF (opMove rfl) ⟨G, fun _ _ h => h, ⟨hC, hB, hg⟩, rfl⟩
              refine dsOff (j := 3) (b' := false) rfl rfl rfl ?_ ?_
              · intro done G w ac_ hd hp hn ⟨hC, hB, hg⟩ hM
                have f70 : ac_.tmps[70]? = some (.bool false) := hM.eqv 1 rfl (hp 1 rfl) rfl rfl
                exact ⟨f70, ⟨hC, hB, hg⟩, rfl⟩
              refine dsOff (j := 4) (b' := false) rfl rfl rfl ?_ ?_
              · intro done G w ac_ hd hp hn ⟨hC, hB, hg⟩ hM
                have f70 : ac_.tmps[70]? = some (.bool false) := hM.eqv 1 rfl (hp 1 rfl) rfl rfl
                exact ⟨f70, ⟨hC, hB, hg⟩, rfl⟩
              refine dsOff (j := 5) (b' := false) rfl rfl rfl ?_ ?_
              · intro done G w ac_ hd hp hn ⟨hC, hB, hg⟩ hM
                have f70 : ac_.tmps[70]? = some (.bool false) := hM.eqv 1 rfl (hp 1 rfl) rfl rfl
                exact ⟨f70, ⟨hC, hB, hg⟩, rfl⟩
              refine dsOff (j := 6) (b' := false) rfl rfl rfl ?_ ?_
              · intro done G w ac_ hd hp hn ⟨hC, hB, hg⟩ hM
                have f70 : ac_.tmps[70]? = some (.bool false) := hM.eqv 1 rfl (hp 1 rfl) rfl rfl
                exact ⟨f70, ⟨hC, hB, hg⟩, rfl⟩
              refine dsOff (j := 7) (b' := false) rfl rfl rfl ?_ ?_
              · intro done G w ac_ hd hp hn ⟨hC, hB, hg⟩ hM
                have f70 : ac_.tmps[70]? = some (.bool false) := hM.eqv 1 rfl (hp 1 rfl) rfl rfl
                exact ⟨f70, ⟨hC, hB, hg⟩, rfl⟩
              refine dsNone (j := 8) rfl ?_ ?_
              · intro done G w ac_ hd hp hn ⟨hC, hB, hg⟩ hM
                have f70 : ac_.tmps[70]? = some (.bool false) := hM.eqv 1 rfl (hp 1 rfl) rfl rfl
                have f75 : ac_.tmps[75]? = some undef := hM.eqv 6 rfl (hp 6 rfl) rfl rfl
                have hF : Fr 102 ac_ ((Env.nil.put 70 (.bool false)).put 75 undef) := ((hM.fr.add f70).add f75)
                exact OpVal.draw hF (opPickF rfl rfl) ⟨G, fun _ _ h => h, ⟨hC, hB, hg⟩, rfl⟩
              refine dsNone (j := 9) rfl ?_ ?_
              · intro done G w ac_ hd hp hn ⟨hC, hB, hg⟩ hM
                have f76 : ac_.tmps[76]? = some (.bool false) := hM.eqv 7 rfl (hp 7 rfl) rfl rfl
                have hF : Fr 102 ac_ (Env.nil.put 76 (.bool false)) := (hM.fr.add f76)
                exact OpVal.draw hF (opMove rfl) ⟨G, fun _ _ h => h, ⟨hC, hB, hg⟩, rfl⟩
              refine dsOn (j := 10) rfl rfl ?_ ?_
              · intro done G w ac_ hd hp hn ⟨hC, hB, hg⟩ hM
                have f13 : ac_.tmps[13]? = some (.bool false) := hM.old0 rfl rfl
                have f77 : ac_.tmps[77]? = some (.bool false) := hM.eqv 8 rfl (hp 8 rfl) rfl rfl
                refine ⟨f77, ?_⟩
                have hF : Fr 102 ac_ (Env.nil.put 13 (.bool false)) := (hM.fr.add f13)
                exact OpVal.draw hF (opMove rfl) ⟨G, fun _ _ h => h, ⟨hC, hB, hg⟩, rfl⟩
              refine dsOn (j := 11) rfl rfl ?_ ?_
              · intro done G w ac_ hd hp hn ⟨hC, hB, hg⟩ hM
                have f78 : ac_.tmps[78]? = some (.bool false) := hM.eqv 9 rfl (hp 9 rfl) rfl rfl
                have f77 : ac_.tmps[77]? = some (.bool false) := hM.eqv 8 rfl (hp 8 rfl) rfl rfl
                refine ⟨f77, ?_⟩
                have hF : Fr 102 ac_ (Env.nil.put 78 (.bool false)) := (hM.fr.add f78)
                exact OpVal.draw hF (opMove rfl) ⟨G, fun _ _ h => h, ⟨hC, hB, hg⟩, rfl⟩
              refine dsOff (j := 12) (b' := false) rfl rfl rfl ?_ ?_
              · intro done G w ac_ hd hp hn ⟨hC, hB, hg⟩ hM
                have f79 : ac_.tmps[79]? = some (.bool false) := hM.eqv 10 rfl (hp 10 rfl) rfl rfl
                exact ⟨f79, ⟨hC, hB, hg⟩, rfl⟩
              refine dsOff (j := 13) (b' := false) rfl rfl rfl ?_ ?_
              · intro done G w ac_ hd hp hn ⟨hC, hB, hg⟩ hM
                have f79 : ac_.tmps[79]? = some (.bool false) := hM.eqv 10 rfl (hp 10 rfl) rfl rfl
                exact ⟨f79, ⟨hC, hB, hg⟩, rfl⟩
              refine dsOff (j := 14) (b' := false) rfl rfl rfl ?_ ?_
              · intro done G w ac_ hd hp hn ⟨hC, hB, hg⟩ hM
                have f79 : ac_.tmps[79]? = some (.bool false) := hM.eqv 10 rfl (hp 10 rfl) rfl rfl
                exact ⟨f79, ⟨hC, hB, hg⟩, rfl⟩
              refine dsOff (j := 15) (b' := false) rfl rfl rfl ?_ ?_
              · intro done G w ac_ hd hp hn ⟨hC, hB, hg⟩ hM
                have f79 : ac_.tmps[79]? = some (.bool false) := hM.eqv 10 rfl (hp 10 rfl) rfl rfl
                exact ⟨f79, ⟨hC, hB, hg⟩, rfl⟩
              refine dsOff (j := 16) (b' := false) rfl rfl rfl ?_ ?_
              · intro done G w ac_ hd hp hn ⟨hC, hB, hg⟩ hM
                have f79 : ac_.tmps[79]? = some (.bool false) := hM.eqv 10 rfl (hp 10 rfl) rfl rfl
                exact ⟨f79, ⟨hC, hB, hg⟩, rfl⟩
              refine dsOn (j := 17) rfl rfl ?_ ?_
              · intro done G w ac_ hd hp hn ⟨hC, hB, hg⟩ hM
                have f79 : ac_.tmps[79]? = some (.bool false) := hM.eqv 10 rfl (hp 10 rfl) rfl rfl
                have f84 : ac_.tmps[84]? = some undef := hM.eqv 15 rfl (hp 15 rfl) rfl rfl
                have f77 : ac_.tmps[77]? = some (.bool false) := hM.eqv 8 rfl (hp 8 rfl) rfl rfl
                refine ⟨f77, ?_⟩
                have hF : Fr 102 ac_ ((Env.nil.put 79 (.bool false)).put 84 undef) := ((hM.fr.add f79).add f84)
                exact OpVal.draw hF (opPickF rfl rfl) ⟨G, fun _ _ h => h, ⟨hC, hB, hg⟩, rfl⟩
              refine dsNone (j := 18) rfl ?_ ?_
              · intro done G w ac_ hd hp hn ⟨hC, hB, hg⟩ hM
                have f77 : ac_.tmps[77]? = some (.bool false) := hM.eqv 8 rfl (hp 8 rfl) rfl rfl
                have f85 : ac_.tmps[85]? = some (.bool false) := hM.eqv 16 rfl (hp 16 rfl) rfl rfl
                have hF : Fr 102 ac_ ((Env.nil.put 77 (.bool false)).put 85 (.bool false)) := ((hM.fr.add f77).add f85)
                exact OpVal.draw hF (opPickF rfl rfl) ⟨G, fun _ _ h => h, ⟨hC, hB, hg⟩, rfl⟩
              refine dsNone (j := 19) rfl ?_ ?_
              · intro done G w ac_ hd hp hn ⟨hC, hB, hg⟩ hM
                have f86 : ac_.tmps[86]? = some (.bool false) := hM.eqv 17 rfl (hp 17 rfl) rfl rfl
                have hF : Fr 102 ac_ (Env.nil.put 86 (.bool false)) := (hM.fr.add f86)
                exact OpVal.draw hF (opMove rfl) ⟨G, fun _ _ h => h, ⟨hC, hB, hg⟩, rfl⟩
              refine dsOn (j := 20) rfl rfl ?_ ?_
              · intro done G w ac_ hd hp hn ⟨hC, hB, hg⟩ hM
                have f11 : ac_.tmps[11]? = some (.bool false) := hM.old0 rfl rfl
                have f87 : ac_.tmps[87]? = some (.bool false) := hM.eqv 18 rfl (hp 18 rfl) rfl rfl
                refine ⟨f87, ?_⟩
                have hF : Fr 102 ac_ (Env.nil.put 11 (.bool false)) := (hM.fr.add f11)
                exact OpVal.draw hF (opMove rfl) ⟨G, fun _ _ h => h, ⟨hC, hB, hg⟩, rfl⟩
              refine dsOn (j := 21) rfl rfl ?_ ?_
              · intro done G w ac_ hd hp hn ⟨hC, hB, hg⟩ hM
                have f88 : ac_.tmps[88]? = some (.bool false) := hM.eqv 19 rfl (hp 19 rfl) rfl rfl
                have f87 : ac_.tmps[87]? = some (.bool false) := hM.eqv 18 rfl (hp 18 rfl) rfl rfl
                refine ⟨f87, ?_⟩
                have hF : Fr 102 ac_ (Env.nil.put 88 (.bool false)) := (hM.fr.add f88)
                exact OpVal.draw hF (opMove rfl) ⟨G, fun _ _ h => h, ⟨hC, hB, hg⟩, rfl⟩
              refine dsOff (j := 22) (b' := false) rfl rfl rfl ?_ ?_
              · intro done G w ac_ hd hp hn ⟨hC, hB, hg⟩ hM
                have f89 : ac_.tmps[89]? = some (.bool false) := hM.eqv 20 rfl (hp 20 rfl) rfl rfl
                exact ⟨f89, ⟨hC, hB, hg⟩, rfl⟩
              refine dsOff (j := 23) (b' := false) rfl rfl rfl ?_ ?_
              · intro done G w ac_ hd hp hn ⟨hC, hB, hg⟩ hM
                have f89 : ac_.tmps[89]? = some (.bool false) := hM.eqv 20 rfl (hp 20 rfl) rfl rfl
                exact ⟨f89, ⟨hC, hB, hg⟩, rfl⟩
              refine dsOff (j := 24) (b' := false) rfl rfl rfl ?_ ?_
              · intro done G w ac_ hd hp hn ⟨hC, hB, hg⟩ hM
                have f89 : ac_.tmps[89]? = some (.bool false) := hM.eqv 20 rfl (hp 20 rfl) rfl rfl
                exact ⟨f89, ⟨hC, hB, hg⟩, rfl⟩
              refine dsOffU (j := 25) rfl rfl ?_ ?_
              · intro done G w ac_ hd hp hn ⟨hC, hB, hg⟩ hM
                have f92 : ac_.tmps[92]? = some undef := hM.eqv 23 rfl (hp 23 rfl) rfl rfl
                exact ⟨f92, ⟨hC, hB, hg⟩, rfl⟩
              refine dsOffU (j := 26) rfl rfl ?_ ?_
              · intro done G w ac_ hd hp hn ⟨hC, hB, hg⟩ hM
                have f92 : ac_.tmps[92]? = some undef := hM.eqv 23 rfl (hp 23 rfl) rfl rfl
                exact ⟨f92, ⟨hC, hB, hg⟩, rfl⟩
              refine dsOffU (j := 27) rfl rfl ?_ ?_
              · intro done G w ac_ hd hp hn ⟨hC, hB, hg⟩ hM
                have f92 : ac_.tmps[92]? = some undef := hM.eqv 23 rfl (hp 23 rfl) rfl rfl
                exact ⟨f92, ⟨hC, hB, hg⟩, rfl⟩
              refine dsOffU (j := 28) rfl rfl ?_ ?_
              · intro done G w ac_ hd hp hn ⟨hC, hB, hg⟩ hM
                have f92 : ac_.tmps[92]? = some undef := hM.eqv 23 rfl (hp 23 rfl) rfl rfl
                exact ⟨f92, ⟨hC, hB, hg⟩, rfl⟩
              exact dsNil
            · intro done G w ac_ hall htl ⟨hC, hB, hg⟩ hM
              replace hl := hl.mono hg
              replace hr17 := hr17.mono hg
              replace h39 := h39.mono hg
              have f1 : ac_.tmps[1]? = some (.slice (some ⟨b14, o15, none⟩) l.length cap2) := hM.old0 rfl rfl
              have f5 : ac_.tmps[5]? = some (.int .i64 (IntKind.wrap .i64 (1 + ((bringI faults 2))))) := hM.old0 rfl rfl
              have f6 : ac_.tmps[6]? = some (.pointer (some ⟨b8, 0, none⟩)) := hM.old0 rfl rfl
              have f7 : ac_.tmps[7]? = some (.int .i64 (((k : Nat) : Int))) := hM.old0 rfl rfl
              have f87 : ac_.tmps[87]? = some (.bool false) := hM.eqv 18 rfl (hall 18 rfl) rfl rfl
              have f89 : ac_.tmps[89]? = some (.bool false) := hM.eqv 20 rfl (hall 20 rfl) rfl rfl
              have f92 : ac_.tmps[92]? = some undef := hM.eqv 23 rfl (hall 23 rfl) rfl rfl
              have f94 : ac_.tmps[94]? = some undef := hM.eqv 25 rfl (hall 25 rfl) rfl rfl
              have f96 : ac_.tmps[96]? = some undef := hM.eqv 27 rfl (hall 27 rfl) rfl rfl
              refine ⟨(((((((((Env.nil.put 1 (.slice (some ⟨b14, o15, none⟩) l.length cap2)).put 5 (.int .i64 (IntKind.wrap .i64 (1 + ((bringI faults 2)))))).put 6 (.pointer (some ⟨b8, 0, none⟩))).put 7 (.int .i64 (((k : Nat) : Int)))).put 87 (.bool false)).put 89 (.bool false)).put 92 undef).put 94 undef).put 96 undef), (((((((((hM.fr.add f1).add f5).add f6).add f7).add f87).add f89).add f92).add f94).add f96), ?_⟩
              clear hM hall htl
              refine wlOffU rfl rfl rfl ?_
              refine wlOff rfl rfl rfl rfl ?_
              refine wlOn rfl rfl ?_
              refine wlVal (opPickF rfl rfl) rfl ?_
              refine wlVal (opPickF rfl rfl) rfl ?_
              refine wlThen ?_
              refine wcCondF rfl ?_
              refine wcSkip ?_
              refine wcOf ?_
              refine wcRegion ?_
              refine wlVal (opMove rfl) rfl ?_
              refine wlVal (opIncr rfl rfl (incr_ok (of_decide_eq_true h10) hl.le)) rfl ?_
              refine wlVal (opAssign rfl) rfl ?_
              refine wlRound ?_
              exact (IH0 (k + 1, o37, q38, ((voteM ms (IntKind.wrap .i64 (1 + ((bringI x12.node (IntKind.wrap .i64 (IntKind.wrap .i64 (3 * IntKind.wrap .i64 (1 + ((bringI faults 2)))) + 1)))))) (((markI (IntKind.wrap .i64 (1 + ((bringI x12.seq 6)))) ((0 : UInt8)))))).1)) _ _ ⟨hC, hB.tail.tail, hl, h39, (tr_vote hJ (fun _ => rfl))⟩ (by have := of_decide_eq_true h10; show l.length - (k + 1) < l.length - k; omega)).sub (fun _ ha => ((((ha.start.cons ha (t := 1) rfl).cons ha (t := 5) rfl).cons ha (t := 6) rfl).cons ha (t := 7) rfl))
          · skip
            cases h44 : decide (((gR (lists (((voteM ms (IntKind.wrap .i64 (1 + ((bringI x12.node (IntKind.wrap .i64 (IntKind.wrap .i64 (3 * IntKind.wrap .i64 (1 + ((bringI faults 2)))) + 1)))))) (((markI (IntKind.wrap .i64 (1 + ((bringI x12.seq 6)))) ((0 : UInt8)))))).1))) (some_ (((voteM ms (IntKind.wrap .i64 (1 + ((bringI x12.node (IntKind.wrap .i64 (IntKind.wrap .i64 (3 * IntKind.wrap .i64 (1 + ((bringI faults 2)))) + 1)))))) (((markI (IntKind.wrap .i64 (1 + ((bringI x12.seq 6)))) ((0 : UInt8)))))).1)).crew)).1).dig = ((markI 0 ((0 : UInt8)))).dig)
            · skip
              exact absurd ((tr_law h12 (tr_vote hJ (fun _ => rfl))).2.1 h43) (of_decide_eq_false h44)
            · skip
              refine wcDrawT 28 fmix (by kernel_rfl) (by kernel_rfl) (by kernel_rfl) (by kernel_rfl) (vAt [(fun _ v_ => v_ = (.bool false)), (fun _ v_ => v_ = (.bool false)), (fun _ v_ => v_ = undef), (fun _ v_ => v_ = undef), (fun _ v_ => v_ = undef), (fun _ v_ => v_ = undef), (fun _ v_ => v_ = undef), (fun _ v_ => v_ = (.bool false)), (fun _ v_ => v_ = (.bool false)), (fun _ v_ => v_ = (.bool true)), (fun _ v_ => v_ = (.bool true)), (fun _ v_ => v_ = (.pointer (some ⟨b41, 1, none⟩))), (fun _ v_ => v_ = (.agg (((gR (lists (((voteM ms (IntKind.wrap .i64 (1 + ((bringI x12.node (IntKind.wrap .i64 (IntKind.wrap .i64 (3 * IntKind.wrap .i64 (1 + ((bringI faults 2)))) + 1)))))) (((markI (IntKind.wrap .i64 (1 + ((bringI x12.seq 6)))) ((0 : UInt8)))))).1))) (some_ (((voteM ms (IntKind.wrap .i64 (1 + ((bringI x12.node (IntKind.wrap .i64 (IntKind.wrap .i64 (3 * IntKind.wrap .i64 (1 + ((bringI faults 2)))) + 1)))))) (((markI (IntKind.wrap .i64 (1 + ((bringI x12.seq 6)))) ((0 : UInt8)))))).1)).crew)).1).dig).cells.toArray)), (fun _ v_ => v_ = (.agg (((markI 0 ((0 : UInt8))))).cells.toArray)), (fun _ v_ => v_ = (.agg (((markI 0 ((0 : UInt8)))).dig).cells.toArray)), (fun _ v_ => v_ = (.bool false)), (fun _ v_ => v_ = (.bool false)), (fun _ v_ => v_ = (.bool false)), (fun _ v_ => v_ = (.bool false)), (fun _ v_ => v_ = (.bool false)), (fun _ v_ => v_ = (.bool false)), (fun _ v_ => v_ = undef), (fun _ v_ => v_ = undef), (fun _ v_ => v_ = undef), (fun _ v_ => v_ = undef), (fun _ v_ => v_ = undef), (fun _ v_ => v_ = undef), (fun _ v_ => v_ = undef)]) (fun _ _ G' w => Cx w0 G0 G' w ⟨[], [(b8, o37), (l9, q38)]⟩ ∧ Bxs G' w w0.heap.size [(b41, 28, (((gR (lists (((voteM ms (IntKind.wrap .i64 (1 + ((bringI x12.node (IntKind.wrap .i64 (IntKind.wrap .i64 (3 * IntKind.wrap .i64 (1 + ((bringI faults 2)))) + 1)))))) (((markI (IntKind.wrap .i64 (1 + ((bringI x12.seq 6)))) ((0 : UInt8)))))).1))) (some_ (((voteM ms (IntKind.wrap .i64 (1 + ((bringI x12.node (IntKind.wrap .i64 (IntKind.wrap .i64 (3 * IntKind.wrap .i64 (1 + ((bringI faults 2)))) + 1)))))) (((markI (IntKind.wrap .i64 (1 + ((bringI x12.seq 6)))) ((0 : UInt8)))))).1)).crew)).1)).cells), (b40, 28, (((gR (lists (((voteM ms (IntKind.wrap .i64 (1 + ((bringI x12.node (IntKind.wrap .i64 (IntKind.wrap .i64 (3 * IntKind.wrap .i64 (1 + ((bringI faults 2)))) + 1)))))) (((markI (IntKind.wrap .i64 (1 + ((bringI x12.seq 6)))) ((0 : UInt8)))))).1))) (most (((voteM ms (IntKind.wrap .i64 (1 + ((bringI x12.node (IntKind.wrap .i64 (IntKind.wrap .i64 (3 * IntKind.wrap .i64 (1 + ((bringI faults 2)))) + 1)))))) (((markI (IntKind.wrap .i64 (1 + ((bringI x12.seq 6)))) ((0 : UInt8)))))).1)).crew)).1)).cells)] ⟨[], [(b8, o37), (l9, q38)]⟩ ∧ GLe G G') G (vAt_mono ⟨fun _ _ _ _ h => h, fun _ _ _ _ h => h, fun _ _ _ _ h => h, fun _ _ _ _ h => h, fun _ _ _ _ h => h, fun _ _ _ _ h => h, fun _ _ _ _ h => h, fun _ _ _ _ h => h, fun _ _ _ _ h => h, fun _ _ _ _ h => h, fun _ _ _ _ h => h, fun _ _ _ _ h => h, fun _ _ _ _ h => h, fun _ _ _ _ h => h, fun _ _ _ _ h => h, fun _ _ _ _ h => h, fun _ _ _ _ h => h, fun _ _ _ _ h => h, fun _ _ _ _ h => h, fun _ _ _ _ h => h, fun _ _ _ _ h => h, fun _ _ _ _ h => h, fun _ _ _ _ h => h, fun _ _ _ _ h => h, fun _ _ _ _ h => h, fun _ _ _ _ h => h, fun _ _ _ _ h => h, fun _ _ _ _ h => h, trivial⟩) (fun _ _ => ⟨hC.drew, hB.drew, fun _ _ h => h⟩) ?_ ?_
              · refine dsNone (j := 1) rfl ?_ ?_
                · intro done G w ac_ hd hp hn ⟨hC, hB, hg⟩ hM
                  have f11 : ac_.tmps[11]? = some (.bool false) := hM.old0 rfl rfl
                  have hF : Fr 102 ac_ (Env.nil.put 11 (.bool false)) := (hM.fr.add f11)
                  exact OpVal.draw hF (opMove rfl) ⟨G, fun _ _ h => h, ⟨hC, hB, hg⟩, rfl⟩
                refine dsNone (j := 2) rfl ?_ ?_
                · intro done G w ac_ hd hp hn ⟨hC, hB, hg⟩ hM
                  have f69 : ac_.tmps[69]? = some (.bool false) := hM.eqv 0 rfl (hp 0 rfl) rfl rfl
                  have hF : Fr 102 ac_ (Env.nil.put 69 (.bool false)) := (hM.fr.add f69)
                  exact OpVal.draw hF (opMove rfl) ⟨G, fun _ _ h => h, ⟨hC, hB, hg⟩, rfl⟩
                refine dsOff (j := 3) (b' := false) rfl rfl rfl ?_ ?_
                · intro done G w ac_ hd hp hn ⟨hC, hB, hg⟩ hM
                  have f70 : ac_.tmps[70]? = some (.bool false) := hM.eqv 1 rfl (hp 1 rfl) rfl rfl
                  exact ⟨f70, ⟨hC, hB, hg⟩, rfl⟩
                refine dsOff (j := 4) (b' := false) rfl rfl rfl ?_ ?_
                · intro done G w ac_ hd hp hn ⟨hC, hB, hg⟩ hM
                  have f70 : ac_.tmps[70]? = some (.bool false) := hM.eqv 1 rfl (hp 1 rfl) rfl rfl
                  exact ⟨f70, ⟨hC, hB, hg⟩, rfl⟩
                refine dsOff (j := 5) (b' := false) rfl rfl rfl ?_ ?_
                · intro done G w ac_ hd hp hn ⟨hC, hB, hg⟩ hM
                  have f70 : ac_.tmps[70]? = some (.bool false) := hM.eqv 1 rfl (hp 1 rfl) rfl rfl
                  exact ⟨f70, ⟨hC, hB, hg⟩, rfl⟩
                refine dsOff (j := 6) (b' := false) rfl rfl rfl ?_ ?_
                · intro done G w ac_ hd hp hn ⟨hC, hB, hg⟩ hM
                  have f70 : ac_.tmps[70]? = some (.bool false) := hM.eqv 1 rfl (hp 1 rfl) rfl rfl
                  exact ⟨f70, ⟨hC, hB, hg⟩, rfl⟩
                refine dsOff (j := 7) (b' := false) rfl rfl rfl ?_ ?_
                · intro done G w ac_ hd hp hn ⟨hC, hB, hg⟩ hM
                  have f70 : ac_.tmps[70]? = some (.bool false) := hM.eqv 1 rfl (hp 1 rfl) rfl rfl
                  exact ⟨f70, ⟨hC, hB, hg⟩, rfl⟩
                refine dsNone (j := 8) rfl ?_ ?_
                · intro done G w ac_ hd hp hn ⟨hC, hB, hg⟩ hM
                  have f70 : ac_.tmps[70]? = some (.bool false) := hM.eqv 1 rfl (hp 1 rfl) rfl rfl
                  have f75 : ac_.tmps[75]? = some undef := hM.eqv 6 rfl (hp 6 rfl) rfl rfl
                  have hF : Fr 102 ac_ ((Env.nil.put 70 (.bool false)).put 75 undef) := ((hM.fr.add f70).add f75)
                  exact OpVal.draw hF (opPickF rfl rfl) ⟨G, fun _ _ h => h, ⟨hC, hB, hg⟩, rfl⟩
                refine dsNone (j := 9) rfl ?_ ?_
                · intro done G w ac_ hd hp hn ⟨hC, hB, hg⟩ hM
                  have f76 : ac_.tmps[76]? = some (.bool false) := hM.eqv 7 rfl (hp 7 rfl) rfl rfl
                  have hF : Fr 102 ac_ (Env.nil.put 76 (.bool false)) := (hM.fr.add f76)
                  exact OpVal.draw hF (opMove rfl) ⟨G, fun _ _ h => h, ⟨hC, hB, hg⟩, rfl⟩
                refine dsOn (j := 10) rfl rfl ?_ ?_
                · intro done G w ac_ hd hp hn ⟨hC, hB, hg⟩ hM
                  have f13 : ac_.tmps[13]? = some (.bool true) := hM.old0 rfl rfl
                  have f77 : ac_.tmps[77]? = some (.bool false) := hM.eqv 8 rfl (hp 8 rfl) rfl rfl
                  refine ⟨f77, ?_⟩
                  have hF : Fr 102 ac_ (Env.nil.put 13 (.bool true)) := (hM.fr.add f13)
                  exact OpVal.draw hF (opMove rfl) ⟨G, fun _ _ h => h, ⟨hC, hB, hg⟩, rfl⟩
                refine dsOn (j := 11) rfl rfl ?_ ?_
                · intro done G w ac_ hd hp hn ⟨hC, hB, hg⟩ hM
                  have f78 : ac_.tmps[78]? = some (.bool true) := hM.eqv 9 rfl (hp 9 rfl) rfl rfl
                  have f77 : ac_.tmps[77]? = some (.bool false) := hM.eqv 8 rfl (hp 8 rfl) rfl rfl
                  refine ⟨f77, ?_⟩
                  have hF : Fr 102 ac_ (Env.nil.put 78 (.bool true)) := (hM.fr.add f78)
                  exact OpVal.draw hF (opMove rfl) ⟨G, fun _ _ h => h, ⟨hC, hB, hg⟩, rfl⟩
                refine dsOn (j := 12) rfl rfl ?_ ?_
                · intro done G w ac_ hd hp hn ⟨hC, hB, hg⟩ hM
                  have f12 : ac_.tmps[12]? = some (.pointer (some ⟨b41, 0, none⟩)) := hM.old0 rfl rfl
                  have f79 : ac_.tmps[79]? = some (.bool true) := hM.eqv 10 rfl (hp 10 rfl) rfl rfl
                  refine ⟨f79, ?_⟩
                  have hF : Fr 102 ac_ (Env.nil.put 12 (.pointer (some ⟨b41, 0, none⟩))) := (hM.fr.add f12)
                  exact OpVal.draw hF (opFieldAddr rfl fo28_1) ⟨G, fun _ _ h => h, ⟨hC, hB, hg⟩, rfl⟩
                refine dsOn (j := 13) rfl rfl ?_ ?_
                · intro done G w ac_ hd hp hn ⟨hC, hB, hg⟩ hM
                  have f80 : ac_.tmps[80]? = some (.pointer (some ⟨b41, 1, none⟩)) := hM.eqv 11 rfl (hp 11 rfl) rfl rfl
                  have f79 : ac_.tmps[79]? = some (.bool true) := hM.eqv 10 rfl (hp 10 rfl) rfl rfl
                  refine ⟨f79, ?_⟩
                  have hF : Fr 102 ac_ (Env.nil.put 80 (.pointer (some ⟨b41, 1, none⟩))) := (hM.fr.add f80)
                  exact OpVal.draw hF (opLoadRow (cs := (((gR (lists (((voteM ms (IntKind.wrap .i64 (1 + ((bringI x12.node (IntKind.wrap .i64 (IntKind.wrap .i64 (3 * IntKind.wrap .i64 (1 + ((bringI faults 2)))) + 1)))))) (((markI (IntKind.wrap .i64 (1 + ((bringI x12.seq 6)))) ((0 : UInt8)))))).1))) (some_ (((voteM ms (IntKind.wrap .i64 (1 + ((bringI x12.node (IntKind.wrap .i64 (IntKind.wrap .i64 (3 * IntKind.wrap .i64 (1 + ((bringI faults 2)))) + 1)))))) (((markI (IntKind.wrap .i64 (1 + ((bringI x12.seq 6)))) ((0 : UInt8)))))).1)).crew)).1).dig).cells) rfl (hB.range (i := 0) (m := 32) rfl (by simp [Mark.cells, Do.cells, Word.cells])) row26 (by simp [Mark.cells, Do.cells, Word.cells])) ⟨G, fun _ _ h => h, ⟨hC, hB, hg⟩, rfl⟩
                refine dsOn (j := 14) rfl rfl ?_ ?_
                · intro done G w ac_ hd hp hn ⟨hC, hB, hg⟩ hM
                  have f79 : ac_.tmps[79]? = some (.bool true) := hM.eqv 10 rfl (hp 10 rfl) rfl rfl
                  refine ⟨f79, ?_⟩
                  have hF : Fr 102 ac_ Env.nil := hM.fr
                  exact drawCallS hF rfl co19 rfl (mark_ret _ _ hC.holds 0 ((0 : UInt8))) (fun w' hk => ⟨G, fun _ _ h => h, ⟨hC.trans hk, hB.ext hk, hg⟩, rfl⟩)
                refine dsOn (j := 15) rfl rfl ?_ ?_
                · intro done G w ac_ hd hp hn ⟨hC, hB, hg⟩ hM
                  have f82 : ac_.tmps[82]? = some (.agg (((markI 0 ((0 : UInt8))))).cells.toArray) := hM.eqv 13 rfl (hp 13 rfl) rfl rfl
                  have f79 : ac_.tmps[79]? = some (.bool true) := hM.eqv 10 rfl (hp 10 rfl) rfl rfl
                  refine ⟨f79, ?_⟩
                  have hF : Fr 102 ac_ (Env.nil.put 82 (.agg (((markI 0 ((0 : UInt8))))).cells.toArray)) := (hM.fr.add f82)
                  exact OpVal.draw hF (opFieldRow (cs := (((markI 0 ((0 : UInt8))))).cells) (r := (((markI 0 ((0 : UInt8)))).dig).cells) rfl fi28_1 row26 (by simp [Mark.cells, Do.cells, Word.cells])) ⟨G, fun _ _ h => h, ⟨hC, hB, hg⟩, rfl⟩
                refine dsOn (j := 16) rfl rfl ?_ ?_
                · intro done G w ac_ hd hp hn ⟨hC, hB, hg⟩ hM
                  have f81 : ac_.tmps[81]? = some (.agg (((gR (lists (((voteM ms (IntKind.wrap .i64 (1 + ((bringI x12.node (IntKind.wrap .i64 (IntKind.wrap .i64 (3 * IntKind.wrap .i64 (1 + ((bringI faults 2)))) + 1)))))) (((markI (IntKind.wrap .i64 (1 + ((bringI x12.seq 6)))) ((0 : UInt8)))))).1))) (some_ (((voteM ms (IntKind.wrap .i64 (1 + ((bringI x12.node (IntKind.wrap .i64 (IntKind.wrap .i64 (3 * IntKind.wrap .i64 (1 + ((bringI faults 2)))) + 1)))))) (((markI (IntKind.wrap .i64 (1 + ((bringI x12.seq 6)))) ((0 : UInt8)))))).1)).crew)).1).dig).cells.toArray) := hM.eqv 12 rfl (hp 12 rfl) rfl rfl
                  have f83 : ac_.tmps[83]? = some (.agg (((markI 0 ((0 : UInt8)))).dig).cells.toArray) := hM.eqv 14 rfl (hp 14 rfl) rfl rfl
                  have f79 : ac_.tmps[79]? = some (.bool true) := hM.eqv 10 rfl (hp 10 rfl) rfl rfl
                  refine ⟨f79, ?_⟩
                  have hF : Fr 102 ac_ ((Env.nil.put 81 (.agg (((gR (lists (((voteM ms (IntKind.wrap .i64 (1 + ((bringI x12.node (IntKind.wrap .i64 (IntKind.wrap .i64 (3 * IntKind.wrap .i64 (1 + ((bringI faults 2)))) + 1)))))) (((markI (IntKind.wrap .i64 (1 + ((bringI x12.seq 6)))) ((0 : UInt8)))))).1))) (some_ (((voteM ms (IntKind.wrap .i64 (1 + ((bringI x12.node (IntKind.wrap .i64 (IntKind.wrap .i64 (3 * IntKind.wrap .i64 (1 + ((bringI faults 2)))) + 1)))))) (((markI (IntKind.wrap .i64 (1 + ((bringI x12.seq 6)))) ((0 : UInt8)))))).1)).crew)).1).dig).cells.toArray)).put 83 (.agg (((markI 0 ((0 : UInt8)))).dig).cells.toArray)) := ((hM.fr.add f81).add f83)
                  exact OpVal.draw hF (OpVal.cast (opNeRow (eq26 _ (((gR (lists (((voteM ms (IntKind.wrap .i64 (1 + ((bringI x12.node (IntKind.wrap .i64 (IntKind.wrap .i64 (3 * IntKind.wrap .i64 (1 + ((bringI faults 2)))) + 1)))))) (((markI (IntKind.wrap .i64 (1 + ((bringI x12.seq 6)))) ((0 : UInt8)))))).1))) (some_ (((voteM ms (IntKind.wrap .i64 (1 + ((bringI x12.node (IntKind.wrap .i64 (IntKind.wrap .i64 (3 * IntKind.wrap .i64 (1 + ((bringI faults 2)))) + 1)))))) (((markI (IntKind.wrap .i64 (1 + ((bringI x12.seq 6)))) ((0 : UInt8)))))).1)).crew)).1).dig) (((markI 0 ((0 : UInt8)))).dig)) eg26 rfl rfl) (congrArg Value.bool (by rw [h44]; rfl))) ⟨G, fun _ _ h => h, ⟨hC, hB, hg⟩, rfl⟩
                refine dsOn (j := 17) rfl rfl ?_ ?_
                · intro done G w ac_ hd hp hn ⟨hC, hB, hg⟩ hM
                  have f79 : ac_.tmps[79]? = some (.bool true) := hM.eqv 10 rfl (hp 10 rfl) rfl rfl
                  have f84 : ac_.tmps[84]? = some (.bool false) := hM.eqv 15 rfl (hp 15 rfl) rfl rfl
                  have f77 : ac_.tmps[77]? = some (.bool false) := hM.eqv 8 rfl (hp 8 rfl) rfl rfl
                  refine ⟨f77, ?_⟩
                  have hF : Fr 102 ac_ ((Env.nil.put 79 (.bool true)).put 84 (.bool false)) := ((hM.fr.add f79).add f84)
                  exact OpVal.draw hF (opPickT rfl rfl) ⟨G, fun _ _ h => h, ⟨hC, hB, hg⟩, rfl⟩
                refine dsNone (j := 18) rfl ?_ ?_
                · intro done G w ac_ hd hp hn ⟨hC, hB, hg⟩ hM
                  have f77 : ac_.tmps[77]? = some (.bool false) := hM.eqv 8 rfl (hp 8 rfl) rfl rfl
                  have f85 : ac_.tmps[85]? = some (.bool false) := hM.eqv 16 rfl (hp 16 rfl) rfl rfl
                  have hF : Fr 102 ac_ ((Env.nil.put 77 (.bool false)).put 85 (.bool false)) := ((hM.fr.add f77).add f85)
                  exact OpVal.draw hF (opPickF rfl rfl) ⟨G, fun _ _ h => h, ⟨hC, hB, hg⟩, rfl⟩
                refine dsNone (j := 19) rfl ?_ ?_
                · intro done G w ac_ hd hp hn ⟨hC, hB, hg⟩ hM
                  have f86 : ac_.tmps[86]? = some (.bool false) := hM.eqv 17 rfl (hp 17 rfl) rfl rfl
                  have hF : Fr 102 ac_ (Env.nil.put 86 (.bool false)) := (hM.fr.add f86)
                  exact OpVal.draw hF (opMove rfl) ⟨G, fun _ _ h => h, ⟨hC, hB, hg⟩, rfl⟩
                refine dsOn (j := 20) rfl rfl ?_ ?_
                · intro done G w ac_ hd hp hn ⟨hC, hB, hg⟩ hM
                  have f11 : ac_.tmps[11]? = some (.bool false) := hM.old0 rfl rfl
                  have f87 : ac_.tmps[87]? = some (.bool false) := hM.eqv 18 rfl (hp 18 rfl) rfl rfl
                  refine ⟨f87, ?_⟩
                  have hF : Fr 102 ac_ (Env.nil.put 11 (.bool false)) := (hM.fr.add f11)
                  exact OpVal.draw hF (opMove rfl) ⟨G, fun _ _ h => h, ⟨hC, hB, hg⟩, rfl⟩
                refine dsOn (j := 21) rfl rfl ?_ ?_
                · intro done G w ac_ hd hp hn ⟨hC, hB, hg⟩ hM
                  have f88 : ac_.tmps[88]? = some (.bool false) := hM.eqv 19 rfl (hp 19 rfl) rfl rfl
                  have f87 : ac_.tmps[87]? = some (.bool false) := hM.eqv 18 rfl (hp 18 rfl) rfl rfl
                  refine ⟨f87, ?_⟩
                  have hF : Fr 102 ac_ (Env.nil.put 88 (.bool false)) := (hM.fr.add f88)
                  exact OpVal.draw hF (opMove rfl) ⟨G, fun _ _ h => h, ⟨hC, hB, hg⟩, rfl⟩
                refine dsOff (j := 22) (b' := false) rfl rfl rfl ?_ ?_
                · intro done G w ac_ hd hp hn ⟨hC, hB, hg⟩ hM
                  have f89 : ac_.tmps[89]? = some (.bool false) := hM.eqv 20 rfl (hp 20 rfl) rfl rfl
                  exact ⟨f89, ⟨hC, hB, hg⟩, rfl⟩
                refine dsOff (j := 23) (b' := false) rfl rfl rfl ?_ ?_
                · intro done G w ac_ hd hp hn ⟨hC, hB, hg⟩ hM
                  have f89 : ac_.tmps[89]? = some (.bool false) := hM.eqv 20 rfl (hp 20 rfl) rfl rfl
                  exact ⟨f89, ⟨hC, hB, hg⟩, rfl⟩
                refine dsOff (j := 24) (b' := false) rfl rfl rfl ?_ ?_
                · intro done G w ac_ hd hp hn ⟨hC, hB, hg⟩ hM
                  have f89 : ac_.tmps[89]? = some (.bool false) := hM.eqv 20 rfl (hp 20 rfl) rfl rfl
                  exact ⟨f89, ⟨hC, hB, hg⟩, rfl⟩
                refine dsOffU (j := 25) rfl rfl ?_ ?_
                · intro done G w ac_ hd hp hn ⟨hC, hB, hg⟩ hM
                  have f92 : ac_.tmps[92]? = some undef := hM.eqv 23 rfl (hp 23 rfl) rfl rfl
                  exact ⟨f92, ⟨hC, hB, hg⟩, rfl⟩
                refine dsOffU (j := 26) rfl rfl ?_ ?_
                · intro done G w ac_ hd hp hn ⟨hC, hB, hg⟩ hM
                  have f92 : ac_.tmps[92]? = some undef := hM.eqv 23 rfl (hp 23 rfl) rfl rfl
                  exact ⟨f92, ⟨hC, hB, hg⟩, rfl⟩
                refine dsOffU (j := 27) rfl rfl ?_ ?_
                · intro done G w ac_ hd hp hn ⟨hC, hB, hg⟩ hM
                  have f92 : ac_.tmps[92]? = some undef := hM.eqv 23 rfl (hp 23 rfl) rfl rfl
                  exact ⟨f92, ⟨hC, hB, hg⟩, rfl⟩
                refine dsOffU (j := 28) rfl rfl ?_ ?_
                · intro done G w ac_ hd hp hn ⟨hC, hB, hg⟩ hM
                  have f92 : ac_.tmps[92]? = some undef := hM.eqv 23 rfl (hp 23 rfl) rfl rfl
                  exact ⟨f92, ⟨hC, hB, hg⟩, rfl⟩
                exact dsNil
              · intro done G w ac_ hall htl ⟨hC, hB, hg⟩ hM
                replace hl := hl.mono hg
                replace hr17 := hr17.mono hg
                replace h39 := h39.mono hg
                have f1 : ac_.tmps[1]? = some (.slice (some ⟨b14, o15, none⟩) l.length cap2) := hM.old0 rfl rfl
                have f5 : ac_.tmps[5]? = some (.int .i64 (IntKind.wrap .i64 (1 + ((bringI faults 2))))) := hM.old0 rfl rfl
                have f6 : ac_.tmps[6]? = some (.pointer (some ⟨b8, 0, none⟩)) := hM.old0 rfl rfl
                have f7 : ac_.tmps[7]? = some (.int .i64 (((k : Nat) : Int))) := hM.old0 rfl rfl
                have f87 : ac_.tmps[87]? = some (.bool false) := hM.eqv 18 rfl (hall 18 rfl) rfl rfl
                have f89 : ac_.tmps[89]? = some (.bool false) := hM.eqv 20 rfl (hall 20 rfl) rfl rfl
                have f92 : ac_.tmps[92]? = some undef := hM.eqv 23 rfl (hall 23 rfl) rfl rfl
                have f94 : ac_.tmps[94]? = some undef := hM.eqv 25 rfl (hall 25 rfl) rfl rfl
                have f96 : ac_.tmps[96]? = some undef := hM.eqv 27 rfl (hall 27 rfl) rfl rfl
                refine ⟨(((((((((Env.nil.put 1 (.slice (some ⟨b14, o15, none⟩) l.length cap2)).put 5 (.int .i64 (IntKind.wrap .i64 (1 + ((bringI faults 2)))))).put 6 (.pointer (some ⟨b8, 0, none⟩))).put 7 (.int .i64 (((k : Nat) : Int)))).put 87 (.bool false)).put 89 (.bool false)).put 92 undef).put 94 undef).put 96 undef), (((((((((hM.fr.add f1).add f5).add f6).add f7).add f87).add f89).add f92).add f94).add f96), ?_⟩
                clear hM hall htl
                refine wlOffU rfl rfl rfl ?_
                refine wlOff rfl rfl rfl rfl ?_
                refine wlOn rfl rfl ?_
                refine wlVal (opPickF rfl rfl) rfl ?_
                refine wlVal (opPickF rfl rfl) rfl ?_
                refine wlThen ?_
                refine wcCondF rfl ?_
                refine wcSkip ?_
                refine wcOf ?_
                refine wcRegion ?_
                refine wlVal (opMove rfl) rfl ?_
                refine wlVal (opIncr rfl rfl (incr_ok (of_decide_eq_true h10) hl.le)) rfl ?_
                refine wlVal (opAssign rfl) rfl ?_
                refine wlRound ?_
                exact (IH0 (k + 1, o37, q38, ((voteM ms (IntKind.wrap .i64 (1 + ((bringI x12.node (IntKind.wrap .i64 (IntKind.wrap .i64 (3 * IntKind.wrap .i64 (1 + ((bringI faults 2)))) + 1)))))) (((markI (IntKind.wrap .i64 (1 + ((bringI x12.seq 6)))) ((0 : UInt8)))))).1)) _ _ ⟨hC, hB.tail.tail, hl, h39, (tr_vote hJ (fun _ => rfl))⟩ (by have := of_decide_eq_true h10; show l.length - (k + 1) < l.length - k; omega)).sub (fun _ ha => ((((ha.start.cons ha (t := 1) rfl).cons ha (t := 5) rfl).cons ha (t := 6) rfl).cons ha (t := 7) rfl))
        · skip
          cases h45 : decide (((gR (lists (((voteM ms (IntKind.wrap .i64 (1 + ((bringI x12.node (IntKind.wrap .i64 (IntKind.wrap .i64 (3 * IntKind.wrap .i64 (1 + ((bringI faults 2)))) + 1)))))) (((markI (IntKind.wrap .i64 (1 + ((bringI x12.seq 6)))) ((0 : UInt8)))))).1))) (most (((voteM ms (IntKind.wrap .i64 (1 + ((bringI x12.node (IntKind.wrap .i64 (IntKind.wrap .i64 (3 * IntKind.wrap .i64 (1 + ((bringI faults 2)))) + 1)))))) (((markI (IntKind.wrap .i64 (1 + ((bringI x12.seq 6)))) ((0 : UInt8)))))).1)).crew)).1).dig = ((markI 0 ((0 : UInt8)))).dig)
          · skip
            exact absurd ((tr_law h12 (tr_vote hJ (fun _ => rfl))).1 h42) (of_decide_eq_false h45)
          · skip
            cases h46 : ((gR (lists (((voteM ms (IntKind.wrap .i64 (1 + ((bringI x12.node (IntKind.wrap .i64 (IntKind.wrap .i64 (3 * IntKind.wrap .i64 (1 + ((bringI faults 2)))) + 1)))))) (((markI (IntKind.wrap .i64 (1 + ((bringI x12.seq 6)))) ((0 : UInt8)))))).1))) (some_ (((voteM ms (IntKind.wrap .i64 (1 + ((bringI x12.node (IntKind.wrap .i64 (IntKind.wrap .i64 (3 * IntKind.wrap .i64 (1 + ((bringI faults 2)))) + 1)))))) (((markI (IntKind.wrap .i64 (1 + ((bringI x12.seq 6)))) ((0 : UInt8)))))).1)).crew)).2)
            · skip
              exact (Bool.false_ne_true (h46.symm.trans ((tr_law h12 (tr_vote hJ (fun _ => rfl))).2.2 h42).1)).elim
            · skip
              cases h47 : decide (((gR (lists (((voteM ms (IntKind.wrap .i64 (1 + ((bringI x12.node (IntKind.wrap .i64 (IntKind.wrap .i64 (3 * IntKind.wrap .i64 (1 + ((bringI faults 2)))) + 1)))))) (((markI (IntKind.wrap .i64 (1 + ((bringI x12.seq 6)))) ((0 : UInt8)))))).1))) (some_ (((voteM ms (IntKind.wrap .i64 (1 + ((bringI x12.node (IntKind.wrap .i64 (IntKind.wrap .i64 (3 * IntKind.wrap .i64 (1 + ((bringI faults 2)))) + 1)))))) (((markI (IntKind.wrap .i64 (1 + ((bringI x12.seq 6)))) ((0 : UInt8)))))).1)).crew)).1).dig = ((markI 0 ((0 : UInt8)))).dig)
              · skip
                exact absurd ((tr_law h12 (tr_vote hJ (fun _ => rfl))).2.1 h46) (of_decide_eq_false h47)
              · skip
                refine wcDrawT 28 fmix (by kernel_rfl) (by kernel_rfl) (by kernel_rfl) (by kernel_rfl) (vAt [(fun _ v_ => v_ = (.bool true)), (fun _ v_ => v_ = (.bool true)), (fun _ v_ => v_ = (.pointer (some ⟨b40, 1, none⟩))), (fun _ v_ => v_ = (.agg (((gR (lists (((voteM ms (IntKind.wrap .i64 (1 + ((bringI x12.node (IntKind.wrap .i64 (IntKind.wrap .i64 (3 * IntKind.wrap .i64 (1 + ((bringI faults 2)))) + 1)))))) (((markI (IntKind.wrap .i64 (1 + ((bringI x12.seq 6)))) ((0 : UInt8)))))).1))) (most (((voteM ms (IntKind.wrap .i64 (1 + ((bringI x12.node (IntKind.wrap .i64 (IntKind.wrap .i64 (3 * IntKind.wrap .i64 (1 + ((bringI faults 2)))) + 1)))))) (((markI (IntKind.wrap .i64 (1 + ((bringI x12.seq 6)))) ((0 : UInt8)))))).1)).crew)).1).dig).cells.toArray)), (fun _ v_ => v_ = (.agg (((markI 0 ((0 : UInt8))))).cells.toArray)), (fun _ v_ => v_ = (.agg (((markI 0 ((0 : UInt8)))).dig).cells.toArray)), (fun _ v_ => v_ = (.bool false)), (fun _ v_ => v_ = (.bool false)), (fun _ v_ => v_ = (.bool false)), (fun _ v_ => v_ = (.bool true)), (fun _ v_ => v_ = (.bool true)), (fun _ v_ => v_ = (.pointer (some ⟨b41, 1, none⟩))), (fun _ v_ => v_ = (.agg (((gR (lists (((voteM ms (IntKind.wrap .i64 (1 + ((bringI x12.node (IntKind.wrap .i64 (IntKind.wrap .i64 (3 * IntKind.wrap .i64 (1 + ((bringI faults 2)))) + 1)))))) (((markI (IntKind.wrap .i64 (1 + ((bringI x12.seq 6)))) ((0 : UInt8)))))).1))) (some_ (((voteM ms (IntKind.wrap .i64 (1 + ((bringI x12.node (IntKind.wrap .i64 (IntKind.wrap .i64 (3 * IntKind.wrap .i64 (1 + ((bringI faults 2)))) + 1)))))) (((markI (IntKind.wrap .i64 (1 + ((bringI x12.seq 6)))) ((0 : UInt8)))))).1)).crew)).1).dig).cells.toArray)), (fun _ v_ => v_ = (.agg (((markI 0 ((0 : UInt8))))).cells.toArray)), (fun _ v_ => v_ = (.agg (((markI 0 ((0 : UInt8)))).dig).cells.toArray)), (fun _ v_ => v_ = (.bool false)), (fun _ v_ => v_ = (.bool false)), (fun _ v_ => v_ = (.bool false)), (fun _ v_ => v_ = (.bool false)), (fun _ v_ => v_ = (.bool true)), (fun _ v_ => v_ = (.bool true)), (fun _ v_ => v_ = (.bool true)), (fun _ v_ => v_ = (.bool false)), (fun _ v_ => v_ = (.bool false)), (fun _ v_ => v_ = (.pointer (some ⟨b41, 0, none⟩))), (fun _ v_ => v_ = (.int .i64 (((gR (lists (((voteM ms (IntKind.wrap .i64 (1 + ((bringI x12.node (IntKind.wrap .i64 (IntKind.wrap .i64 (3 * IntKind.wrap .i64 (1 + ((bringI faults 2)))) + 1)))))) (((markI (IntKind.wrap .i64 (1 + ((bringI x12.seq 6)))) ((0 : UInt8)))))).1))) (some_ (((voteM ms (IntKind.wrap .i64 (1 + ((bringI x12.node (IntKind.wrap .i64 (IntKind.wrap .i64 (3 * IntKind.wrap .i64 (1 + ((bringI faults 2)))) + 1)))))) (((markI (IntKind.wrap .i64 (1 + ((bringI x12.seq 6)))) ((0 : UInt8)))))).1)).crew)).1).seq))), (fun _ v_ => v_ = (.pointer (some ⟨b40, 0, none⟩))), (fun _ v_ => v_ = (.int .i64 (((gR (lists (((voteM ms (IntKind.wrap .i64 (1 + ((bringI x12.node (IntKind.wrap .i64 (IntKind.wrap .i64 (3 * IntKind.wrap .i64 (1 + ((bringI faults 2)))) + 1)))))) (((markI (IntKind.wrap .i64 (1 + ((bringI x12.seq 6)))) ((0 : UInt8)))))).1))) (most (((voteM ms (IntKind.wrap .i64 (1 + ((bringI x12.node (IntKind.wrap .i64 (IntKind.wrap .i64 (3 * IntKind.wrap .i64 (1 + ((bringI faults 2)))) + 1)))))) (((markI (IntKind.wrap .i64 (1 + ((bringI x12.seq 6)))) ((0 : UInt8)))))).1)).crew)).1).seq)))]) (fun _ _ G' w => Cx w0 G0 G' w ⟨[], [(b8, o37), (l9, q38)]⟩ ∧ Bxs G' w w0.heap.size [(b41, 28, (((gR (lists (((voteM ms (IntKind.wrap .i64 (1 + ((bringI x12.node (IntKind.wrap .i64 (IntKind.wrap .i64 (3 * IntKind.wrap .i64 (1 + ((bringI faults 2)))) + 1)))))) (((markI (IntKind.wrap .i64 (1 + ((bringI x12.seq 6)))) ((0 : UInt8)))))).1))) (some_ (((voteM ms (IntKind.wrap .i64 (1 + ((bringI x12.node (IntKind.wrap .i64 (IntKind.wrap .i64 (3 * IntKind.wrap .i64 (1 + ((bringI faults 2)))) + 1)))))) (((markI (IntKind.wrap .i64 (1 + ((bringI x12.seq 6)))) ((0 : UInt8)))))).1)).crew)).1)).cells), (b40, 28, (((gR (lists (((voteM ms (IntKind.wrap .i64 (1 + ((bringI x12.node (IntKind.wrap .i64 (IntKind.wrap .i64 (3 * IntKind.wrap .i64 (1 + ((bringI faults 2)))) + 1)))))) (((markI (IntKind.wrap .i64 (1 + ((bringI x12.seq 6)))) ((0 : UInt8)))))).1))) (most (((voteM ms (IntKind.wrap .i64 (1 + ((bringI x12.node (IntKind.wrap .i64 (IntKind.wrap .i64 (3 * IntKind.wrap .i64 (1 + ((bringI faults 2)))) + 1)))))) (((markI (IntKind.wrap .i64 (1 + ((bringI x12.seq 6)))) ((0 : UInt8)))))).1)).crew)).1)).cells)] ⟨[], [(b8, o37), (l9, q38)]⟩ ∧ GLe G G') G (vAt_mono ⟨fun _ _ _ _ h => h, fun _ _ _ _ h => h, fun _ _ _ _ h => h, fun _ _ _ _ h => h, fun _ _ _ _ h => h, fun _ _ _ _ h => h, fun _ _ _ _ h => h, fun _ _ _ _ h => h, fun _ _ _ _ h => h, fun _ _ _ _ h => h, fun _ _ _ _ h => h, fun _ _ _ _ h => h, fun _ _ _ _ h => h, fun _ _ _ _ h => h, fun _ _ _ _ h => h, fun _ _ _ _ h => h, fun _ _ _ _ h => h, fun _ _ _ _ h => h, fun _ _ _ _ h => h, fun _ _ _ _ h => h, fun _ _ _ _ h => h, fun _ _ _ _ h => h, fun _ _ _ _ h => h, fun _ _ _ _ h => h, fun _ _ _ _ h => h, fun _ _ _ _ h => h, fun _ _ _ _ h => h, fun _ _ _ _ h => h, trivial⟩) (fun _ _ => ⟨hC.drew, hB.drew, fun _ _ h => h⟩) ?_ ?_
                · refine dsNone (j := 1) rfl ?_ ?_
                  · intro done G w ac_ hd hp hn ⟨hC, hB, hg⟩ hM
                    have f11 : ac_.tmps[11]? = some (.bool true) := hM.old0 rfl rfl
                    have hF : Fr 102 ac_ (Env.nil.put 11 (.bool true)) := (hM.fr.add f11)
                    exact OpVal.draw hF (opMove rfl) ⟨G, fun _ _ h => h, ⟨hC, hB, hg⟩, rfl⟩
                  refine dsNone (j := 2) rfl ?_ ?_
                  · intro done G w ac_ hd hp hn ⟨hC, hB, hg⟩ hM
                    have f69 : ac_.tmps[69]? = some (.bool true) := hM.eqv 0 rfl (hp 0 rfl) rfl rfl
                    have hF : Fr 102 ac_ (Env.nil.put 69 (.bool true)) := (hM.fr.add f69)
                    exact OpVal.draw hF (opMove rfl) ⟨G, fun _ _ h => h, ⟨hC, hB, hg⟩, rfl⟩
                  refine dsOn (j := 3) rfl rfl ?_ ?_
                  · intro done G w ac_ hd hp hn ⟨hC, hB, hg⟩ hM
                    have f10 : ac_.tmps[10]? = some (.pointer (some ⟨b40, 0, none⟩)) := hM.old0 rfl rfl
                    have f70 : ac_.tmps[70]? = some (.bool true) := hM.eqv 1 rfl (hp 1 rfl) rfl rfl
                    refine ⟨f70, ?_⟩
                    have hF : Fr 102 ac_ (Env.nil.put 10 (.pointer (some ⟨b40, 0, none⟩))) := (hM.fr.add f10)
                    exact OpVal.draw hF (opFieldAddr rfl fo28_1) ⟨G, fun _ _ h => h, ⟨hC, hB, hg⟩, rfl⟩
                  refine dsOn (j := 4) rfl rfl ?_ ?_
                  · intro done G w ac_ hd hp hn ⟨hC, hB, hg⟩ hM
                    have f71 : ac_.tmps[71]? = some (.pointer (some ⟨b40, 1, none⟩)) := hM.eqv 2 rfl (hp 2 rfl) rfl rfl
                    have f70 : ac_.tmps[70]? = some (.bool true) := hM.eqv 1 rfl (hp 1 rfl) rfl rfl
                    refine ⟨f70, ?_⟩
                    have hF : Fr 102 ac_ (Env.nil.put 71 (.pointer (some ⟨b40, 1, none⟩))) := (hM.fr.add f71)
                    exact OpVal.draw hF (opLoadRow (cs := (((gR (lists (((voteM ms (IntKind.wrap .i64 (1 + ((bringI x12.node (IntKind.wrap .i64 (IntKind.wrap .i64 (3 * IntKind.wrap .i64 (1 + ((bringI faults 2)))) + 1)))))) (((markI (IntKind.wrap .i64 (1 + ((bringI x12.seq 6)))) ((0 : UInt8)))))).1))) (most (((voteM ms (IntKind.wrap .i64 (1 + ((bringI x12.node (IntKind.wrap .i64 (IntKind.wrap .i64 (3 * IntKind.wrap .i64 (1 + ((bringI faults 2)))) + 1)))))) (((markI (IntKind.wrap .i64 (1 + ((bringI x12.seq 6)))) ((0 : UInt8)))))).1)).crew)).1).dig).cells) rfl (hB.range (i := 1) (m := 32) rfl (by simp [Mark.cells, Do.cells, Word.cells])) row26 (by simp [Mark.cells, Do.cells, Word.cells])) ⟨G, fun _ _ h => h, ⟨hC, hB, hg⟩, rfl⟩
                  refine dsOn (j := 5) rfl rfl ?_ ?_
                  · intro done G w ac_ hd hp hn ⟨hC, hB, hg⟩ hM
                    have f70 : ac_.tmps[70]? = some (.bool true) := hM.eqv 1 rfl (hp 1 rfl) rfl rfl
                    refine ⟨f70, ?_⟩
                    have hF : Fr 102 ac_ Env.nil := hM.fr
                    exact drawCallS hF rfl co19 rfl (mark_ret _ _ hC.holds 0 ((0 : UInt8))) (fun w' hk => ⟨G, fun _ _ h => h, ⟨hC.trans hk, hB.ext hk, hg⟩, rfl⟩)
                  refine dsOn (j := 6) rfl rfl ?_ ?_
                  · intro done G w ac_ hd hp hn ⟨hC, hB, hg⟩ hM
                    have f73 : ac_.tmps[73]? = some (.agg (((markI 0 ((0 : UInt8))))).cells.toArray) := hM.eqv 4 rfl (hp 4 rfl) rfl rfl
                    have f70 : ac_.tmps[70]? = some (.bool true) := hM.eqv 1 rfl (hp 1 rfl) rfl rfl
                    refine ⟨f70, ?_⟩
                    have hF : Fr 102 ac_ (Env.nil.put 73 (.agg (((markI 0 ((0 : UInt8))))).cells.toArray)) := (hM.fr.add f73)
                    exact OpVal.draw hF (opFieldRow (cs := (((markI 0 ((0 : UInt8))))).cells) (r := (((markI 0 ((0 : UInt8)))).dig).cells) rfl fi28_1 row26 (by simp [Mark.cells, Do.cells, Word.cells])) ⟨G, fun _ _ h => h, ⟨hC, hB, hg⟩, rfl⟩
                  refine dsOn (j := 7) rfl rfl ?_ ?_
                  · intro done G w ac_ hd hp hn ⟨hC, hB, hg⟩ hM
                    have f72 : ac_.tmps[72]? = some (.agg (((gR (lists (((voteM ms (IntKind.wrap .i64 (1 + ((bringI x12.node (IntKind.wrap .i64 (IntKind.wrap .i64 (3 * IntKind.wrap .i64 (1 + ((bringI faults 2)))) + 1)))))) (((markI (IntKind.wrap .i64 (1 + ((bringI x12.seq 6)))) ((0 : UInt8)))))).1))) (most (((voteM ms (IntKind.wrap .i64 (1 + ((bringI x12.node (IntKind.wrap .i64 (IntKind.wrap .i64 (3 * IntKind.wrap .i64 (1 + ((bringI faults 2)))) + 1)))))) (((markI (IntKind.wrap .i64 (1 + ((bringI x12.seq 6)))) ((0 : UInt8)))))).1)).crew)).1).dig).cells.toArray) := hM.eqv 3 rfl (hp 3 rfl) rfl rfl
                    have f74 : ac_.tmps[74]? = some (.agg (((markI 0 ((0 : UInt8)))).dig).cells.toArray) := hM.eqv 5 rfl (hp 5 rfl) rfl rfl
                    have f70 : ac_.tmps[70]? = some (.bool true) := hM.eqv 1 rfl (hp 1 rfl) rfl rfl
                    refine ⟨f70, ?_⟩
                    have hF : Fr 102 ac_ ((Env.nil.put 72 (.agg (((gR (lists (((voteM ms (IntKind.wrap .i64 (1 + ((bringI x12.node (IntKind.wrap .i64 (IntKind.wrap .i64 (3 * IntKind.wrap .i64 (1 + ((bringI faults 2)))) + 1)))))) (((markI (IntKind.wrap .i64 (1 + ((bringI x12.seq 6)))) ((0 : UInt8)))))).1))) (most (((voteM ms (IntKind.wrap .i64 (1 + ((bringI x12.node (IntKind.wrap .i64 (IntKind.wrap .i64 (3 * IntKind.wrap .i64 (1 + ((bringI faults 2)))) + 1)))))) (((markI (IntKind.wrap .i64 (1 + ((bringI x12.seq 6)))) ((0 : UInt8)))))).1)).crew)).1).dig).cells.toArray)).put 74 (.agg (((markI 0 ((0 : UInt8)))).dig).cells.toArray)) := ((hM.fr.add f72).add f74)
                    exact OpVal.draw hF (OpVal.cast (opNeRow (eq26 _ (((gR (lists (((voteM ms (IntKind.wrap .i64 (1 + ((bringI x12.node (IntKind.wrap .i64 (IntKind.wrap .i64 (3 * IntKind.wrap .i64 (1 + ((bringI faults 2)))) + 1)))))) (((markI (IntKind.wrap .i64 (1 + ((bringI x12.seq 6)))) ((0 : UInt8)))))).1))) (most (((voteM ms (IntKind.wrap .i64 (1 + ((bringI x12.node (IntKind.wrap .i64 (IntKind.wrap .i64 (3 * IntKind.wrap .i64 (1 + ((bringI faults 2)))) + 1)))))) (((markI (IntKind.wrap .i64 (1 + ((bringI x12.seq 6)))) ((0 : UInt8)))))).1)).crew)).1).dig) (((markI 0 ((0 : UInt8)))).dig)) eg26 rfl rfl) (congrArg Value.bool (by rw [h45]; rfl))) ⟨G, fun _ _ h => h, ⟨hC, hB, hg⟩, rfl⟩
                  refine dsNone (j := 8) rfl ?_ ?_
                  · intro done G w ac_ hd hp hn ⟨hC, hB, hg⟩ hM
                    have f70 : ac_.tmps[70]? = some (.bool true) := hM.eqv 1 rfl (hp 1 rfl) rfl rfl
                    have f75 : ac_.tmps[75]? = some (.bool false) := hM.eqv 6 rfl (hp 6 rfl) rfl rfl
                    have hF : Fr 102 ac_ ((Env.nil.put 70 (.bool true)).put 75 (.bool false)) := ((hM.fr.add f70).add f75)
                    exact OpVal.draw hF (opPickT rfl rfl) ⟨G, fun _ _ h => h, ⟨hC, hB, hg⟩, rfl⟩
                  refine dsNone (j := 9) rfl ?_ ?_
                  · intro done G w ac_ hd hp hn ⟨hC, hB, hg⟩ hM
                    have f76 : ac_.tmps[76]? = some (.bool false) := hM.eqv 7 rfl (hp 7 rfl) rfl rfl
                    have hF : Fr 102 ac_ (Env.nil.put 76 (.bool false)) := (hM.fr.add f76)
                    exact OpVal.draw hF (opMove rfl) ⟨G, fun _ _ h => h, ⟨hC, hB, hg⟩, rfl⟩
                  refine dsOn (j := 10) rfl rfl ?_ ?_
                  · intro done G w ac_ hd hp hn ⟨hC, hB, hg⟩ hM
                    have f13 : ac_.tmps[13]? = some (.bool true) := hM.old0 rfl rfl
                    have f77 : ac_.tmps[77]? = some (.bool false) := hM.eqv 8 rfl (hp 8 rfl) rfl rfl
                    refine ⟨f77, ?_⟩
                    have hF : Fr 102 ac_ (Env.nil.put 13 (.bool true)) := (hM.fr.add f13)
                    exact OpVal.draw hF (opMove rfl) ⟨G, fun _ _ h => h, ⟨hC, hB, hg⟩, rfl⟩
                  refine dsOn (j := 11) rfl rfl ?_ ?_
                  · intro done G w ac_ hd hp hn ⟨hC, hB, hg⟩ hM
                    have f78 : ac_.tmps[78]? = some (.bool true) := hM.eqv 9 rfl (hp 9 rfl) rfl rfl
                    have f77 : ac_.tmps[77]? = some (.bool false) := hM.eqv 8 rfl (hp 8 rfl) rfl rfl
                    refine ⟨f77, ?_⟩
                    have hF : Fr 102 ac_ (Env.nil.put 78 (.bool true)) := (hM.fr.add f78)
                    exact OpVal.draw hF (opMove rfl) ⟨G, fun _ _ h => h, ⟨hC, hB, hg⟩, rfl⟩
                  refine dsOn (j := 12) rfl rfl ?_ ?_
                  · intro done G w ac_ hd hp hn ⟨hC, hB, hg⟩ hM
                    have f12 : ac_.tmps[12]? = some (.pointer (some ⟨b41, 0, none⟩)) := hM.old0 rfl rfl
                    have f79 : ac_.tmps[79]? = some (.bool true) := hM.eqv 10 rfl (hp 10 rfl) rfl rfl
                    refine ⟨f79, ?_⟩
                    have hF : Fr 102 ac_ (Env.nil.put 12 (.pointer (some ⟨b41, 0, none⟩))) := (hM.fr.add f12)
                    exact OpVal.draw hF (opFieldAddr rfl fo28_1) ⟨G, fun _ _ h => h, ⟨hC, hB, hg⟩, rfl⟩
                  refine dsOn (j := 13) rfl rfl ?_ ?_
                  · intro done G w ac_ hd hp hn ⟨hC, hB, hg⟩ hM
                    have f80 : ac_.tmps[80]? = some (.pointer (some ⟨b41, 1, none⟩)) := hM.eqv 11 rfl (hp 11 rfl) rfl rfl
                    have f79 : ac_.tmps[79]? = some (.bool true) := hM.eqv 10 rfl (hp 10 rfl) rfl rfl
                    refine ⟨f79, ?_⟩
                    have hF : Fr 102 ac_ (Env.nil.put 80 (.pointer (some ⟨b41, 1, none⟩))) := (hM.fr.add f80)
                    exact OpVal.draw hF (opLoadRow (cs := (((gR (lists (((voteM ms (IntKind.wrap .i64 (1 + ((bringI x12.node (IntKind.wrap .i64 (IntKind.wrap .i64 (3 * IntKind.wrap .i64 (1 + ((bringI faults 2)))) + 1)))))) (((markI (IntKind.wrap .i64 (1 + ((bringI x12.seq 6)))) ((0 : UInt8)))))).1))) (some_ (((voteM ms (IntKind.wrap .i64 (1 + ((bringI x12.node (IntKind.wrap .i64 (IntKind.wrap .i64 (3 * IntKind.wrap .i64 (1 + ((bringI faults 2)))) + 1)))))) (((markI (IntKind.wrap .i64 (1 + ((bringI x12.seq 6)))) ((0 : UInt8)))))).1)).crew)).1).dig).cells) rfl (hB.range (i := 0) (m := 32) rfl (by simp [Mark.cells, Do.cells, Word.cells])) row26 (by simp [Mark.cells, Do.cells, Word.cells])) ⟨G, fun _ _ h => h, ⟨hC, hB, hg⟩, rfl⟩
                  refine dsOn (j := 14) rfl rfl ?_ ?_
                  · intro done G w ac_ hd hp hn ⟨hC, hB, hg⟩ hM
                    have f79 : ac_.tmps[79]? = some (.bool true) := hM.eqv 10 rfl (hp 10 rfl) rfl rfl
                    refine ⟨f79, ?_⟩
                    have hF : Fr 102 ac_ Env.nil := hM.fr
                    exact drawCallS hF rfl co19 rfl (mark_ret _ _ hC.holds 0 ((0 : UInt8))) (fun w' hk => ⟨G, fun _ _ h => h, ⟨hC.trans hk, hB.ext hk, hg⟩, rfl⟩)
                  refine dsOn (j := 15) rfl rfl ?_ ?_
                  · intro done G w ac_ hd hp hn ⟨hC, hB, hg⟩ hM
                    have f82 : ac_.tmps[82]? = some (.agg (((markI 0 ((0 : UInt8))))).cells.toArray) := hM.eqv 13 rfl (hp 13 rfl) rfl rfl
                    have f79 : ac_.tmps[79]? = some (.bool true) := hM.eqv 10 rfl (hp 10 rfl) rfl rfl
                    refine ⟨f79, ?_⟩
                    have hF : Fr 102 ac_ (Env.nil.put 82 (.agg (((markI 0 ((0 : UInt8))))).cells.toArray)) := (hM.fr.add f82)
                    exact OpVal.draw hF (opFieldRow (cs := (((markI 0 ((0 : UInt8))))).cells) (r := (((markI 0 ((0 : UInt8)))).dig).cells) rfl fi28_1 row26 (by simp [Mark.cells, Do.cells, Word.cells])) ⟨G, fun _ _ h => h, ⟨hC, hB, hg⟩, rfl⟩
                  refine dsOn (j := 16) rfl rfl ?_ ?_
                  · intro done G w ac_ hd hp hn ⟨hC, hB, hg⟩ hM
                    have f81 : ac_.tmps[81]? = some (.agg (((gR (lists (((voteM ms (IntKind.wrap .i64 (1 + ((bringI x12.node (IntKind.wrap .i64 (IntKind.wrap .i64 (3 * IntKind.wrap .i64 (1 + ((bringI faults 2)))) + 1)))))) (((markI (IntKind.wrap .i64 (1 + ((bringI x12.seq 6)))) ((0 : UInt8)))))).1))) (some_ (((voteM ms (IntKind.wrap .i64 (1 + ((bringI x12.node (IntKind.wrap .i64 (IntKind.wrap .i64 (3 * IntKind.wrap .i64 (1 + ((bringI faults 2)))) + 1)))))) (((markI (IntKind.wrap .i64 (1 + ((bringI x12.seq 6)))) ((0 : UInt8)))))).1)).crew)).1).dig).cells.toArray) := hM.eqv 12 rfl (hp 12 rfl) rfl rfl
                    have f83 : ac_.tmps[83]? = some (.agg (((markI 0 ((0 : UInt8)))).dig).cells.toArray) := hM.eqv 14 rfl (hp 14 rfl) rfl rfl
                    have f79 : ac_.tmps[79]? = some (.bool true) := hM.eqv 10 rfl (hp 10 rfl) rfl rfl
                    refine ⟨f79, ?_⟩
                    have hF : Fr 102 ac_ ((Env.nil.put 81 (.agg (((gR (lists (((voteM ms (IntKind.wrap .i64 (1 + ((bringI x12.node (IntKind.wrap .i64 (IntKind.wrap .i64 (3 * IntKind.wrap .i64 (1 + ((bringI faults 2)))) + 1)))))) (((markI (IntKind.wrap .i64 (1 + ((bringI x12.seq 6)))) ((0 : UInt8)))))).1))) (some_ (((voteM ms (IntKind.wrap .i64 (1 + ((bringI x12.node (IntKind.wrap .i64 (IntKind.wrap .i64 (3 * IntKind.wrap .i64 (1 + ((bringI faults 2)))) + 1)))))) (((markI (IntKind.wrap .i64 (1 + ((bringI x12.seq 6)))) ((0 : UInt8)))))).1)).crew)).1).dig).cells.toArray)).put 83 (.agg (((markI 0 ((0 : UInt8)))).dig).cells.toArray)) := ((hM.fr.add f81).add f83)
                    exact OpVal.draw hF (OpVal.cast (opNeRow (eq26 _ (((gR (lists (((voteM ms (IntKind.wrap .i64 (1 + ((bringI x12.node (IntKind.wrap .i64 (IntKind.wrap .i64 (3 * IntKind.wrap .i64 (1 + ((bringI faults 2)))) + 1)))))) (((markI (IntKind.wrap .i64 (1 + ((bringI x12.seq 6)))) ((0 : UInt8)))))).1))) (some_ (((voteM ms (IntKind.wrap .i64 (1 + ((bringI x12.node (IntKind.wrap .i64 (IntKind.wrap .i64 (3 * IntKind.wrap .i64 (1 + ((bringI faults 2)))) + 1)))))) (((markI (IntKind.wrap .i64 (1 + ((bringI x12.seq 6)))) ((0 : UInt8)))))).1)).crew)).1).dig) (((markI 0 ((0 : UInt8)))).dig)) eg26 rfl rfl) (congrArg Value.bool (by rw [h47]; rfl))) ⟨G, fun _ _ h => h, ⟨hC, hB, hg⟩, rfl⟩
                  refine dsOn (j := 17) rfl rfl ?_ ?_
                  · intro done G w ac_ hd hp hn ⟨hC, hB, hg⟩ hM
                    have f79 : ac_.tmps[79]? = some (.bool true) := hM.eqv 10 rfl (hp 10 rfl) rfl rfl
                    have f84 : ac_.tmps[84]? = some (.bool false) := hM.eqv 15 rfl (hp 15 rfl) rfl rfl
                    have f77 : ac_.tmps[77]? = some (.bool false) := hM.eqv 8 rfl (hp 8 rfl) rfl rfl
                    refine ⟨f77, ?_⟩
                    have hF : Fr 102 ac_ ((Env.nil.put 79 (.bool true)).put 84 (.bool false)) := ((hM.fr.add f79).add f84)
                    exact OpVal.draw hF (opPickT rfl rfl) ⟨G, fun _ _ h => h, ⟨hC, hB, hg⟩, rfl⟩
                  refine dsNone (j := 18) rfl ?_ ?_
                  · intro done G w ac_ hd hp hn ⟨hC, hB, hg⟩ hM
                    have f77 : ac_.tmps[77]? = some (.bool false) := hM.eqv 8 rfl (hp 8 rfl) rfl rfl
                    have f85 : ac_.tmps[85]? = some (.bool false) := hM.eqv 16 rfl (hp 16 rfl) rfl rfl
                    have hF : Fr 102 ac_ ((Env.nil.put 77 (.bool false)).put 85 (.bool false)) := ((hM.fr.add f77).add f85)
                    exact OpVal.draw hF (opPickF rfl rfl) ⟨G, fun _ _ h => h, ⟨hC, hB, hg⟩, rfl⟩
                  refine dsNone (j := 19) rfl ?_ ?_
                  · intro done G w ac_ hd hp hn ⟨hC, hB, hg⟩ hM
                    have f86 : ac_.tmps[86]? = some (.bool false) := hM.eqv 17 rfl (hp 17 rfl) rfl rfl
                    have hF : Fr 102 ac_ (Env.nil.put 86 (.bool false)) := (hM.fr.add f86)
                    exact OpVal.draw hF (opMove rfl) ⟨G, fun _ _ h => h, ⟨hC, hB, hg⟩, rfl⟩
                  refine dsOn (j := 20) rfl rfl ?_ ?_
                  · intro done G w ac_ hd hp hn ⟨hC, hB, hg⟩ hM
                    have f11 : ac_.tmps[11]? = some (.bool true) := hM.old0 rfl rfl
                    have f87 : ac_.tmps[87]? = some (.bool false) := hM.eqv 18 rfl (hp 18 rfl) rfl rfl
                    refine ⟨f87, ?_⟩
                    have hF : Fr 102 ac_ (Env.nil.put 11 (.bool true)) := (hM.fr.add f11)
                    exact OpVal.draw hF (opMove rfl) ⟨G, fun _ _ h => h, ⟨hC, hB, hg⟩, rfl⟩
                  refine dsOn (j := 21) rfl rfl ?_ ?_
                  · intro done G w ac_ hd hp hn ⟨hC, hB, hg⟩ hM
                    have f88 : ac_.tmps[88]? = some (.bool true) := hM.eqv 19 rfl (hp 19 rfl) rfl rfl
                    have f87 : ac_.tmps[87]? = some (.bool false) := hM.eqv 18 rfl (hp 18 rfl) rfl rfl
                    refine ⟨f87, ?_⟩
                    have hF : Fr 102 ac_ (Env.nil.put 88 (.bool true)) := (hM.fr.add f88)
                    exact OpVal.draw hF (opMove rfl) ⟨G, fun _ _ h => h, ⟨hC, hB, hg⟩, rfl⟩
                  refine dsOn (j := 22) rfl rfl ?_ ?_
                  · intro done G w ac_ hd hp hn ⟨hC, hB, hg⟩ hM
                    have f13 : ac_.tmps[13]? = some (.bool true) := hM.old0 rfl rfl
                    have f89 : ac_.tmps[89]? = some (.bool true) := hM.eqv 20 rfl (hp 20 rfl) rfl rfl
                    refine ⟨f89, ?_⟩
                    have hF : Fr 102 ac_ (Env.nil.put 13 (.bool true)) := (hM.fr.add f13)
                    exact OpVal.draw hF (opMove rfl) ⟨G, fun _ _ h => h, ⟨hC, hB, hg⟩, rfl⟩
                  refine dsOn (j := 23) rfl rfl ?_ ?_
                  · intro done G w ac_ hd hp hn ⟨hC, hB, hg⟩ hM
                    have f90 : ac_.tmps[90]? = some (.bool true) := hM.eqv 21 rfl (hp 21 rfl) rfl rfl
                    have f89 : ac_.tmps[89]? = some (.bool true) := hM.eqv 20 rfl (hp 20 rfl) rfl rfl
                    refine ⟨f89, ?_⟩
                    have hF : Fr 102 ac_ (Env.nil.put 90 (.bool true)) := (hM.fr.add f90)
                    exact OpVal.draw hF (opNot rfl) ⟨G, fun _ _ h => h, ⟨hC, hB, hg⟩, rfl⟩
                  refine dsOn (j := 24) rfl rfl ?_ ?_
                  · intro done G w ac_ hd hp hn ⟨hC, hB, hg⟩ hM
                    have f91 : ac_.tmps[91]? = some (.bool false) := hM.eqv 22 rfl (hp 22 rfl) rfl rfl
                    have f89 : ac_.tmps[89]? = some (.bool true) := hM.eqv 20 rfl (hp 20 rfl) rfl rfl
                    refine ⟨f89, ?_⟩
                    have hF : Fr 102 ac_ (Env.nil.put 91 (.bool false)) := (hM.fr.add f91)
                    exact OpVal.draw hF (opMove rfl) ⟨G, fun _ _ h => h, ⟨hC, hB, hg⟩, rfl⟩
                  refine dsOn (j := 25) rfl rfl ?_ ?_
                  · intro done G w ac_ hd hp hn ⟨hC, hB, hg⟩ hM
                    have f12 : ac_.tmps[12]? = some (.pointer (some ⟨b41, 0, none⟩)) := hM.old0 rfl rfl
                    have f92 : ac_.tmps[92]? = some (.bool false) := hM.eqv 23 rfl (hp 23 rfl) rfl rfl
                    refine ⟨f92, ?_⟩
                    have hF : Fr 102 ac_ (Env.nil.put 12 (.pointer (some ⟨b41, 0, none⟩))) := (hM.fr.add f12)
                    exact OpVal.draw hF (opFieldAddr rfl fo28_0) ⟨G, fun _ _ h => h, ⟨hC, hB, hg⟩, rfl⟩
                  refine dsOn (j := 26) rfl rfl ?_ ?_
                  · intro done G w ac_ hd hp hn ⟨hC, hB, hg⟩ hM
                    have f93 : ac_.tmps[93]? = some (.pointer (some ⟨b41, 0, none⟩)) := hM.eqv 24 rfl (hp 24 rfl) rfl rfl
                    have f92 : ac_.tmps[92]? = some (.bool false) := hM.eqv 23 rfl (hp 23 rfl) rfl rfl
                    refine ⟨f92, ?_⟩
                    have hF : Fr 102 ac_ (Env.nil.put 93 (.pointer (some ⟨b41, 0, none⟩))) := (hM.fr.add f93)
                    exact OpVal.draw hF (opLoadOne (v := (.int .i64 (((gR (lists (((voteM ms (IntKind.wrap .i64 (1 + ((bringI x12.node (IntKind.wrap .i64 (IntKind.wrap .i64 (3 * IntKind.wrap .i64 (1 + ((bringI faults 2)))) + 1)))))) (((markI (IntKind.wrap .i64 (1 + ((bringI x12.seq 6)))) ((0 : UInt8)))))).1))) (some_ (((voteM ms (IntKind.wrap .i64 (1 + ((bringI x12.node (IntKind.wrap .i64 (IntKind.wrap .i64 (3 * IntKind.wrap .i64 (1 + ((bringI faults 2)))) + 1)))))) (((markI (IntKind.wrap .i64 (1 + ((bringI x12.seq 6)))) ((0 : UInt8)))))).1)).crew)).1).seq))) rfl (hB.cell (i := 0) rfl (by simp [Mark.cells, Do.cells, Word.cells])) one3) ⟨G, fun _ _ h => h, ⟨hC, hB, hg⟩, rfl⟩
                  refine dsOn (j := 27) rfl rfl ?_ ?_
                  · intro done G w ac_ hd hp hn ⟨hC, hB, hg⟩ hM
                    have f10 : ac_.tmps[10]? = some (.pointer (some ⟨b40, 0, none⟩)) := hM.old0 rfl rfl
                    have f92 : ac_.tmps[92]? = some (.bool false) := hM.eqv 23 rfl (hp 23 rfl) rfl rfl
                    refine ⟨f92, ?_⟩
                    have hF : Fr 102 ac_ (Env.nil.put 10 (.pointer (some ⟨b40, 0, none⟩))) := (hM.fr.add f10)
                    exact OpVal.draw hF (opFieldAddr rfl fo28_0) ⟨G, fun _ _ h => h, ⟨hC, hB, hg⟩, rfl⟩
                  refine dsOn (j := 28) rfl rfl ?_ ?_
                  · intro done G w ac_ hd hp hn ⟨hC, hB, hg⟩ hM
                    have f95 : ac_.tmps[95]? = some (.pointer (some ⟨b40, 0, none⟩)) := hM.eqv 26 rfl (hp 26 rfl) rfl rfl
                    have f92 : ac_.tmps[92]? = some (.bool false) := hM.eqv 23 rfl (hp 23 rfl) rfl rfl
                    refine ⟨f92, ?_⟩
                    have hF : Fr 102 ac_ (Env.nil.put 95 (.pointer (some ⟨b40, 0, none⟩))) := (hM.fr.add f95)
                    exact OpVal.draw hF (opLoadOne (v := (.int .i64 (((gR (lists (((voteM ms (IntKind.wrap .i64 (1 + ((bringI x12.node (IntKind.wrap .i64 (IntKind.wrap .i64 (3 * IntKind.wrap .i64 (1 + ((bringI faults 2)))) + 1)))))) (((markI (IntKind.wrap .i64 (1 + ((bringI x12.seq 6)))) ((0 : UInt8)))))).1))) (most (((voteM ms (IntKind.wrap .i64 (1 + ((bringI x12.node (IntKind.wrap .i64 (IntKind.wrap .i64 (3 * IntKind.wrap .i64 (1 + ((bringI faults 2)))) + 1)))))) (((markI (IntKind.wrap .i64 (1 + ((bringI x12.seq 6)))) ((0 : UInt8)))))).1)).crew)).1).seq))) rfl (hB.cell (i := 1) rfl (by simp [Mark.cells, Do.cells, Word.cells])) one3) ⟨G, fun _ _ h => h, ⟨hC, hB, hg⟩, rfl⟩
                  exact dsNil
                · intro done G w ac_ hall htl ⟨hC, hB, hg⟩ hM
                  replace hl := hl.mono hg
                  replace hr17 := hr17.mono hg
                  replace h39 := h39.mono hg
                  have f1 : ac_.tmps[1]? = some (.slice (some ⟨b14, o15, none⟩) l.length cap2) := hM.old0 rfl rfl
                  have f5 : ac_.tmps[5]? = some (.int .i64 (IntKind.wrap .i64 (1 + ((bringI faults 2))))) := hM.old0 rfl rfl
                  have f6 : ac_.tmps[6]? = some (.pointer (some ⟨b8, 0, none⟩)) := hM.old0 rfl rfl
                  have f7 : ac_.tmps[7]? = some (.int .i64 (((k : Nat) : Int))) := hM.old0 rfl rfl
                  have f87 : ac_.tmps[87]? = some (.bool false) := hM.eqv 18 rfl (hall 18 rfl) rfl rfl
                  have f89 : ac_.tmps[89]? = some (.bool true) := hM.eqv 20 rfl (hall 20 rfl) rfl rfl
                  have f92 : ac_.tmps[92]? = some (.bool false) := hM.eqv 23 rfl (hall 23 rfl) rfl rfl
                  have f94 : ac_.tmps[94]? = some (.int .i64 (((gR (lists (((voteM ms (IntKind.wrap .i64 (1 + ((bringI x12.node (IntKind.wrap .i64 (IntKind.wrap .i64 (3 * IntKind.wrap .i64 (1 + ((bringI faults 2)))) + 1)))))) (((markI (IntKind.wrap .i64 (1 + ((bringI x12.seq 6)))) ((0 : UInt8)))))).1))) (some_ (((voteM ms (IntKind.wrap .i64 (1 + ((bringI x12.node (IntKind.wrap .i64 (IntKind.wrap .i64 (3 * IntKind.wrap .i64 (1 + ((bringI faults 2)))) + 1)))))) (((markI (IntKind.wrap .i64 (1 + ((bringI x12.seq 6)))) ((0 : UInt8)))))).1)).crew)).1).seq)) := hM.eqv 25 rfl (hall 25 rfl) rfl rfl
                  have f96 : ac_.tmps[96]? = some (.int .i64 (((gR (lists (((voteM ms (IntKind.wrap .i64 (1 + ((bringI x12.node (IntKind.wrap .i64 (IntKind.wrap .i64 (3 * IntKind.wrap .i64 (1 + ((bringI faults 2)))) + 1)))))) (((markI (IntKind.wrap .i64 (1 + ((bringI x12.seq 6)))) ((0 : UInt8)))))).1))) (most (((voteM ms (IntKind.wrap .i64 (1 + ((bringI x12.node (IntKind.wrap .i64 (IntKind.wrap .i64 (3 * IntKind.wrap .i64 (1 + ((bringI faults 2)))) + 1)))))) (((markI (IntKind.wrap .i64 (1 + ((bringI x12.seq 6)))) ((0 : UInt8)))))).1)).crew)).1).seq)) := hM.eqv 27 rfl (hall 27 rfl) rfl rfl
                  refine ⟨(((((((((Env.nil.put 1 (.slice (some ⟨b14, o15, none⟩) l.length cap2)).put 5 (.int .i64 (IntKind.wrap .i64 (1 + ((bringI faults 2)))))).put 6 (.pointer (some ⟨b8, 0, none⟩))).put 7 (.int .i64 (((k : Nat) : Int)))).put 87 (.bool false)).put 89 (.bool true)).put 92 (.bool false)).put 94 (.int .i64 (((gR (lists (((voteM ms (IntKind.wrap .i64 (1 + ((bringI x12.node (IntKind.wrap .i64 (IntKind.wrap .i64 (3 * IntKind.wrap .i64 (1 + ((bringI faults 2)))) + 1)))))) (((markI (IntKind.wrap .i64 (1 + ((bringI x12.seq 6)))) ((0 : UInt8)))))).1))) (some_ (((voteM ms (IntKind.wrap .i64 (1 + ((bringI x12.node (IntKind.wrap .i64 (IntKind.wrap .i64 (3 * IntKind.wrap .i64 (1 + ((bringI faults 2)))) + 1)))))) (((markI (IntKind.wrap .i64 (1 + ((bringI x12.seq 6)))) ((0 : UInt8)))))).1)).crew)).1).seq))).put 96 (.int .i64 (((gR (lists (((voteM ms (IntKind.wrap .i64 (1 + ((bringI x12.node (IntKind.wrap .i64 (IntKind.wrap .i64 (3 * IntKind.wrap .i64 (1 + ((bringI faults 2)))) + 1)))))) (((markI (IntKind.wrap .i64 (1 + ((bringI x12.seq 6)))) ((0 : UInt8)))))).1))) (most (((voteM ms (IntKind.wrap .i64 (1 + ((bringI x12.node (IntKind.wrap .i64 (IntKind.wrap .i64 (3 * IntKind.wrap .i64 (1 + ((bringI faults 2)))) + 1)))))) (((markI (IntKind.wrap .i64 (1 + ((bringI x12.seq 6)))) ((0 : UInt8)))))).1)).crew)).1).seq))), (((((((((hM.fr.add f1).add f5).add f6).add f7).add f87).add f89).add f92).add f94).add f96), ?_⟩
                  clear hM hall htl
                  refine wlOn rfl rfl ?_
                  refine wlVal (opLss rfl rfl) rfl ?_
                  refine wlOn rfl rfl ?_
                  refine wlVal (opPickF rfl rfl) rfl ?_
                  refine wlOn rfl rfl ?_
                  refine wlVal (opPickT rfl rfl) rfl ?_
                  refine wlVal (opPickF rfl rfl) rfl ?_
                  refine wlThen ?_
                  cases h48 : decide (((gR (lists (((voteM ms (IntKind.wrap .i64 (1 + ((bringI x12.node (IntKind.wrap .i64 (IntKind.wrap .i64 (3 * IntKind.wrap .i64 (1 + ((bringI faults 2)))) + 1)))))) (((markI (IntKind.wrap .i64 (1 + ((bringI x12.seq 6)))) ((0 : UInt8)))))).1))) (some_ (((voteM ms (IntKind.wrap .i64 (1 + ((bringI x12.node (IntKind.wrap .i64 (IntKind.wrap .i64 (3 * IntKind.wrap .i64 (1 + ((bringI faults 2)))) + 1)))))) (((markI (IntKind.wrap .i64 (1 + ((bringI x12.seq 6)))) ((0 : UInt8)))))).1)).crew)).1).seq < ((gR (lists (((voteM ms (IntKind.wrap .i64 (1 + ((bringI x12.node (IntKind.wrap .i64 (IntKind.wrap .i64 (3 * IntKind.wrap .i64 (1 + ((bringI faults 2)))) + 1)))))) (((markI (IntKind.wrap .i64 (1 + ((bringI x12.seq 6)))) ((0 : UInt8)))))).1))) (most (((voteM ms (IntKind.wrap .i64 (1 + ((bringI x12.node (IntKind.wrap .i64 (IntKind.wrap .i64 (3 * IntKind.wrap .i64 (1 + ((bringI faults 2)))) + 1)))))) (((markI (IntKind.wrap .i64 (1 + ((bringI x12.seq 6)))) ((0 : UInt8)))))).1)).crew)).1).seq)
                  · skip
                    refine wcCondF rfl ?_
                    refine wcSkip ?_
                    refine wcOf ?_
                    refine wcRegion ?_
                    refine wlVal (opMove rfl) rfl ?_
                    refine wlVal (opIncr rfl rfl (incr_ok (of_decide_eq_true h10) hl.le)) rfl ?_
                    refine wlVal (opAssign rfl) rfl ?_
                    refine wlRound ?_
                    exact (IH0 (k + 1, o37, q38, ((voteM ms (IntKind.wrap .i64 (1 + ((bringI x12.node (IntKind.wrap .i64 (IntKind.wrap .i64 (3 * IntKind.wrap .i64 (1 + ((bringI faults 2)))) + 1)))))) (((markI (IntKind.wrap .i64 (1 + ((bringI x12.seq 6)))) ((0 : UInt8)))))).1)) _ _ ⟨hC, hB.tail.tail, hl, h39, (tr_vote hJ (fun _ => rfl))⟩ (by have := of_decide_eq_true h10; show l.length - (k + 1) < l.length - k; omega)).sub (fun _ ha => ((((ha.start.cons ha (t := 1) rfl).cons ha (t := 5) rfl).cons ha (t := 6) rfl).cons ha (t := 7) rfl))
                  · skip
                    exact absurd (of_decide_eq_true h48) ((tr_law h12 (tr_vote hJ (fun _ => rfl))).2.2 h42).2

end Go.Proofs.Ytbmanooiphghmaa
