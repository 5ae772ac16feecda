/- What functions of the marks seat return, part 16. No condition. -/
import Derived.Test.YtbmanooiphghmaaMkG15
import Derived.Test.YtbmanooiphghmaaMkOrd
set_option linter.all false
namespace Go.Proofs.Ytbmanooiphghmaa
open Go Go.Gx Go.RowKit
theorem so48 : structOk Try.prog 48 [(0, 1), (1, 1), (2, 1)] = true := by kernel_rfl
theorem zero48 : (Try.prog.info? 48).bind (fun i => i.zero.map Value.cells) = some ([(.int .i64 0), (.int .i64 0), (.int .u8 0)] : List Value).toArray := by kernel_rfl
theorem sz48 : (Try.prog.info? 48).map (·.size) = some 3 := by kernel_rfl
theorem row48 : rowOk Try.prog 48 3 = true := by kernel_rfl
theorem elo45 : elemOk Try.prog 45 48 3 24 = true := by kernel_rfl
theorem order_ret (G0 : Gh) (w0 : World) (hw : Holds G0 w0) (vl : Value) (l : List Word) (hl : Sl G0 vl l) :
    RetS Try.prog 5 #[vl] G0 w0 (.bool true) := by
  have hC := Cx.refl hw
  have hB : Bxs G0 w0 w0.heap.size [] := Bxs.nil _ _ _
  obtain ⟨A1, cap2, rfl⟩ := hl.form
  refine callsOf Try.func5 rfl _ Try.ntmps5 rfl _ (argsCons argsNil (t := 0) rfl) ?_; intro Q0 hQ
  refine wcSeq ?_
  refine wcRegion ?_
  refine wlVal (opAssign rfl) rfl ?_
  refine wlThen ?_
  refine wcSeq ?_
  refine wcRegion ?_
  refine wlCallN (m := []) (B := []) hC hB rfl co18 rfl rfl (fresh1_ret _ _ hC.holds ) ?_; rintro v3 G O4 w hg hC hB ⟨b8, l9, o5, q6, rfl, h7, rfl⟩
  replace hl := hl.mono hg
  replace hC : Cx w0 G0 G w ⟨[], [(b8, o5), (l9, q6)]⟩ := hC
  replace hB : Bxs G w w0.heap.size [] ⟨[], [(b8, o5), (l9, q6)]⟩ := hB
  refine wlCallN (m := []) (B := [(b8, o5), (l9, q6)]) hC hB rfl co18 rfl rfl (fresh1_ret _ _ hC.holds ) ?_; rintro v10 G O11 w hg hC hB ⟨b15, l16, o12, q13, rfl, h14, rfl⟩
  replace hl := hl.mono hg; replace h7 := h7.mono hg
  replace hC : Cx w0 G0 G w ⟨[], [(b15, o12), (l16, q13), (b8, o5), (l9, q6)]⟩ := hC
  replace hB : Bxs G w w0.heap.size [] ⟨[], [(b15, o12), (l16, q13), (b8, o5), (l9, q6)]⟩ := hB
  refine wlVal (opAssign rfl) rfl ?_
  refine wlVal (opAssign rfl) rfl ?_
  refine wlThen ?_
  refine wcSeq ?_
  refine wcRegion ?_
  refine wlVal (opAssign rfl) rfl ?_
  refine wlThen ?_
  refine wcSeq ?_
  refine wcSeq ?_
  refine wcRegion ?_
  refine wlVal (opAssign rfl) rfl ?_
  refine wlThen ?_
  refine wcBlock ?_
  refine WC.sub (wrInd (ι := Nat × (Option Addr) × Nat × (Option Bx) × (List Word) × Obj × Obj × MSt) (fun i => match i with | (k, fitA, fitC, fitO, fit, oa, qa, ma) => l.length - k) (fun i G w => match i with | (k, fitA, fitC, fitO, fit, oa, qa, ma) => Cx w0 G0 G w ⟨[], [(b15, o12), (l16, q13), (b8, oa), (l9, qa)]⟩ ∧ Bxs G w w0.heap.size ([] ++ (Option.toList fitO ++ [])) ⟨[], [(b15, o12), (l16, q13), (b8, oa), (l9, qa)]⟩ ∧ Sl G (.slice A1 l.length cap2) l ∧ MarksO G o12 q13 l16 ((MSt.mk (crewI 1) (Mark.mk 0 Dig.zero) [])) ∧ Ow G fitO 48 (.slice fitA fit.length fitC) fit ∧ MarksO G oa qa l9 ma ∧ k ≤ 60 ∧ fit.length ≤ k ∧ OrdJ ma fit) (fun i => match i with | (k, fitA, fitC, fitO, fit, oa, qa, ma) => (((((Env.nil.put 0 (.slice A1 l.length cap2)).put 3 (.pointer (some ⟨b8, 0, none⟩))).put 4 (.pointer (some ⟨b15, 0, none⟩))).put 5 (.slice fitA fit.length fitC)).put 6 (.int .i64 (((k : Nat) : Int))))) ?_ (0, none, 0, none, [], o5, q6, ((MSt.mk (crewI 1) (Mark.mk 0 Dig.zero) []))) _ _ ⟨hC, hB, hl, h14, (Ow.nil_ _ 48), h7, (Nat.zero_le _), (Nat.le_refl 0), ord_new⟩) (fun _ ha => (((((ha.start.cons ha (t := 0) rfl).cons ha (t := 3) rfl).cons ha (t := 4) rfl).cons ha (t := 5) rfl).cons ha (t := 6) rfl))
  rintro ⟨k, fitA, fitC, fitO, fit, oa, qa, ma⟩ G w N0 IH0 ⟨hC, hB, hl, h14, hOfit, hJma, hk60, hfl, hJ⟩
  show WC _ _ _ _ (((((Env.nil.put 0 (.slice A1 l.length cap2)).put 3 (.pointer (some ⟨b8, 0, none⟩))).put 4 (.pointer (some ⟨b15, 0, none⟩))).put 5 (.slice fitA fit.length fitC)).put 6 (.int .i64 (((k : Nat) : Int)))) w
  refine wcSeq ?_
  refine wcSeq ?_
  refine wcRegion ?_
  refine wlVal (opMove rfl) rfl ?_
  refine wlVal (opMove rfl) rfl ?_
  refine wlVal (opLen rfl isl45) rfl ?_
  refine wlVal (opLssN rfl rfl) rfl ?_
  refine wlVal (opMove rfl) rfl ?_
  cases h17 : decide (k < l.length)
  · skip
    refine wlOff rfl rfl rfl rfl ?_
    refine wlOff rfl rfl rfl rfl ?_
    refine wlVal (opPickF rfl rfl) rfl ?_
    refine wlThen ?_
    refine wcCondF rfl ?_
    refine wcExit ?_
    refine wcOf ?_
    refine wcSeq ?_
    refine wcSeq ?_
    refine wcRegion ?_
    refine wlVal (opMove rfl) rfl ?_
    refine wlVal (opLen rfl isl45) rfl ?_
    refine wlVal (opSub rfl rfl) rfl ?_
    refine wlVal (opAssign rfl) rfl ?_
    refine wlThen ?_
    refine wcBlock ?_
    have hf60 : fit.length ≤ 60 := by omega
    obtain ⟨G, hg19, hC, hB, hs18⟩ := Ow.freeze' (bl := []) (r := []) hOfit hC (Nat.le_refl _) hB (by unfold maxL; omega)
    replace hl := hl.mono hg19; replace h14 := h14.mono hg19; replace hJma := hJma.mono hg19
    replace hB : Bxs G w w0.heap.size [] ⟨[], [(b15, o12), (l16, q13), (b8, oa), (l9, qa)]⟩ := hB
    refine WC.sub (wrInd (ι := Int × Nat × Obj × Obj × MSt) (fun i => match i with | (j, q, ob, qb, mb) => q) (fun i G w => match i with | (j, q, ob, qb, mb) => Cx w0 G0 G w ⟨[], [(b15, ob), (l16, qb), (b8, oa), (l9, qa)]⟩ ∧ Bxs G w w0.heap.size [] ⟨[], [(b15, ob), (l16, qb), (b8, oa), (l9, qa)]⟩ ∧ Sl G (.slice A1 l.length cap2) l ∧ MarksO G oa qa l9 ma ∧ Sl G (.slice fitA fit.length fitC) fit ∧ MarksO G ob qb l16 mb ∧ q ≤ fit.length ∧ j = ((q : Nat) : Int) - 1 ∧ OrdJ mb (fit.drop q)) (fun i => match i with | (j, q, ob, qb, mb) => ((((Env.nil.put 3 (.pointer (some ⟨b8, 0, none⟩))).put 4 (.pointer (some ⟨b15, 0, none⟩))).put 5 (.slice fitA fit.length fitC)).put 8 (.int .i64 j))) ?_ (IntKind.wrap .i64 (((fit.length : Nat) : Int) - 1), fit.length, o12, q13, ((MSt.mk (crewI 1) (Mark.mk 0 Dig.zero) []))) _ _ ⟨hC, hB, hl, hJma, hs18, h14, (Nat.le_refl _), (ord_last (by omega)), (by rw [List.drop_length]; exact ord_new)⟩) (fun _ ha => ((((ha.start.cons ha (t := 3) rfl).cons ha (t := 4) rfl).cons ha (t := 5) rfl).cons ha (t := 8) rfl))
    rintro ⟨j, q, ob, qb, mb⟩ G w N1 IH1 ⟨hC, hB, hl, hJma, hs18, hJmb, hq, hj, hJb⟩
    show WC _ _ _ _ ((((Env.nil.put 3 (.pointer (some ⟨b8, 0, none⟩))).put 4 (.pointer (some ⟨b15, 0, none⟩))).put 5 (.slice fitA fit.length fitC)).put 8 (.int .i64 j)) w
    refine wcSeq ?_
    refine wcSeq ?_
    refine wcRegion ?_
    refine wlVal (opMove rfl) rfl ?_
    refine wlVal (opGeq rfl rfl) rfl ?_
    refine wlThen ?_
    cases h20 : decide (0 ≤ j)
    · skip
      refine wcCondF rfl ?_
      refine wcExit ?_
      refine wcOf ?_
      refine wcSeq ?_
      refine wcRegion ?_
      refine wlVal (opMove rfl) rfl ?_
      refine wlCallS hC hB rfl co20 rfl rfl (RetS.lend hC (fun G_ hg_ hh_ hL_ => stable_ret _ _ hh_ b8 l9 _ _ ma (hL_ (b8, oa) (by simp)) (hL_ (l9, qa) (by simp)) (show MarksO G_ oa qa l9 ma from (hJma.mono hg_)))) ?_; intro w hk hC hB
      refine wlVal (opMove rfl) rfl ?_
      refine wlVal (opExtract rfl rfl) rfl ?_
      refine wlVal (opExtract rfl rfl) rfl ?_
      refine wlAlloc hC hB zero28 rfl ?_; intro b21 w hk hC hB
      refine wlStore 0 (vs := (((gR (lists ma) (most ma.crew)).1)).cells) (cs := ((.int .i64 0) :: (Dig.zero.cells ++ []))) (cs' := (((gR (lists ma) (most ma.crew)).1)).cells) hC hB rfl rfl rfl sz28 rfl (by simp [Mark.cells, Do.cells, Word.cells]) (by simp [Mark.cells, Do.cells, Word.cells, Value.oneCell']) (by simp [Mark.cells, Do.cells, Word.cells]) (by simp [Mark.cells, Do.cells, Word.cells]) rfl ?_; intro w hC hB
      refine wlVal (opAssign rfl) rfl ?_
      refine wlThen ?_
      refine wcSeq ?_
      refine wcRegion ?_
      refine wlVal (opMove rfl) rfl ?_
      refine wlCallS hC hB rfl co20 rfl rfl (RetS.lend hC (fun G_ hg_ hh_ hL_ => stable_ret _ _ hh_ b15 l16 _ _ mb (hL_ (b15, ob) (by simp)) (hL_ (l16, qb) (by simp)) (show MarksO G_ ob qb l16 mb from (hJmb.mono hg_)))) ?_; intro w hk hC hB
      refine wlVal (opMove rfl) rfl ?_
      refine wlVal (opExtract rfl rfl) rfl ?_
      refine wlVal (opExtract rfl rfl) rfl ?_
      refine wlAlloc hC hB zero28 rfl ?_; intro b22 w hk hC hB
      refine wlStore 0 (vs := (((gR (lists mb) (most mb.crew)).1)).cells) (cs := ((.int .i64 0) :: (Dig.zero.cells ++ []))) (cs' := (((gR (lists mb) (most mb.crew)).1)).cells) hC hB rfl rfl rfl sz28 rfl (by simp [Mark.cells, Do.cells, Word.cells]) (by simp [Mark.cells, Do.cells, Word.cells, Value.oneCell']) (by simp [Mark.cells, Do.cells, Word.cells]) (by simp [Mark.cells, Do.cells, Word.cells]) rfl ?_; intro w hC hB
      refine wlVal (opAssign rfl) rfl ?_
      refine wlThen ?_
      refine wcSeq ?_
      refine wcRegion ?_
      refine wlVal (opMove rfl) rfl ?_
      refine wlCallS hC hB rfl co21 rfl rfl (RetS.lend hC (fun G_ hg_ hh_ hL_ => known_ret _ _ hh_ b8 l9 _ _ ma (hL_ (b8, oa) (by simp)) (hL_ (l9, qa) (by simp)) (show MarksO G_ oa qa l9 ma from (hJma.mono hg_)))) ?_; intro w hk hC hB
      refine wlVal (opMove rfl) rfl ?_
      refine wlVal (opExtract rfl rfl) rfl ?_
      refine wlVal (opExtract rfl rfl) rfl ?_
      refine wlAlloc hC hB zero28 rfl ?_; intro b23 w hk hC hB
      refine wlStore 0 (vs := (((gR (lists ma) (some_ ma.crew)).1)).cells) (cs := ((.int .i64 0) :: (Dig.zero.cells ++ []))) (cs' := (((gR (lists ma) (some_ ma.crew)).1)).cells) hC hB rfl rfl rfl sz28 rfl (by simp [Mark.cells, Do.cells, Word.cells]) (by simp [Mark.cells, Do.cells, Word.cells, Value.oneCell']) (by simp [Mark.cells, Do.cells, Word.cells]) (by simp [Mark.cells, Do.cells, Word.cells]) rfl ?_; intro w hC hB
      refine wlVal (opAssign rfl) rfl ?_
      refine wlThen ?_
      refine wcSeq ?_
      refine wcRegion ?_
      refine wlVal (opMove rfl) rfl ?_
      refine wlCallS hC hB rfl co21 rfl rfl (RetS.lend hC (fun G_ hg_ hh_ hL_ => known_ret _ _ hh_ b15 l16 _ _ mb (hL_ (b15, ob) (by simp)) (hL_ (l16, qb) (by simp)) (show MarksO G_ ob qb l16 mb from (hJmb.mono hg_)))) ?_; intro w hk hC hB
      refine wlVal (opMove rfl) rfl ?_
      refine wlVal (opExtract rfl rfl) rfl ?_
      refine wlVal (opExtract rfl rfl) rfl ?_
      refine wlAlloc hC hB zero28 rfl ?_; intro b24 w hk hC hB
      refine wlStore 0 (vs := (((gR (lists mb) (some_ mb.crew)).1)).cells) (cs := ((.int .i64 0) :: (Dig.zero.cells ++ []))) (cs' := (((gR (lists mb) (some_ mb.crew)).1)).cells) hC hB rfl rfl rfl sz28 rfl (by simp [Mark.cells, Do.cells, Word.cells]) (by simp [Mark.cells, Do.cells, Word.cells, Value.oneCell']) (by simp [Mark.cells, Do.cells, Word.cells]) (by simp [Mark.cells, Do.cells, Word.cells]) rfl ?_; intro w hC hB
      refine wlVal (opAssign rfl) rfl ?_
      refine wlThen ?_
      refine wcSeq ?_
      refine wcRegion ?_
      refine wlVal (opLoadRow (cs := (((gR (lists ma) (most ma.crew)).1)).cells) rfl (hB.range (i := 3) (m := 33) rfl (by simp [Mark.cells, Do.cells, Word.cells])) row28 (by simp [Mark.cells, Do.cells, Word.cells])) rfl ?_
      refine wlVal (opLoadRow (cs := (((gR (lists mb) (most mb.crew)).1)).cells) rfl (hB.range (i := 2) (m := 33) rfl (by simp [Mark.cells, Do.cells, Word.cells])) row28 (by simp [Mark.cells, Do.cells, Word.cells])) rfl ?_
      refine wlVal (opEqRow (eq28 _ (((gR (lists ma) (most ma.crew)).1)) (((gR (lists mb) (most mb.crew)).1))) eg28 rfl rfl) rfl ?_
      refine wlVal (opMove rfl) rfl ?_
      cases h25 : decide (((gR (lists ma) (most ma.crew)).1) = ((gR (lists mb) (most mb.crew)).1))
      · skip
        exact absurd h25 (by have hq0 : q = 0 := (by have z := of_decide_eq_false h20; omega); rw [hq0] at hJb; simp [hJ.crew, hJb.crew, ord_eq hJ hJb])
      · skip
        refine wlOn rfl rfl ?_
        refine wlVal (opMove rfl) rfl ?_
        refine wlOn rfl rfl ?_
        refine wlVal (opMove rfl) rfl ?_
        refine wlOn rfl rfl ?_
        refine wlVal (opEqBool ub4 rfl rfl) rfl ?_
        refine wlVal (opPickT rfl rfl) rfl ?_
        refine wlVal (opMove rfl) rfl ?_
        cases h26 : (((gR (lists ma) (most ma.crew)).2)) == (((gR (lists mb) (most mb.crew)).2))
        · skip
          exact absurd h26 (by have hq0 : q = 0 := (by have z := of_decide_eq_false h20; omega); rw [hq0] at hJb; simp [hJ.crew, hJb.crew, ord_eq hJ hJb])
        · skip
          refine wlOn rfl rfl ?_
          refine wlVal (opLoadRow (cs := (((gR (lists ma) (some_ ma.crew)).1)).cells) rfl (hB.range (i := 1) (m := 33) rfl (by simp [Mark.cells, Do.cells, Word.cells])) row28 (by simp [Mark.cells, Do.cells, Word.cells])) rfl ?_
          refine wlOn rfl rfl ?_
          refine wlVal (opLoadRow (cs := (((gR (lists mb) (some_ mb.crew)).1)).cells) rfl (hB.range (i := 0) (m := 33) rfl (by simp [Mark.cells, Do.cells, Word.cells])) row28 (by simp [Mark.cells, Do.cells, Word.cells])) rfl ?_
          refine wlOn rfl rfl ?_
          refine wlVal (opEqRow (eq28 _ (((gR (lists ma) (some_ ma.crew)).1)) (((gR (lists mb) (some_ mb.crew)).1))) eg28 rfl rfl) rfl ?_
          refine wlVal (opPickT rfl rfl) rfl ?_
          refine wlVal (opMove rfl) rfl ?_
          cases h27 : decide (((gR (lists ma) (some_ ma.crew)).1) = ((gR (lists mb) (some_ mb.crew)).1))
          · skip
            exact absurd h27 (by have hq0 : q = 0 := (by have z := of_decide_eq_false h20; omega); rw [hq0] at hJb; simp [hJ.crew, hJb.crew, ord_eq hJ hJb])
          · skip
            refine wlOn rfl rfl ?_
            refine wlVal (opMove rfl) rfl ?_
            refine wlOn rfl rfl ?_
            refine wlVal (opMove rfl) rfl ?_
            refine wlOn rfl rfl ?_
            refine wlVal (opEqBool ub4 rfl rfl) rfl ?_
            refine wlVal (opPickT rfl rfl) rfl ?_
            refine wlVal (opMove rfl) rfl ?_
            cases h28 : (((gR (lists ma) (some_ ma.crew)).2)) == (((gR (lists mb) (some_ mb.crew)).2))
            · skip
              exact absurd h28 (by have hq0 : q = 0 := (by have z := of_decide_eq_false h20; omega); rw [hq0] at hJb; simp [hJ.crew, hJb.crew, ord_eq hJ hJb])
            · skip
              refine wlOn rfl rfl ?_
              refine wlCallS hC hB rfl co17 rfl rfl (awake_ret _ _ hC.holds ) ?_; intro w hk hC hB
              refine wlVal (opPickT rfl rfl) rfl ?_
              refine wlVal (opAssign rfl) rfl ?_
              refine wlThen ?_
              refine wcRet ?_
              exact fun ac_ ha => hQ _ _ _ (results1 ha rfl rfl) ha.df (endS hC hw rfl)
    · skip
      obtain ⟨q0, rfl⟩ : ∃ q0, q = q0 + 1 := ⟨q - 1, by have z := of_decide_eq_true h20; omega⟩
      obtain rfl : j = ((q0 : Nat) : Int) := by omega
      refine wcCondT rfl ?_
      refine wcSkip ?_
      refine wcOf ?_
      refine wcSeq ?_
      refine wcBlock ?_
      refine wcSeq ?_
      obtain ⟨x29, hx30⟩ : ∃ y_, fit[q0]? = some y_ := ⟨_, List.getElem?_eq_getElem (by omega)⟩
      obtain ⟨b31, o32, row33, hA36, hr34, hi35⟩ := hs18.elem hx30; subst hA36
      obtain rfl := hi35
      refine wcDrawT 17 fmix (by kernel_rfl) (by kernel_rfl) (by kernel_rfl) (by kernel_rfl) (vAt [(fun _ v_ => v_ = (.pointer (some ⟨b15, 0, none⟩))), (fun _ v_ => v_ = (.slice (some ⟨b31, o32, none⟩) fit.length fitC)), (fun _ v_ => v_ = (.int .i64 (((q0 : Nat) : Int)))), (fun _ v_ => v_ = (.pointer (some ⟨b31, o32 + q0 * 3, none⟩))), (fun _ v_ => v_ = (.pointer (some ⟨b31, o32 + q0 * 3, none⟩))), (fun _ v_ => v_ = (.int .i64 x29.node)), (fun _ v_ => v_ = (.slice (some ⟨b31, o32, none⟩) fit.length fitC)), (fun _ v_ => v_ = (.int .i64 (((q0 : Nat) : Int)))), (fun _ v_ => v_ = (.pointer (some ⟨b31, o32 + q0 * 3, none⟩))), (fun _ v_ => v_ = (.pointer (some ⟨b31, o32 + q0 * 3 + 1, none⟩))), (fun _ v_ => v_ = (.int .i64 x29.seq)), (fun _ v_ => v_ = (.slice (some ⟨b31, o32, none⟩) fit.length fitC)), (fun _ v_ => v_ = (.int .i64 (((q0 : Nat) : Int)))), (fun _ v_ => v_ = (.pointer (some ⟨b31, o32 + q0 * 3, none⟩))), (fun _ v_ => v_ = (.pointer (some ⟨b31, o32 + q0 * 3 + 2, none⟩))), (fun _ v_ => v_ = (.int .u8 (((x29.b).toNat : Int)))), (fun _ v_ => v_ = (.agg (((markI x29.seq x29.b))).cells.toArray))]) (fun _ _ G' w => Cx w0 G0 G' w ⟨[], [(b15, ob), (l16, qb), (b8, oa), (l9, qa)]⟩ ∧ Bxs G' w w0.heap.size [] ⟨[], [(b15, ob), (l16, qb), (b8, oa), (l9, qa)]⟩ ∧ GLe G G') G (vAt_mono ⟨fun _ _ _ _ h => h, fun _ _ _ _ h => h, fun _ _ _ _ h => h, fun _ _ _ _ h => h, fun _ _ _ _ h => h, fun _ _ _ _ h => h, fun _ _ _ _ h => h, fun _ _ _ _ h => h, fun _ _ _ _ h => h, fun _ _ _ _ h => h, fun _ _ _ _ h => h, fun _ _ _ _ h => h, fun _ _ _ _ h => h, fun _ _ _ _ h => h, fun _ _ _ _ h => h, fun _ _ _ _ h => h, fun _ _ _ _ h => h, trivial⟩) (fun _ _ => ⟨hC.drew, hB.drew, fun _ _ h => h⟩) ?_ ?_
      · refine dsNone (j := 1) rfl ?_ ?_
        · intro done G w ac_ hd hp hn ⟨hC, hB, hg⟩ hM
          have f4 : ac_.tmps[4]? = some (.pointer (some ⟨b15, 0, none⟩)) := hM.old0 rfl rfl
          have hF : Fr 131 ac_ (Env.nil.put 4 (.pointer (some ⟨b15, 0, none⟩))) := (hM.fr.add f4)
          exact OpVal.draw hF (opMove rfl) ⟨G, fun _ _ h => h, ⟨hC, hB, hg⟩, rfl⟩
        refine dsNone (j := 2) rfl ?_ ?_
        · intro done G w ac_ hd hp hn ⟨hC, hB, hg⟩ hM
          have f5 : ac_.tmps[5]? = some (.slice (some ⟨b31, o32, none⟩) fit.length fitC) := hM.old0 rfl rfl
          have hF : Fr 131 ac_ (Env.nil.put 5 (.slice (some ⟨b31, o32, none⟩) fit.length fitC)) := (hM.fr.add f5)
          exact OpVal.draw hF (opMove rfl) ⟨G, fun _ _ h => h, ⟨hC, hB, hg⟩, rfl⟩
        refine dsNone (j := 3) rfl ?_ ?_
        · intro done G w ac_ hd hp hn ⟨hC, hB, hg⟩ hM
          have f8 : ac_.tmps[8]? = some (.int .i64 (((q0 : Nat) : Int))) := hM.old0 rfl rfl
          have hF : Fr 131 ac_ (Env.nil.put 8 (.int .i64 (((q0 : Nat) : Int)))) := (hM.fr.add f8)
          exact OpVal.draw hF (opMove rfl) ⟨G, fun _ _ h => h, ⟨hC, hB, hg⟩, rfl⟩
        refine dsNone (j := 4) rfl ?_ ?_
        · intro done G w ac_ hd hp hn ⟨hC, hB, hg⟩ hM
          have f72 : ac_.tmps[72]? = some (.slice (some ⟨b31, o32, none⟩) fit.length fitC) := hM.eqv 1 rfl (hp 1 rfl) rfl rfl
          have f73 : ac_.tmps[73]? = some (.int .i64 (((q0 : Nat) : Int))) := hM.eqv 2 rfl (hp 2 rfl) rfl rfl
          have hF : Fr 131 ac_ ((Env.nil.put 72 (.slice (some ⟨b31, o32, none⟩) fit.length fitC)).put 73 (.int .i64 (((q0 : Nat) : Int)))) := ((hM.fr.add f72).add f73)
          exact OpVal.draw hF (opIndexAddr rfl rfl slo45 (by omega)) ⟨G, fun _ _ h => h, ⟨hC, hB, hg⟩, rfl⟩
        refine dsNone (j := 5) rfl ?_ ?_
        · intro done G w ac_ hd hp hn ⟨hC, hB, hg⟩ hM
          have f74 : ac_.tmps[74]? = some (.pointer (some ⟨b31, o32 + q0 * 3, none⟩)) := hM.eqv 3 rfl (hp 3 rfl) rfl rfl
          have hF : Fr 131 ac_ (Env.nil.put 74 (.pointer (some ⟨b31, o32 + q0 * 3, none⟩))) := (hM.fr.add f74)
          exact OpVal.draw hF (opFieldAddr rfl fo48_0) ⟨G, fun _ _ h => h, ⟨hC, hB, hg⟩, rfl⟩
        refine dsNone (j := 6) rfl ?_ ?_
        · intro done G w ac_ hd hp hn ⟨hC, hB, hg⟩ hM
          replace hr34 := hr34.mono hg
          have f75 : ac_.tmps[75]? = some (.pointer (some ⟨b31, o32 + q0 * 3, none⟩)) := hM.eqv 4 rfl (hp 4 rfl) rfl rfl
          have hF : Fr 131 ac_ (Env.nil.put 75 (.pointer (some ⟨b31, o32 + q0 * 3, none⟩))) := (hM.fr.add f75)
          exact OpVal.draw hF (opLoadOne (v := (.int .i64 x29.node)) rfl (RowG.cell0 hC.holds hr34 rfl) one3) ⟨G, fun _ _ h => h, ⟨hC, hB, hg⟩, rfl⟩
        refine dsNone (j := 7) rfl ?_ ?_
        · intro done G w ac_ hd hp hn ⟨hC, hB, hg⟩ hM
          have f5 : ac_.tmps[5]? = some (.slice (some ⟨b31, o32, none⟩) fit.length fitC) := hM.old0 rfl rfl
          have hF : Fr 131 ac_ (Env.nil.put 5 (.slice (some ⟨b31, o32, none⟩) fit.length fitC)) := (hM.fr.add f5)
          exact OpVal.draw hF (opMove rfl) ⟨G, fun _ _ h => h, ⟨hC, hB, hg⟩, rfl⟩
        refine dsNone (j := 8) rfl ?_ ?_
        · intro done G w ac_ hd hp hn ⟨hC, hB, hg⟩ hM
          have f8 : ac_.tmps[8]? = some (.int .i64 (((q0 : Nat) : Int))) := hM.old0 rfl rfl
          have hF : Fr 131 ac_ (Env.nil.put 8 (.int .i64 (((q0 : Nat) : Int)))) := (hM.fr.add f8)
          exact OpVal.draw hF (opMove rfl) ⟨G, fun _ _ h => h, ⟨hC, hB, hg⟩, rfl⟩
        refine dsNone (j := 9) rfl ?_ ?_
        · intro done G w ac_ hd hp hn ⟨hC, hB, hg⟩ hM
          have f77 : ac_.tmps[77]? = some (.slice (some ⟨b31, o32, none⟩) fit.length fitC) := hM.eqv 6 rfl (hp 6 rfl) rfl rfl
          have f78 : ac_.tmps[78]? = some (.int .i64 (((q0 : Nat) : Int))) := hM.eqv 7 rfl (hp 7 rfl) rfl rfl
          have hF : Fr 131 ac_ ((Env.nil.put 77 (.slice (some ⟨b31, o32, none⟩) fit.length fitC)).put 78 (.int .i64 (((q0 : Nat) : Int)))) := ((hM.fr.add f77).add f78)
          exact OpVal.draw hF (opIndexAddr rfl rfl slo45 (by omega)) ⟨G, fun _ _ h => h, ⟨hC, hB, hg⟩, rfl⟩
        refine dsNone (j := 10) rfl ?_ ?_
        · intro done G w ac_ hd hp hn ⟨hC, hB, hg⟩ hM
          have f79 : ac_.tmps[79]? = some (.pointer (some ⟨b31, o32 + q0 * 3, none⟩)) := hM.eqv 8 rfl (hp 8 rfl) rfl rfl
          have hF : Fr 131 ac_ (Env.nil.put 79 (.pointer (some ⟨b31, o32 + q0 * 3, none⟩))) := (hM.fr.add f79)
          exact OpVal.draw hF (opFieldAddr rfl fo48_1) ⟨G, fun _ _ h => h, ⟨hC, hB, hg⟩, rfl⟩
        refine dsNone (j := 11) rfl ?_ ?_
        · intro done G w ac_ hd hp hn ⟨hC, hB, hg⟩ hM
          replace hr34 := hr34.mono hg
          have f80 : ac_.tmps[80]? = some (.pointer (some ⟨b31, o32 + q0 * 3 + 1, none⟩)) := hM.eqv 9 rfl (hp 9 rfl) rfl rfl
          have hF : Fr 131 ac_ (Env.nil.put 80 (.pointer (some ⟨b31, o32 + q0 * 3 + 1, none⟩))) := (hM.fr.add f80)
          exact OpVal.draw hF (opLoadOne (v := (.int .i64 x29.seq)) rfl (RowG.cell hC.holds hr34 (j := 1) rfl) one3) ⟨G, fun _ _ h => h, ⟨hC, hB, hg⟩, rfl⟩
        refine dsNone (j := 12) rfl ?_ ?_
        · intro done G w ac_ hd hp hn ⟨hC, hB, hg⟩ hM
          have f5 : ac_.tmps[5]? = some (.slice (some ⟨b31, o32, none⟩) fit.length fitC) := hM.old0 rfl rfl
          have hF : Fr 131 ac_ (Env.nil.put 5 (.slice (some ⟨b31, o32, none⟩) fit.length fitC)) := (hM.fr.add f5)
          exact OpVal.draw hF (opMove rfl) ⟨G, fun _ _ h => h, ⟨hC, hB, hg⟩, rfl⟩
        refine dsNone (j := 13) rfl ?_ ?_
        · intro done G w ac_ hd hp hn ⟨hC, hB, hg⟩ hM
          have f8 : ac_.tmps[8]? = some (.int .i64 (((q0 : Nat) : Int))) := hM.old0 rfl rfl
          have hF : Fr 131 ac_ (Env.nil.put 8 (.int .i64 (((q0 : Nat) : Int)))) := (hM.fr.add f8)
          exact OpVal.draw hF (opMove rfl) ⟨G, fun _ _ h => h, ⟨hC, hB, hg⟩, rfl⟩
        refine dsNone (j := 14) rfl ?_ ?_
        · intro done G w ac_ hd hp hn ⟨hC, hB, hg⟩ hM
          have f82 : ac_.tmps[82]? = some (.slice (some ⟨b31, o32, none⟩) fit.length fitC) := hM.eqv 11 rfl (hp 11 rfl) rfl rfl
          have f83 : ac_.tmps[83]? = some (.int .i64 (((q0 : Nat) : Int))) := hM.eqv 12 rfl (hp 12 rfl) rfl rfl
          have hF : Fr 131 ac_ ((Env.nil.put 82 (.slice (some ⟨b31, o32, none⟩) fit.length fitC)).put 83 (.int .i64 (((q0 : Nat) : Int)))) := ((hM.fr.add f82).add f83)
          exact OpVal.draw hF (opIndexAddr rfl rfl slo45 (by omega)) ⟨G, fun _ _ h => h, ⟨hC, hB, hg⟩, rfl⟩
        refine dsNone (j := 15) rfl ?_ ?_
        · intro done G w ac_ hd hp hn ⟨hC, hB, hg⟩ hM
          have f84 : ac_.tmps[84]? = some (.pointer (some ⟨b31, o32 + q0 * 3, none⟩)) := hM.eqv 13 rfl (hp 13 rfl) rfl rfl
          have hF : Fr 131 ac_ (Env.nil.put 84 (.pointer (some ⟨b31, o32 + q0 * 3, none⟩))) := (hM.fr.add f84)
          exact OpVal.draw hF (opFieldAddr rfl fo48_2) ⟨G, fun _ _ h => h, ⟨hC, hB, hg⟩, rfl⟩
        refine dsNone (j := 16) rfl ?_ ?_
        · intro done G w ac_ hd hp hn ⟨hC, hB, hg⟩ hM
          replace hr34 := hr34.mono hg
          have f85 : ac_.tmps[85]? = some (.pointer (some ⟨b31, o32 + q0 * 3 + 2, none⟩)) := hM.eqv 14 rfl (hp 14 rfl) rfl rfl
          have hF : Fr 131 ac_ (Env.nil.put 85 (.pointer (some ⟨b31, o32 + q0 * 3 + 2, none⟩))) := (hM.fr.add f85)
          exact OpVal.draw hF (opLoadOne (v := (.int .u8 (((x29.b).toNat : Int)))) rfl (RowG.cell hC.holds hr34 (j := 2) rfl) one5) ⟨G, fun _ _ h => h, ⟨hC, hB, hg⟩, rfl⟩
        refine dsNone (j := 17) rfl ?_ ?_
        · intro done G w ac_ hd hp hn ⟨hC, hB, hg⟩ hM
          have f81 : ac_.tmps[81]? = some (.int .i64 x29.seq) := hM.eqv 10 rfl (hp 10 rfl) rfl rfl
          have f86 : ac_.tmps[86]? = some (.int .u8 (((x29.b).toNat : Int))) := hM.eqv 15 rfl (hp 15 rfl) rfl rfl
          have hF : Fr 131 ac_ ((Env.nil.put 81 (.int .i64 x29.seq)).put 86 (.int .u8 (((x29.b).toNat : Int)))) := ((hM.fr.add f81).add f86)
          exact drawCallS hF rfl co19 rfl (mark_ret _ _ hC.holds x29.seq x29.b) (fun w' hk => ⟨G, fun _ _ h => h, ⟨hC.trans hk, hB.ext hk, hg⟩, rfl⟩)
        exact dsNil
      · intro done G w ac_ hall htl ⟨hC, hB, hg⟩ hM
        replace hl := hl.mono hg
        replace hJma := hJma.mono hg
        replace hs18 := hs18.mono hg
        replace hJmb := hJmb.mono hg
        replace hr34 := hr34.mono hg
        have f3 : ac_.tmps[3]? = some (.pointer (some ⟨b8, 0, none⟩)) := hM.old0 rfl rfl
        have f4 : ac_.tmps[4]? = some (.pointer (some ⟨b15, 0, none⟩)) := hM.old0 rfl rfl
        have f5 : ac_.tmps[5]? = some (.slice (some ⟨b31, o32, none⟩) fit.length fitC) := hM.old0 rfl rfl
        have f8 : ac_.tmps[8]? = some (.int .i64 (((q0 : Nat) : Int))) := hM.old0 rfl rfl
        have f71 : ac_.tmps[71]? = some (.pointer (some ⟨b15, 0, none⟩)) := hM.eqv 0 rfl (hall 0 rfl) rfl rfl
        have f76 : ac_.tmps[76]? = some (.int .i64 x29.node) := hM.eqv 5 rfl (hall 5 rfl) rfl rfl
        have f87 : ac_.tmps[87]? = some (.agg (((markI x29.seq x29.b))).cells.toArray) := hM.eqv 16 rfl (hall 16 rfl) rfl rfl
        refine ⟨(((((((Env.nil.put 3 (.pointer (some ⟨b8, 0, none⟩))).put 4 (.pointer (some ⟨b15, 0, none⟩))).put 5 (.slice (some ⟨b31, o32, none⟩) fit.length fitC)).put 8 (.int .i64 (((q0 : Nat) : Int)))).put 71 (.pointer (some ⟨b15, 0, none⟩))).put 76 (.int .i64 x29.node)).put 87 (.agg (((markI x29.seq x29.b))).cells.toArray)), (((((((hM.fr.add f3).add f4).add f5).add f8).add f71).add f76).add f87), ?_⟩
        clear hM hall htl
        refine wlCallM (A := []) (O := [(b15, ob), (l16, qb)]) (B := [(b8, oa), (l9, qa)]) hC hB rfl co12 rfl rfl (vote_ret _ _ hC.holds b15 l16 _ _ mb ⟨hC.heldAt 0 rfl, hC.heldG 0 rfl⟩ ⟨hC.heldAt 1 rfl, hC.heldG 1 rfl⟩ (by have e_ := hC.hnd; simp at e_; omega) hJmb x29.node (((markI x29.seq x29.b)))) ?_; rintro v37 G O38 w hg hC hB ⟨o39, q40, rfl, h41, rfl⟩
        replace hl := hl.mono hg; replace hJma := hJma.mono hg; replace hs18 := hs18.mono hg; replace hr34 := hr34.mono hg
        replace hC : Cx w0 G0 G w ⟨[], [(b15, o39), (l16, q40), (b8, oa), (l9, qa)]⟩ := hC
        replace hB : Bxs G w w0.heap.size [] ⟨[], [(b15, o39), (l16, q40), (b8, oa), (l9, qa)]⟩ := hB
        refine wlVal (opNeq rfl rfl) rfl ?_
        refine wlThen ?_
        cases h42 : (((voteM mb x29.node (((markI x29.seq x29.b)))).2)) != 0
        · skip
          refine wcCondF rfl ?_
          refine wcSkip ?_
          refine wcOf ?_
          refine wcRegion ?_
          refine wlVal (opMove rfl) rfl ?_
          refine wlVal (opSub rfl rfl) rfl ?_
          refine wlVal (opAssign rfl) rfl ?_
          refine wlRound ?_
          exact (IH1 (IntKind.wrap .i64 (((q0 : Nat) : Int) - 1), q0, o39, q40, ((voteM mb x29.node (((markI x29.seq x29.b)))).1)) _ _ ⟨hC, hB, hl, hJma, hs18, h41, (by omega), (ord_last (by omega)), (ord_back hJ hJb hx30)⟩ (Nat.lt_succ_self _)).sub (fun _ ha => ((((ha.start.cons ha (t := 3) rfl).cons ha (t := 4) rfl).cons ha (t := 5) rfl).cons ha (t := 8) rfl))
        · skip
          exact absurd h42 (by rw [ord_zero hJ hJb hx30]; decide)
  · skip
    refine wlOn rfl rfl ?_
    refine wlVal (opMove rfl) rfl ?_
    refine wlOn rfl rfl ?_
    refine wlVal (opLssN (b := 60) rfl rfl) rfl ?_
    refine wlVal (opPickT rfl rfl) rfl ?_
    refine wlThen ?_
    cases h43 : decide (k < 60)
    · skip
      refine wcCondF rfl ?_
      refine wcExit ?_
      refine wcOf ?_
      refine wcSeq ?_
      refine wcSeq ?_
      refine wcRegion ?_
      refine wlVal (opMove rfl) rfl ?_
      refine wlVal (opLen rfl isl45) rfl ?_
      refine wlVal (opSub rfl rfl) rfl ?_
      refine wlVal (opAssign rfl) rfl ?_
      refine wlThen ?_
      refine wcBlock ?_
      have hf60 : fit.length ≤ 60 := by omega
      obtain ⟨G, hg45, hC, hB, hs44⟩ := Ow.freeze' (bl := []) (r := []) hOfit hC (Nat.le_refl _) hB (by unfold maxL; omega)
      replace hl := hl.mono hg45; replace h14 := h14.mono hg45; replace hJma := hJma.mono hg45
      replace hB : Bxs G w w0.heap.size [] ⟨[], [(b15, o12), (l16, q13), (b8, oa), (l9, qa)]⟩ := hB
      refine WC.sub (wrInd (ι := Int × Nat × Obj × Obj × MSt) (fun i => match i with | (j, q, ob, qb, mb) => q) (fun i G w => match i with | (j, q, ob, qb, mb) => Cx w0 G0 G w ⟨[], [(b15, ob), (l16, qb), (b8, oa), (l9, qa)]⟩ ∧ Bxs G w w0.heap.size [] ⟨[], [(b15, ob), (l16, qb), (b8, oa), (l9, qa)]⟩ ∧ Sl G (.slice A1 l.length cap2) l ∧ MarksO G oa qa l9 ma ∧ Sl G (.slice fitA fit.length fitC) fit ∧ MarksO G ob qb l16 mb ∧ q ≤ fit.length ∧ j = ((q : Nat) : Int) - 1 ∧ OrdJ mb (fit.drop q)) (fun i => match i with | (j, q, ob, qb, mb) => ((((Env.nil.put 3 (.pointer (some ⟨b8, 0, none⟩))).put 4 (.pointer (some ⟨b15, 0, none⟩))).put 5 (.slice fitA fit.length fitC)).put 8 (.int .i64 j))) ?_ (IntKind.wrap .i64 (((fit.length : Nat) : Int) - 1), fit.length, o12, q13, ((MSt.mk (crewI 1) (Mark.mk 0 Dig.zero) []))) _ _ ⟨hC, hB, hl, hJma, hs44, h14, (Nat.le_refl _), (ord_last (by omega)), (by rw [List.drop_length]; exact ord_new)⟩) (fun _ ha => ((((ha.start.cons ha (t := 3) rfl).cons ha (t := 4) rfl).cons ha (t := 5) rfl).cons ha (t := 8) rfl))
      rintro ⟨j, q, ob, qb, mb⟩ G w N1 IH1 ⟨hC, hB, hl, hJma, hs44, hJmb, hq, hj, hJb⟩
      show WC _ _ _ _ ((((Env.nil.put 3 (.pointer (some ⟨b8, 0, none⟩))).put 4 (.pointer (some ⟨b15, 0, none⟩))).put 5 (.slice fitA fit.length fitC)).put 8 (.int .i64 j)) w
      refine wcSeq ?_
      refine wcSeq ?_
      refine wcRegion ?_
      refine wlVal (opMove rfl) rfl ?_
      refine wlVal (opGeq rfl rfl) rfl ?_
      refine wlThen ?_
      cases h46 : decide (0 ≤ j)
      · skip
        refine wcCondF rfl ?_
        refine wcExit ?_
        refine wcOf ?_
        refine wcSeq ?_
        refine wcRegion ?_
        refine wlVal (opMove rfl) rfl ?_
        refine wlCallS hC hB rfl co20 rfl rfl (RetS.lend hC (fun G_ hg_ hh_ hL_ => stable_ret _ _ hh_ b8 l9 _ _ ma (hL_ (b8, oa) (by simp)) (hL_ (l9, qa) (by simp)) (show MarksO G_ oa qa l9 ma from (hJma.mono hg_)))) ?_; intro w hk hC hB
        refine wlVal (opMove rfl) rfl ?_
        refine wlVal (opExtract rfl rfl) rfl ?_
        refine wlVal (opExtract rfl rfl) rfl ?_
        refine wlAlloc hC hB zero28 rfl ?_; intro b47 w hk hC hB
        refine wlStore 0 (vs := (((gR (lists ma) (most ma.crew)).1)).cells) (cs := ((.int .i64 0) :: (Dig.zero.cells ++ []))) (cs' := (((gR (lists ma) (most ma.crew)).1)).cells) hC hB rfl rfl rfl sz28 rfl (by simp [Mark.cells, Do.cells, Word.cells]) (by simp [Mark.cells, Do.cells, Word.cells, Value.oneCell']) (by simp [Mark.cells, Do.cells, Word.cells]) (by simp [Mark.cells, Do.cells, Word.cells]) rfl ?_; intro w hC hB
        refine wlVal (opAssign rfl) rfl ?_
        refine wlThen ?_
        refine wcSeq ?_
        refine wcRegion ?_
        refine wlVal (opMove rfl) rfl ?_
        refine wlCallS hC hB rfl co20 rfl rfl (RetS.lend hC (fun G_ hg_ hh_ hL_ => stable_ret _ _ hh_ b15 l16 _ _ mb (hL_ (b15, ob) (by simp)) (hL_ (l16, qb) (by simp)) (show MarksO G_ ob qb l16 mb from (hJmb.mono hg_)))) ?_; intro w hk hC hB
        refine wlVal (opMove rfl) rfl ?_
        refine wlVal (opExtract rfl rfl) rfl ?_
        refine wlVal (opExtract rfl rfl) rfl ?_
        refine wlAlloc hC hB zero28 rfl ?_; intro b48 w hk hC hB
        refine wlStore 0 (vs := (((gR (lists mb) (most mb.crew)).1)).cells) (cs := ((.int .i64 0) :: (Dig.zero.cells ++ []))) (cs' := (((gR (lists mb) (most mb.crew)).1)).cells) hC hB rfl rfl rfl sz28 rfl (by simp [Mark.cells, Do.cells, Word.cells]) (by simp [Mark.cells, Do.cells, Word.cells, Value.oneCell']) (by simp [Mark.cells, Do.cells, Word.cells]) (by simp [Mark.cells, Do.cells, Word.cells]) rfl ?_; intro w hC hB
        refine wlVal (opAssign rfl) rfl ?_
        refine wlThen ?_
        refine wcSeq ?_
        refine wcRegion ?_
        refine wlVal (opMove rfl) rfl ?_
        refine wlCallS hC hB rfl co21 rfl rfl (RetS.lend hC (fun G_ hg_ hh_ hL_ => known_ret _ _ hh_ b8 l9 _ _ ma (hL_ (b8, oa) (by simp)) (hL_ (l9, qa) (by simp)) (show MarksO G_ oa qa l9 ma from (hJma.mono hg_)))) ?_; intro w hk hC hB
        refine wlVal (opMove rfl) rfl ?_
        refine wlVal (opExtract rfl rfl) rfl ?_
        refine wlVal (opExtract rfl rfl) rfl ?_
        refine wlAlloc hC hB zero28 rfl ?_; intro b49 w hk hC hB
        refine wlStore 0 (vs := (((gR (lists ma) (some_ ma.crew)).1)).cells) (cs := ((.int .i64 0) :: (Dig.zero.cells ++ []))) (cs' := (((gR (lists ma) (some_ ma.crew)).1)).cells) hC hB rfl rfl rfl sz28 rfl (by simp [Mark.cells, Do.cells, Word.cells]) (by simp [Mark.cells, Do.cells, Word.cells, Value.oneCell']) (by simp [Mark.cells, Do.cells, Word.cells]) (by simp [Mark.cells, Do.cells, Word.cells]) rfl ?_; intro w hC hB
        refine wlVal (opAssign rfl) rfl ?_
        refine wlThen ?_
        refine wcSeq ?_
        refine wcRegion ?_
        refine wlVal (opMove rfl) rfl ?_
        refine wlCallS hC hB rfl co21 rfl rfl (RetS.lend hC (fun G_ hg_ hh_ hL_ => known_ret _ _ hh_ b15 l16 _ _ mb (hL_ (b15, ob) (by simp)) (hL_ (l16, qb) (by simp)) (show MarksO G_ ob qb l16 mb from (hJmb.mono hg_)))) ?_; intro w hk hC hB
        refine wlVal (opMove rfl) rfl ?_
        refine wlVal (opExtract rfl rfl) rfl ?_
        refine wlVal (opExtract rfl rfl) rfl ?_
        refine wlAlloc hC hB zero28 rfl ?_; intro b50 w hk hC hB
        refine wlStore 0 (vs := (((gR (lists mb) (some_ mb.crew)).1)).cells) (cs := ((.int .i64 0) :: (Dig.zero.cells ++ []))) (cs' := (((gR (lists mb) (some_ mb.crew)).1)).cells) hC hB rfl rfl rfl sz28 rfl (by simp [Mark.cells, Do.cells, Word.cells]) (by simp [Mark.cells, Do.cells, Word.cells, Value.oneCell']) (by simp [Mark.cells, Do.cells, Word.cells]) (by simp [Mark.cells, Do.cells, Word.cells]) rfl ?_; intro w hC hB
        refine wlVal (opAssign rfl) rfl ?_
        refine wlThen ?_
        refine wcSeq ?_
        refine wcRegion ?_
        refine wlVal (opLoadRow (cs := (((gR (lists ma) (most ma.crew)).1)).cells) rfl (hB.range (i := 3) (m := 33) rfl (by simp [Mark.cells, Do.cells, Word.cells])) row28 (by simp [Mark.cells, Do.cells, Word.cells])) rfl ?_
        refine wlVal (opLoadRow (cs := (((gR (lists mb) (most mb.crew)).1)).cells) rfl (hB.range (i := 2) (m := 33) rfl (by simp [Mark.cells, Do.cells, Word.cells])) row28 (by simp [Mark.cells, Do.cells, Word.cells])) rfl ?_
        refine wlVal (opEqRow (eq28 _ (((gR (lists ma) (most ma.crew)).1)) (((gR (lists mb) (most mb.crew)).1))) eg28 rfl rfl) rfl ?_
        refine wlVal (opMove rfl) rfl ?_
        cases h51 : decide (((gR (lists ma) (most ma.crew)).1) = ((gR (lists mb) (most mb.crew)).1))
        · skip
          exact absurd h51 (by have hq0 : q = 0 := (by have z := of_decide_eq_false h46; omega); rw [hq0] at hJb; simp [hJ.crew, hJb.crew, ord_eq hJ hJb])
        · skip
          refine wlOn rfl rfl ?_
          refine wlVal (opMove rfl) rfl ?_
          refine wlOn rfl rfl ?_
          refine wlVal (opMove rfl) rfl ?_
          refine wlOn rfl rfl ?_
          refine wlVal (opEqBool ub4 rfl rfl) rfl ?_
          refine wlVal (opPickT rfl rfl) rfl ?_
          refine wlVal (opMove rfl) rfl ?_
          cases h52 : (((gR (lists ma) (most ma.crew)).2)) == (((gR (lists mb) (most mb.crew)).2))
          · skip
            exact absurd h52 (by have hq0 : q = 0 := (by have z := of_decide_eq_false h46; omega); rw [hq0] at hJb; simp [hJ.crew, hJb.crew, ord_eq hJ hJb])
          · skip
            refine wlOn rfl rfl ?_
            refine wlVal (opLoadRow (cs := (((gR (lists ma) (some_ ma.crew)).1)).cells) rfl (hB.range (i := 1) (m := 33) rfl (by simp [Mark.cells, Do.cells, Word.cells])) row28 (by simp [Mark.cells, Do.cells, Word.cells])) rfl ?_
            refine wlOn rfl rfl ?_
            refine wlVal (opLoadRow (cs := (((gR (lists mb) (some_ mb.crew)).1)).cells) rfl (hB.range (i := 0) (m := 33) rfl (by simp [Mark.cells, Do.cells, Word.cells])) row28 (by simp [Mark.cells, Do.cells, Word.cells])) rfl ?_
            refine wlOn rfl rfl ?_
            refine wlVal (opEqRow (eq28 _ (((gR (lists ma) (some_ ma.crew)).1)) (((gR (lists mb) (some_ mb.crew)).1))) eg28 rfl rfl) rfl ?_
            refine wlVal (opPickT rfl rfl) rfl ?_
            refine wlVal (opMove rfl) rfl ?_
            cases h53 : decide (((gR (lists ma) (some_ ma.crew)).1) = ((gR (lists mb) (some_ mb.crew)).1))
            · skip
              exact absurd h53 (by have hq0 : q = 0 := (by have z := of_decide_eq_false h46; omega); rw [hq0] at hJb; simp [hJ.crew, hJb.crew, ord_eq hJ hJb])
            · skip
              refine wlOn rfl rfl ?_
              refine wlVal (opMove rfl) rfl ?_
              refine wlOn rfl rfl ?_
              refine wlVal (opMove rfl) rfl ?_
              refine wlOn rfl rfl ?_
              refine wlVal (opEqBool ub4 rfl rfl) rfl ?_
              refine wlVal (opPickT rfl rfl) rfl ?_
              refine wlVal (opMove rfl) rfl ?_
              cases h54 : (((gR (lists ma) (some_ ma.crew)).2)) == (((gR (lists mb) (some_ mb.crew)).2))
              · skip
                exact absurd h54 (by have hq0 : q = 0 := (by have z := of_decide_eq_false h46; omega); rw [hq0] at hJb; simp [hJ.crew, hJb.crew, ord_eq hJ hJb])
              · skip
                refine wlOn rfl rfl ?_
                refine wlCallS hC hB rfl co17 rfl rfl (awake_ret _ _ hC.holds ) ?_; intro w hk hC hB
                refine wlVal (opPickT rfl rfl) rfl ?_
                refine wlVal (opAssign rfl) rfl ?_
                refine wlThen ?_
                refine wcRet ?_
                exact fun ac_ ha => hQ _ _ _ (results1 ha rfl rfl) ha.df (endS hC hw rfl)
      · skip
        obtain ⟨q0, rfl⟩ : ∃ q0, q = q0 + 1 := ⟨q - 1, by have z := of_decide_eq_true h46; omega⟩
        obtain rfl : j = ((q0 : Nat) : Int) := by omega
        refine wcCondT rfl ?_
        refine wcSkip ?_
        refine wcOf ?_
        refine wcSeq ?_
        refine wcBlock ?_
        refine wcSeq ?_
        obtain ⟨x55, hx56⟩ : ∃ y_, fit[q0]? = some y_ := ⟨_, List.getElem?_eq_getElem (by omega)⟩
        obtain ⟨b57, o58, row59, hA62, hr60, hi61⟩ := hs44.elem hx56; subst hA62
        obtain rfl := hi61
        refine wcDrawT 17 fmix (by kernel_rfl) (by kernel_rfl) (by kernel_rfl) (by kernel_rfl) (vAt [(fun _ v_ => v_ = (.pointer (some ⟨b15, 0, none⟩))), (fun _ v_ => v_ = (.slice (some ⟨b57, o58, none⟩) fit.length fitC)), (fun _ v_ => v_ = (.int .i64 (((q0 : Nat) : Int)))), (fun _ v_ => v_ = (.pointer (some ⟨b57, o58 + q0 * 3, none⟩))), (fun _ v_ => v_ = (.pointer (some ⟨b57, o58 + q0 * 3, none⟩))), (fun _ v_ => v_ = (.int .i64 x55.node)), (fun _ v_ => v_ = (.slice (some ⟨b57, o58, none⟩) fit.length fitC)), (fun _ v_ => v_ = (.int .i64 (((q0 : Nat) : Int)))), (fun _ v_ => v_ = (.pointer (some ⟨b57, o58 + q0 * 3, none⟩))), (fun _ v_ => v_ = (.pointer (some ⟨b57, o58 + q0 * 3 + 1, none⟩))), (fun _ v_ => v_ = (.int .i64 x55.seq)), (fun _ v_ => v_ = (.slice (some ⟨b57, o58, none⟩) fit.length fitC)), (fun _ v_ => v_ = (.int .i64 (((q0 : Nat) : Int)))), (fun _ v_ => v_ = (.pointer (some ⟨b57, o58 + q0 * 3, none⟩))), (fun _ v_ => v_ = (.pointer (some ⟨b57, o58 + q0 * 3 + 2, none⟩))), (fun _ v_ => v_ = (.int .u8 (((x55.b).toNat : Int)))), (fun _ v_ => v_ = (.agg (((markI x55.seq x55.b))).cells.toArray))]) (fun _ _ G' w => Cx w0 G0 G' w ⟨[], [(b15, ob), (l16, qb), (b8, oa), (l9, qa)]⟩ ∧ Bxs G' w w0.heap.size [] ⟨[], [(b15, ob), (l16, qb), (b8, oa), (l9, qa)]⟩ ∧ GLe G G') G (vAt_mono ⟨fun _ _ _ _ h => h, fun _ _ _ _ h => h, fun _ _ _ _ h => h, fun _ _ _ _ h => h, fun _ _ _ _ h => h, fun _ _ _ _ h => h, fun _ _ _ _ h => h, fun _ _ _ _ h => h, fun _ _ _ _ h => h, fun _ _ _ _ h => h, fun _ _ _ _ h => h, fun _ _ _ _ h => h, fun _ _ _ _ h => h, fun _ _ _ _ h => h, fun _ _ _ _ h => h, fun _ _ _ _ h => h, fun _ _ _ _ h => h, trivial⟩) (fun _ _ => ⟨hC.drew, hB.drew, fun _ _ h => h⟩) ?_ ?_
        · refine dsNone (j := 1) rfl ?_ ?_
          · intro done G w ac_ hd hp hn ⟨hC, hB, hg⟩ hM
            have f4 : ac_.tmps[4]? = some (.pointer (some ⟨b15, 0, none⟩)) := hM.old0 rfl rfl
            have hF : Fr 131 ac_ (Env.nil.put 4 (.pointer (some ⟨b15, 0, none⟩))) := (hM.fr.add f4)
            exact OpVal.draw hF (opMove rfl) ⟨G, fun _ _ h => h, ⟨hC, hB, hg⟩, rfl⟩
          refine dsNone (j := 2) rfl ?_ ?_
          · intro done G w ac_ hd hp hn ⟨hC, hB, hg⟩ hM
            have f5 : ac_.tmps[5]? = some (.slice (some ⟨b57, o58, none⟩) fit.length fitC) := hM.old0 rfl rfl
            have hF : Fr 131 ac_ (Env.nil.put 5 (.slice (some ⟨b57, o58, none⟩) fit.length fitC)) := (hM.fr.add f5)
            exact OpVal.draw hF (opMove rfl) ⟨G, fun _ _ h => h, ⟨hC, hB, hg⟩, rfl⟩
          refine dsNone (j := 3) rfl ?_ ?_
          · intro done G w ac_ hd hp hn ⟨hC, hB, hg⟩ hM
            have f8 : ac_.tmps[8]? = some (.int .i64 (((q0 : Nat) : Int))) := hM.old0 rfl rfl
            have hF : Fr 131 ac_ (Env.nil.put 8 (.int .i64 (((q0 : Nat) : Int)))) := (hM.fr.add f8)
            exact OpVal.draw hF (opMove rfl) ⟨G, fun _ _ h => h, ⟨hC, hB, hg⟩, rfl⟩
          refine dsNone (j := 4) rfl ?_ ?_
          · intro done G w ac_ hd hp hn ⟨hC, hB, hg⟩ hM
            have f72 : ac_.tmps[72]? = some (.slice (some ⟨b57, o58, none⟩) fit.length fitC) := hM.eqv 1 rfl (hp 1 rfl) rfl rfl
            have f73 : ac_.tmps[73]? = some (.int .i64 (((q0 : Nat) : Int))) := hM.eqv 2 rfl (hp 2 rfl) rfl rfl
            have hF : Fr 131 ac_ ((Env.nil.put 72 (.slice (some ⟨b57, o58, none⟩) fit.length fitC)).put 73 (.int .i64 (((q0 : Nat) : Int)))) := ((hM.fr.add f72).add f73)
            exact OpVal.draw hF (opIndexAddr rfl rfl slo45 (by omega)) ⟨G, fun _ _ h => h, ⟨hC, hB, hg⟩, rfl⟩
          refine dsNone (j := 5) rfl ?_ ?_
          · intro done G w ac_ hd hp hn ⟨hC, hB, hg⟩ hM
            have f74 : ac_.tmps[74]? = some (.pointer (some ⟨b57, o58 + q0 * 3, none⟩)) := hM.eqv 3 rfl (hp 3 rfl) rfl rfl
            have hF : Fr 131 ac_ (Env.nil.put 74 (.pointer (some ⟨b57, o58 + q0 * 3, none⟩))) := (hM.fr.add f74)
            exact OpVal.draw hF (opFieldAddr rfl fo48_0) ⟨G, fun _ _ h => h, ⟨hC, hB, hg⟩, rfl⟩
          refine dsNone (j := 6) rfl ?_ ?_
          · intro done G w ac_ hd hp hn ⟨hC, hB, hg⟩ hM
            replace hr60 := hr60.mono hg
            have f75 : ac_.tmps[75]? = some (.pointer (some ⟨b57, o58 + q0 * 3, none⟩)) := hM.eqv 4 rfl (hp 4 rfl) rfl rfl
            have hF : Fr 131 ac_ (Env.nil.put 75 (.pointer (some ⟨b57, o58 + q0 * 3, none⟩))) := (hM.fr.add f75)
            exact OpVal.draw hF (opLoadOne (v := (.int .i64 x55.node)) rfl (RowG.cell0 hC.holds hr60 rfl) one3) ⟨G, fun _ _ h => h, ⟨hC, hB, hg⟩, rfl⟩
          refine dsNone (j := 7) rfl ?_ ?_
          · intro done G w ac_ hd hp hn ⟨hC, hB, hg⟩ hM
            have f5 : ac_.tmps[5]? = some (.slice (some ⟨b57, o58, none⟩) fit.length fitC) := hM.old0 rfl rfl
            have hF : Fr 131 ac_ (Env.nil.put 5 (.slice (some ⟨b57, o58, none⟩) fit.length fitC)) := (hM.fr.add f5)
            exact OpVal.draw hF (opMove rfl) ⟨G, fun _ _ h => h, ⟨hC, hB, hg⟩, rfl⟩
          refine dsNone (j := 8) rfl ?_ ?_
          · intro done G w ac_ hd hp hn ⟨hC, hB, hg⟩ hM
            have f8 : ac_.tmps[8]? = some (.int .i64 (((q0 : Nat) : Int))) := hM.old0 rfl rfl
            have hF : Fr 131 ac_ (Env.nil.put 8 (.int .i64 (((q0 : Nat) : Int)))) := (hM.fr.add f8)
            exact OpVal.draw hF (opMove rfl) ⟨G, fun _ _ h => h, ⟨hC, hB, hg⟩, rfl⟩
          refine dsNone (j := 9) rfl ?_ ?_
          · intro done G w ac_ hd hp hn ⟨hC, hB, hg⟩ hM
            have f77 : ac_.tmps[77]? = some (.slice (some ⟨b57, o58, none⟩) fit.length fitC) := hM.eqv 6 rfl (hp 6 rfl) rfl rfl
            have f78 : ac_.tmps[78]? = some (.int .i64 (((q0 : Nat) : Int))) := hM.eqv 7 rfl (hp 7 rfl) rfl rfl
            have hF : Fr 131 ac_ ((Env.nil.put 77 (.slice (some ⟨b57, o58, none⟩) fit.length fitC)).put 78 (.int .i64 (((q0 : Nat) : Int)))) := ((hM.fr.add f77).add f78)
            exact OpVal.draw hF (opIndexAddr rfl rfl slo45 (by omega)) ⟨G, fun _ _ h => h, ⟨hC, hB, hg⟩, rfl⟩
          refine dsNone (j := 10) rfl ?_ ?_
          · intro done G w ac_ hd hp hn ⟨hC, hB, hg⟩ hM
            have f79 : ac_.tmps[79]? = some (.pointer (some ⟨b57, o58 + q0 * 3, none⟩)) := hM.eqv 8 rfl (hp 8 rfl) rfl rfl
            have hF : Fr 131 ac_ (Env.nil.put 79 (.pointer (some ⟨b57, o58 + q0 * 3, none⟩))) := (hM.fr.add f79)
            exact OpVal.draw hF (opFieldAddr rfl fo48_1) ⟨G, fun _ _ h => h, ⟨hC, hB, hg⟩, rfl⟩
          refine dsNone (j := 11) rfl ?_ ?_
          · intro done G w ac_ hd hp hn ⟨hC, hB, hg⟩ hM
            replace hr60 := hr60.mono hg
            have f80 : ac_.tmps[80]? = some (.pointer (some ⟨b57, o58 + q0 * 3 + 1, none⟩)) := hM.eqv 9 rfl (hp 9 rfl) rfl rfl
            have hF : Fr 131 ac_ (Env.nil.put 80 (.pointer (some ⟨b57, o58 + q0 * 3 + 1, none⟩))) := (hM.fr.add f80)
            exact OpVal.draw hF (opLoadOne (v := (.int .i64 x55.seq)) rfl (RowG.cell hC.holds hr60 (j := 1) rfl) one3) ⟨G, fun _ _ h => h, ⟨hC, hB, hg⟩, rfl⟩
          refine dsNone (j := 12) rfl ?_ ?_
          · intro done G w ac_ hd hp hn ⟨hC, hB, hg⟩ hM
            have f5 : ac_.tmps[5]? = some (.slice (some ⟨b57, o58, none⟩) fit.length fitC) := hM.old0 rfl rfl
            have hF : Fr 131 ac_ (Env.nil.put 5 (.slice (some ⟨b57, o58, none⟩) fit.length fitC)) := (hM.fr.add f5)
            exact OpVal.draw hF (opMove rfl) ⟨G, fun _ _ h => h, ⟨hC, hB, hg⟩, rfl⟩
          refine dsNone (j := 13) rfl ?_ ?_
          · intro done G w ac_ hd hp hn ⟨hC, hB, hg⟩ hM
            have f8 : ac_.tmps[8]? = some (.int .i64 (((q0 : Nat) : Int))) := hM.old0 rfl rfl
            have hF : Fr 131 ac_ (Env.nil.put 8 (.int .i64 (((q0 : Nat) : Int)))) := (hM.fr.add f8)
            exact OpVal.draw hF (opMove rfl) ⟨G, fun _ _ h => h, ⟨hC, hB, hg⟩, rfl⟩
          refine dsNone (j := 14) rfl ?_ ?_
          · intro done G w ac_ hd hp hn ⟨hC, hB, hg⟩ hM
            have f82 : ac_.tmps[82]? = some (.slice (some ⟨b57, o58, none⟩) fit.length fitC) := hM.eqv 11 rfl (hp 11 rfl) rfl rfl
            have f83 : ac_.tmps[83]? = some (.int .i64 (((q0 : Nat) : Int))) := hM.eqv 12 rfl (hp 12 rfl) rfl rfl
            have hF : Fr 131 ac_ ((Env.nil.put 82 (.slice (some ⟨b57, o58, none⟩) fit.length fitC)).put 83 (.int .i64 (((q0 : Nat) : Int)))) := ((hM.fr.add f82).add f83)
            exact OpVal.draw hF (opIndexAddr rfl rfl slo45 (by omega)) ⟨G, fun _ _ h => h, ⟨hC, hB, hg⟩, rfl⟩
          refine dsNone (j := 15) rfl ?_ ?_
          · intro done G w ac_ hd hp hn ⟨hC, hB, hg⟩ hM
            have f84 : ac_.tmps[84]? = some (.pointer (some ⟨b57, o58 + q0 * 3, none⟩)) := hM.eqv 13 rfl (hp 13 rfl) rfl rfl
            have hF : Fr 131 ac_ (Env.nil.put 84 (.pointer (some ⟨b57, o58 + q0 * 3, none⟩))) := (hM.fr.add f84)
            exact OpVal.draw hF (opFieldAddr rfl fo48_2) ⟨G, fun _ _ h => h, ⟨hC, hB, hg⟩, rfl⟩
          refine dsNone (j := 16) rfl ?_ ?_
          · intro done G w ac_ hd hp hn ⟨hC, hB, hg⟩ hM
            replace hr60 := hr60.mono hg
            have f85 : ac_.tmps[85]? = some (.pointer (some ⟨b57, o58 + q0 * 3 + 2, none⟩)) := hM.eqv 14 rfl (hp 14 rfl) rfl rfl
            have hF : Fr 131 ac_ (Env.nil.put 85 (.pointer (some ⟨b57, o58 + q0 * 3 + 2, none⟩))) := (hM.fr.add f85)
            exact OpVal.draw hF (opLoadOne (v := (.int .u8 (((x55.b).toNat : Int)))) rfl (RowG.cell hC.holds hr60 (j := 2) rfl) one5) ⟨G, fun _ _ h => h, ⟨hC, hB, hg⟩, rfl⟩
          refine dsNone (j := 17) rfl ?_ ?_
          · intro done G w ac_ hd hp hn ⟨hC, hB, hg⟩ hM
            have f81 : ac_.tmps[81]? = some (.int .i64 x55.seq) := hM.eqv 10 rfl (hp 10 rfl) rfl rfl
            have f86 : ac_.tmps[86]? = some (.int .u8 (((x55.b).toNat : Int))) := hM.eqv 15 rfl (hp 15 rfl) rfl rfl
            have hF : Fr 131 ac_ ((Env.nil.put 81 (.int .i64 x55.seq)).put 86 (.int .u8 (((x55.b).toNat : Int)))) := ((hM.fr.add f81).add f86)
            exact drawCallS hF rfl co19 rfl (mark_ret _ _ hC.holds x55.seq x55.b) (fun w' hk => ⟨G, fun _ _ h => h, ⟨hC.trans hk, hB.ext hk, hg⟩, rfl⟩)
          exact dsNil
        · intro done G w ac_ hall htl ⟨hC, hB, hg⟩ hM
          replace hl := hl.mono hg
          replace hJma := hJma.mono hg
          replace hs44 := hs44.mono hg
          replace hJmb := hJmb.mono hg
          replace hr60 := hr60.mono hg
          have f3 : ac_.tmps[3]? = some (.pointer (some ⟨b8, 0, none⟩)) := hM.old0 rfl rfl
          have f4 : ac_.tmps[4]? = some (.pointer (some ⟨b15, 0, none⟩)) := hM.old0 rfl rfl
          have f5 : ac_.tmps[5]? = some (.slice (some ⟨b57, o58, none⟩) fit.length fitC) := hM.old0 rfl rfl
          have f8 : ac_.tmps[8]? = some (.int .i64 (((q0 : Nat) : Int))) := hM.old0 rfl rfl
          have f71 : ac_.tmps[71]? = some (.pointer (some ⟨b15, 0, none⟩)) := hM.eqv 0 rfl (hall 0 rfl) rfl rfl
          have f76 : ac_.tmps[76]? = some (.int .i64 x55.node) := hM.eqv 5 rfl (hall 5 rfl) rfl rfl
          have f87 : ac_.tmps[87]? = some (.agg (((markI x55.seq x55.b))).cells.toArray) := hM.eqv 16 rfl (hall 16 rfl) rfl rfl
          refine ⟨(((((((Env.nil.put 3 (.pointer (some ⟨b8, 0, none⟩))).put 4 (.pointer (some ⟨b15, 0, none⟩))).put 5 (.slice (some ⟨b57, o58, none⟩) fit.length fitC)).put 8 (.int .i64 (((q0 : Nat) : Int)))).put 71 (.pointer (some ⟨b15, 0, none⟩))).put 76 (.int .i64 x55.node)).put 87 (.agg (((markI x55.seq x55.b))).cells.toArray)), (((((((hM.fr.add f3).add f4).add f5).add f8).add f71).add f76).add f87), ?_⟩
          clear hM hall htl
          refine wlCallM (A := []) (O := [(b15, ob), (l16, qb)]) (B := [(b8, oa), (l9, qa)]) hC hB rfl co12 rfl rfl (vote_ret _ _ hC.holds b15 l16 _ _ mb ⟨hC.heldAt 0 rfl, hC.heldG 0 rfl⟩ ⟨hC.heldAt 1 rfl, hC.heldG 1 rfl⟩ (by have e_ := hC.hnd; simp at e_; omega) hJmb x55.node (((markI x55.seq x55.b)))) ?_; rintro v63 G O64 w hg hC hB ⟨o65, q66, rfl, h67, rfl⟩
          replace hl := hl.mono hg; replace hJma := hJma.mono hg; replace hs44 := hs44.mono hg; replace hr60 := hr60.mono hg
          replace hC : Cx w0 G0 G w ⟨[], [(b15, o65), (l16, q66), (b8, oa), (l9, qa)]⟩ := hC
          replace hB : Bxs G w w0.heap.size [] ⟨[], [(b15, o65), (l16, q66), (b8, oa), (l9, qa)]⟩ := hB
          refine wlVal (opNeq rfl rfl) rfl ?_
          refine wlThen ?_
          cases h68 : (((voteM mb x55.node (((markI x55.seq x55.b)))).2)) != 0
          · skip
            refine wcCondF rfl ?_
            refine wcSkip ?_
            refine wcOf ?_
            refine wcRegion ?_
            refine wlVal (opMove rfl) rfl ?_
            refine wlVal (opSub rfl rfl) rfl ?_
            refine wlVal (opAssign rfl) rfl ?_
            refine wlRound ?_
            exact (IH1 (IntKind.wrap .i64 (((q0 : Nat) : Int) - 1), q0, o65, q66, ((voteM mb x55.node (((markI x55.seq x55.b)))).1)) _ _ ⟨hC, hB, hl, hJma, hs44, h67, (by omega), (ord_last (by omega)), (ord_back hJ hJb hx56)⟩ (Nat.lt_succ_self _)).sub (fun _ ha => ((((ha.start.cons ha (t := 3) rfl).cons ha (t := 4) rfl).cons ha (t := 5) rfl).cons ha (t := 8) rfl))
          · skip
            exact absurd h68 (by rw [ord_zero hJ hJb hx56]; decide)
    · skip
      refine wcCondT rfl ?_
      refine wcSkip ?_
      refine wcOf ?_
      refine wcSeq ?_
      refine wcBlock ?_
      refine wcSeq ?_
      obtain ⟨x69, hx70⟩ : ∃ y_, l[k]? = some y_ := ⟨_, List.getElem?_eq_getElem (of_decide_eq_true h17)⟩
      obtain ⟨b71, o72, row73, hA76, hr74, hi75⟩ := hl.elem hx70; subst hA76
      obtain rfl := hi75
      refine wcDrawT 22 fmix (by kernel_rfl) (by kernel_rfl) (by kernel_rfl) (by kernel_rfl) (vAt [(fun _ v_ => v_ = (.slice (some ⟨b71, o72, none⟩) l.length cap2)), (fun _ v_ => v_ = (.int .i64 (((k : Nat) : Int)))), (fun _ v_ => v_ = (.pointer (some ⟨b71, o72 + k * 3, none⟩))), (fun _ v_ => v_ = (.pointer (some ⟨b71, o72 + k * 3, none⟩))), (fun _ v_ => v_ = (.int .i64 x69.node)), (fun _ v_ => v_ = (.int .i64 (((bringI x69.node 4))))), (fun _ v_ => v_ = (.int .i64 (IntKind.wrap .i64 (1 + ((bringI x69.node 4)))))), (fun _ v_ => v_ = (.slice (some ⟨b71, o72, none⟩) l.length cap2)), (fun _ v_ => v_ = (.int .i64 (((k : Nat) : Int)))), (fun _ v_ => v_ = (.pointer (some ⟨b71, o72 + k * 3, none⟩))), (fun _ v_ => v_ = (.pointer (some ⟨b71, o72 + k * 3 + 1, none⟩))), (fun _ v_ => v_ = (.int .i64 x69.seq)), (fun _ v_ => v_ = (.int .i64 (((bringI x69.seq 4))))), (fun _ v_ => v_ = (.int .i64 (IntKind.wrap .i64 (1 + ((bringI x69.seq 4)))))), (fun _ v_ => v_ = (.slice (some ⟨b71, o72, none⟩) l.length cap2)), (fun _ v_ => v_ = (.int .i64 (((k : Nat) : Int)))), (fun _ v_ => v_ = (.pointer (some ⟨b71, o72 + k * 3, none⟩))), (fun _ v_ => v_ = (.pointer (some ⟨b71, o72 + k * 3 + 2, none⟩))), (fun _ v_ => v_ = (.int .u8 (((x69.b).toNat : Int)))), (fun _ v_ => v_ = (.int .u8 ((((x69.b &&& (1 : UInt8))).toNat : Int)))), (fun _ v_ => v_ = (.agg [(.int .i64 (IntKind.wrap .i64 (1 + ((bringI x69.node 4))))), (.int .i64 (IntKind.wrap .i64 (1 + ((bringI x69.seq 4))))), (.int .u8 ((((x69.b &&& (1 : UInt8))).toNat : Int)))].toArray)), (fun _ _ => True)]) (fun done ac_ G' w => GLe G G' ∧ ∃ (B21 : Nat), Cx w0 G0 G' w ⟨[], [(b15, o12), (l16, q13), (b8, oa), (l9, qa)]⟩ ∧ (done 21 = true → ac_.tmps[7]? = some (.pointer (some ⟨B21, 0, none⟩))) ∧ Bxs G' w w0.heap.size ((bif done 21 then [(B21, 48, [(.int .i64 0), (.int .i64 0), (.int .u8 0)])] else []) ++ ([] ++ (Option.toList fitO ++ []))) ⟨[], [(b15, o12), (l16, q13), (b8, oa), (l9, qa)]⟩) G (vAt_mono ⟨fun _ _ _ _ h => h, fun _ _ _ _ h => h, fun _ _ _ _ h => h, fun _ _ _ _ h => h, fun _ _ _ _ h => h, fun _ _ _ _ h => h, fun _ _ _ _ h => h, fun _ _ _ _ h => h, fun _ _ _ _ h => h, fun _ _ _ _ h => h, fun _ _ _ _ h => h, fun _ _ _ _ h => h, fun _ _ _ _ h => h, fun _ _ _ _ h => h, fun _ _ _ _ h => h, fun _ _ _ _ h => h, fun _ _ _ _ h => h, fun _ _ _ _ h => h, fun _ _ _ _ h => h, fun _ _ _ _ h => h, fun _ _ _ _ h => h, fun _ _ _ _ h => h, trivial⟩) (fun _ _ => ⟨fun _ _ h => h, 0, hC.drew, (fun h => by cases h), hB.drew⟩) ?_ ?_
      · refine dsNone (j := 1) rfl ?_ ?_
        · intro done G w ac_ hd hp hn ⟨hg, B21, hC, hT21, hBx⟩ hM
          have hB := (hBx.sub (List.sublist_append_right _ _))
          have f0 : ac_.tmps[0]? = some (.slice (some ⟨b71, o72, none⟩) l.length cap2) := hM.old0 rfl rfl
          have hF : Fr 131 ac_ (Env.nil.put 0 (.slice (some ⟨b71, o72, none⟩) l.length cap2)) := (hM.fr.add f0)
          exact OpVal.draw hF (opMove rfl) ⟨G, fun _ _ h => h, ⟨hg, B21, hC, (fun h => (put_other rfl).trans (hT21 h)), hBx⟩, rfl⟩
        refine dsNone (j := 2) rfl ?_ ?_
        · intro done G w ac_ hd hp hn ⟨hg, B21, hC, hT21, hBx⟩ hM
          have hB := (hBx.sub (List.sublist_append_right _ _))
          have f6 : ac_.tmps[6]? = some (.int .i64 (((k : Nat) : Int))) := hM.old0 rfl rfl
          have hF : Fr 131 ac_ (Env.nil.put 6 (.int .i64 (((k : Nat) : Int)))) := (hM.fr.add f6)
          exact OpVal.draw hF (opMove rfl) ⟨G, fun _ _ h => h, ⟨hg, B21, hC, (fun h => (put_other rfl).trans (hT21 h)), hBx⟩, rfl⟩
        refine dsNone (j := 3) rfl ?_ ?_
        · intro done G w ac_ hd hp hn ⟨hg, B21, hC, hT21, hBx⟩ hM
          have hB := (hBx.sub (List.sublist_append_right _ _))
          have f29 : ac_.tmps[29]? = some (.slice (some ⟨b71, o72, none⟩) l.length cap2) := hM.eqv 0 rfl (hp 0 rfl) rfl rfl
          have f30 : ac_.tmps[30]? = some (.int .i64 (((k : Nat) : Int))) := hM.eqv 1 rfl (hp 1 rfl) rfl rfl
          have hF : Fr 131 ac_ ((Env.nil.put 29 (.slice (some ⟨b71, o72, none⟩) l.length cap2)).put 30 (.int .i64 (((k : Nat) : Int)))) := ((hM.fr.add f29).add f30)
          exact OpVal.draw hF (opIndexAddr rfl rfl slo45 (of_decide_eq_true h17)) ⟨G, fun _ _ h => h, ⟨hg, B21, hC, (fun h => (put_other rfl).trans (hT21 h)), hBx⟩, rfl⟩
        refine dsNone (j := 4) rfl ?_ ?_
        · intro done G w ac_ hd hp hn ⟨hg, B21, hC, hT21, hBx⟩ hM
          have hB := (hBx.sub (List.sublist_append_right _ _))
          have f31 : ac_.tmps[31]? = some (.pointer (some ⟨b71, o72 + k * 3, none⟩)) := hM.eqv 2 rfl (hp 2 rfl) rfl rfl
          have hF : Fr 131 ac_ (Env.nil.put 31 (.pointer (some ⟨b71, o72 + k * 3, none⟩))) := (hM.fr.add f31)
          exact OpVal.draw hF (opFieldAddr rfl fo48_0) ⟨G, fun _ _ h => h, ⟨hg, B21, hC, (fun h => (put_other rfl).trans (hT21 h)), hBx⟩, rfl⟩
        refine dsNone (j := 5) rfl ?_ ?_
        · intro done G w ac_ hd hp hn ⟨hg, B21, hC, hT21, hBx⟩ hM
          have hB := (hBx.sub (List.sublist_append_right _ _))
          replace hr74 := hr74.mono hg
          have f32 : ac_.tmps[32]? = some (.pointer (some ⟨b71, o72 + k * 3, none⟩)) := hM.eqv 3 rfl (hp 3 rfl) rfl rfl
          have hF : Fr 131 ac_ (Env.nil.put 32 (.pointer (some ⟨b71, o72 + k * 3, none⟩))) := (hM.fr.add f32)
          exact OpVal.draw hF (opLoadOne (v := (.int .i64 x69.node)) rfl (RowG.cell0 hC.holds hr74 rfl) one3) ⟨G, fun _ _ h => h, ⟨hg, B21, hC, (fun h => (put_other rfl).trans (hT21 h)), hBx⟩, rfl⟩
        refine dsNone (j := 6) rfl ?_ ?_
        · intro done G w ac_ hd hp hn ⟨hg, B21, hC, hT21, hBx⟩ hM
          have hB := (hBx.sub (List.sublist_append_right _ _))
          have f33 : ac_.tmps[33]? = some (.int .i64 x69.node) := hM.eqv 4 rfl (hp 4 rfl) rfl rfl
          have hF : Fr 131 ac_ (Env.nil.put 33 (.int .i64 x69.node)) := (hM.fr.add f33)
          exact drawCallS hF rfl co11 rfl (bring_ret _ _ hC.holds x69.node 4) (fun w' hk => ⟨G, fun _ _ h => h, ⟨hg, B21, hC.trans hk, (fun h => (put_other rfl).trans (hT21 h)), hBx.ext hk⟩, rfl⟩)
        refine dsNone (j := 7) rfl ?_ ?_
        · intro done G w ac_ hd hp hn ⟨hg, B21, hC, hT21, hBx⟩ hM
          have hB := (hBx.sub (List.sublist_append_right _ _))
          have f34 : ac_.tmps[34]? = some (.int .i64 (((bringI x69.node 4)))) := hM.eqv 5 rfl (hp 5 rfl) rfl rfl
          have hF : Fr 131 ac_ (Env.nil.put 34 (.int .i64 (((bringI x69.node 4))))) := (hM.fr.add f34)
          exact OpVal.draw hF (opAdd rfl rfl) ⟨G, fun _ _ h => h, ⟨hg, B21, hC, (fun h => (put_other rfl).trans (hT21 h)), hBx⟩, rfl⟩
        refine dsNone (j := 8) rfl ?_ ?_
        · intro done G w ac_ hd hp hn ⟨hg, B21, hC, hT21, hBx⟩ hM
          have hB := (hBx.sub (List.sublist_append_right _ _))
          have f0 : ac_.tmps[0]? = some (.slice (some ⟨b71, o72, none⟩) l.length cap2) := hM.old0 rfl rfl
          have hF : Fr 131 ac_ (Env.nil.put 0 (.slice (some ⟨b71, o72, none⟩) l.length cap2)) := (hM.fr.add f0)
          exact OpVal.draw hF (opMove rfl) ⟨G, fun _ _ h => h, ⟨hg, B21, hC, (fun h => (put_other rfl).trans (hT21 h)), hBx⟩, rfl⟩
        refine dsNone (j := 9) rfl ?_ ?_
        · intro done G w ac_ hd hp hn ⟨hg, B21, hC, hT21, hBx⟩ hM
          have hB := (hBx.sub (List.sublist_append_right _ _))
          have f6 : ac_.tmps[6]? = some (.int .i64 (((k : Nat) : Int))) := hM.old0 rfl rfl
          have hF : Fr 131 ac_ (Env.nil.put 6 (.int .i64 (((k : Nat) : Int)))) := (hM.fr.add f6)
          exact OpVal.draw hF (opMove rfl) ⟨G, fun _ _ h => h, ⟨hg, B21, hC, (fun h => (put_other rfl).trans (hT21 h)), hBx⟩, rfl⟩
        refine dsNone (j := 10) rfl ?_ ?_
        · intro done G w ac_ hd hp hn ⟨hg, B21, hC, hT21, hBx⟩ hM
          have hB := (hBx.sub (List.sublist_append_right _ _))
          have f36 : ac_.tmps[36]? = some (.slice (some ⟨b71, o72, none⟩) l.length cap2) := hM.eqv 7 rfl (hp 7 rfl) rfl rfl
          have f37 : ac_.tmps[37]? = some (.int .i64 (((k : Nat) : Int))) := hM.eqv 8 rfl (hp 8 rfl) rfl rfl
          have hF : Fr 131 ac_ ((Env.nil.put 36 (.slice (some ⟨b71, o72, none⟩) l.length cap2)).put 37 (.int .i64 (((k : Nat) : Int)))) := ((hM.fr.add f36).add f37)
          exact OpVal.draw hF (opIndexAddr rfl rfl slo45 (of_decide_eq_true h17)) ⟨G, fun _ _ h => h, ⟨hg, B21, hC, (fun h => (put_other rfl).trans (hT21 h)), hBx⟩, rfl⟩
        refine dsNone (j := 11) rfl ?_ ?_
        · intro done G w ac_ hd hp hn ⟨hg, B21, hC, hT21, hBx⟩ hM
          have hB := (hBx.sub (List.sublist_append_right _ _))
          have f38 : ac_.tmps[38]? = some (.pointer (some ⟨b71, o72 + k * 3, none⟩)) := hM.eqv 9 rfl (hp 9 rfl) rfl rfl
          have hF : Fr 131 ac_ (Env.nil.put 38 (.pointer (some ⟨b71, o72 + k * 3, none⟩))) := (hM.fr.add f38)
          exact OpVal.draw hF (opFieldAddr rfl fo48_1) ⟨G, fun _ _ h => h, ⟨hg, B21, hC, (fun h => (put_other rfl).trans (hT21 h)), hBx⟩, rfl⟩
        refine dsNone (j := 12) rfl ?_ ?_
        · intro done G w ac_ hd hp hn ⟨hg, B21, hC, hT21, hBx⟩ hM
          have hB := (hBx.sub (List.sublist_append_right _ _))
          replace hr74 := hr74.mono hg
          have f39 : ac_.tmps[39]? = some (.pointer (some ⟨b71, o72 + k * 3 + 1, none⟩)) := hM.eqv 10 rfl (hp 10 rfl) rfl rfl
          have hF : Fr 131 ac_ (Env.nil.put 39 (.pointer (some ⟨b71, o72 + k * 3 + 1, none⟩))) := (hM.fr.add f39)
          exact OpVal.draw hF (opLoadOne (v := (.int .i64 x69.seq)) rfl (RowG.cell hC.holds hr74 (j := 1) rfl) one3) ⟨G, fun _ _ h => h, ⟨hg, B21, hC, (fun h => (put_other rfl).trans (hT21 h)), hBx⟩, rfl⟩
        refine dsNone (j := 13) rfl ?_ ?_
        · intro done G w ac_ hd hp hn ⟨hg, B21, hC, hT21, hBx⟩ hM
          have hB := (hBx.sub (List.sublist_append_right _ _))
          have f40 : ac_.tmps[40]? = some (.int .i64 x69.seq) := hM.eqv 11 rfl (hp 11 rfl) rfl rfl
          have hF : Fr 131 ac_ (Env.nil.put 40 (.int .i64 x69.seq)) := (hM.fr.add f40)
          exact drawCallS hF rfl co11 rfl (bring_ret _ _ hC.holds x69.seq 4) (fun w' hk => ⟨G, fun _ _ h => h, ⟨hg, B21, hC.trans hk, (fun h => (put_other rfl).trans (hT21 h)), hBx.ext hk⟩, rfl⟩)
        refine dsNone (j := 14) rfl ?_ ?_
        · intro done G w ac_ hd hp hn ⟨hg, B21, hC, hT21, hBx⟩ hM
          have hB := (hBx.sub (List.sublist_append_right _ _))
          have f41 : ac_.tmps[41]? = some (.int .i64 (((bringI x69.seq 4)))) := hM.eqv 12 rfl (hp 12 rfl) rfl rfl
          have hF : Fr 131 ac_ (Env.nil.put 41 (.int .i64 (((bringI x69.seq 4))))) := (hM.fr.add f41)
          exact OpVal.draw hF (opAdd rfl rfl) ⟨G, fun _ _ h => h, ⟨hg, B21, hC, (fun h => (put_other rfl).trans (hT21 h)), hBx⟩, rfl⟩
        refine dsNone (j := 15) rfl ?_ ?_
        · intro done G w ac_ hd hp hn ⟨hg, B21, hC, hT21, hBx⟩ hM
          have hB := (hBx.sub (List.sublist_append_right _ _))
          have f0 : ac_.tmps[0]? = some (.slice (some ⟨b71, o72, none⟩) l.length cap2) := hM.old0 rfl rfl
          have hF : Fr 131 ac_ (Env.nil.put 0 (.slice (some ⟨b71, o72, none⟩) l.length cap2)) := (hM.fr.add f0)
          exact OpVal.draw hF (opMove rfl) ⟨G, fun _ _ h => h, ⟨hg, B21, hC, (fun h => (put_other rfl).trans (hT21 h)), hBx⟩, rfl⟩
        refine dsNone (j := 16) rfl ?_ ?_
        · intro done G w ac_ hd hp hn ⟨hg, B21, hC, hT21, hBx⟩ hM
          have hB := (hBx.sub (List.sublist_append_right _ _))
          have f6 : ac_.tmps[6]? = some (.int .i64 (((k : Nat) : Int))) := hM.old0 rfl rfl
          have hF : Fr 131 ac_ (Env.nil.put 6 (.int .i64 (((k : Nat) : Int)))) := (hM.fr.add f6)
          exact OpVal.draw hF (opMove rfl) ⟨G, fun _ _ h => h, ⟨hg, B21, hC, (fun h => (put_other rfl).trans (hT21 h)), hBx⟩, rfl⟩
        refine dsNone (j := 17) rfl ?_ ?_
        · intro done G w ac_ hd hp hn ⟨hg, B21, hC, hT21, hBx⟩ hM
          have hB := (hBx.sub (List.sublist_append_right _ _))
          have f43 : ac_.tmps[43]? = some (.slice (some ⟨b71, o72, none⟩) l.length cap2) := hM.eqv 14 rfl (hp 14 rfl) rfl rfl
          have f44 : ac_.tmps[44]? = some (.int .i64 (((k : Nat) : Int))) := hM.eqv 15 rfl (hp 15 rfl) rfl rfl
          have hF : Fr 131 ac_ ((Env.nil.put 43 (.slice (some ⟨b71, o72, none⟩) l.length cap2)).put 44 (.int .i64 (((k : Nat) : Int)))) := ((hM.fr.add f43).add f44)
          exact OpVal.draw hF (opIndexAddr rfl rfl slo45 (of_decide_eq_true h17)) ⟨G, fun _ _ h => h, ⟨hg, B21, hC, (fun h => (put_other rfl).trans (hT21 h)), hBx⟩, rfl⟩
        refine dsNone (j := 18) rfl ?_ ?_
        · intro done G w ac_ hd hp hn ⟨hg, B21, hC, hT21, hBx⟩ hM
          have hB := (hBx.sub (List.sublist_append_right _ _))
          have f45 : ac_.tmps[45]? = some (.pointer (some ⟨b71, o72 + k * 3, none⟩)) := hM.eqv 16 rfl (hp 16 rfl) rfl rfl
          have hF : Fr 131 ac_ (Env.nil.put 45 (.pointer (some ⟨b71, o72 + k * 3, none⟩))) := (hM.fr.add f45)
          exact OpVal.draw hF (opFieldAddr rfl fo48_2) ⟨G, fun _ _ h => h, ⟨hg, B21, hC, (fun h => (put_other rfl).trans (hT21 h)), hBx⟩, rfl⟩
        refine dsNone (j := 19) rfl ?_ ?_
        · intro done G w ac_ hd hp hn ⟨hg, B21, hC, hT21, hBx⟩ hM
          have hB := (hBx.sub (List.sublist_append_right _ _))
          replace hr74 := hr74.mono hg
          have f46 : ac_.tmps[46]? = some (.pointer (some ⟨b71, o72 + k * 3 + 2, none⟩)) := hM.eqv 17 rfl (hp 17 rfl) rfl rfl
          have hF : Fr 131 ac_ (Env.nil.put 46 (.pointer (some ⟨b71, o72 + k * 3 + 2, none⟩))) := (hM.fr.add f46)
          exact OpVal.draw hF (opLoadOne (v := (.int .u8 (((x69.b).toNat : Int)))) rfl (RowG.cell hC.holds hr74 (j := 2) rfl) one5) ⟨G, fun _ _ h => h, ⟨hg, B21, hC, (fun h => (put_other rfl).trans (hT21 h)), hBx⟩, rfl⟩
        refine dsNone (j := 20) rfl ?_ ?_
        · intro done G w ac_ hd hp hn ⟨hg, B21, hC, hT21, hBx⟩ hM
          have hB := (hBx.sub (List.sublist_append_right _ _))
          have f47 : ac_.tmps[47]? = some (.int .u8 (((x69.b).toNat : Int))) := hM.eqv 18 rfl (hp 18 rfl) rfl rfl
          have hF : Fr 131 ac_ (Env.nil.put 47 (.int .u8 (((x69.b).toNat : Int)))) := (hM.fr.add f47)
          exact OpVal.draw hF (opAndU8 (a := x69.b) (b := (1 : UInt8)) rfl rfl) ⟨G, fun _ _ h => h, ⟨hg, B21, hC, (fun h => (put_other rfl).trans (hT21 h)), hBx⟩, rfl⟩
        refine dsNone (j := 21) rfl ?_ ?_
        · intro done G w ac_ hd hp hn ⟨hg, B21, hC, hT21, hBx⟩ hM
          have hB := (hBx.sub (List.sublist_append_right _ _))
          have f35 : ac_.tmps[35]? = some (.int .i64 (IntKind.wrap .i64 (1 + ((bringI x69.node 4))))) := hM.eqv 6 rfl (hp 6 rfl) rfl rfl
          have f42 : ac_.tmps[42]? = some (.int .i64 (IntKind.wrap .i64 (1 + ((bringI x69.seq 4))))) := hM.eqv 13 rfl (hp 13 rfl) rfl rfl
          have f48 : ac_.tmps[48]? = some (.int .u8 ((((x69.b &&& (1 : UInt8))).toNat : Int))) := hM.eqv 19 rfl (hp 19 rfl) rfl rfl
          have hF : Fr 131 ac_ (((Env.nil.put 35 (.int .i64 (IntKind.wrap .i64 (1 + ((bringI x69.node 4)))))).put 42 (.int .i64 (IntKind.wrap .i64 (1 + ((bringI x69.seq 4)))))).put 48 (.int .u8 ((((x69.b &&& (1 : UInt8))).toNat : Int)))) := (((hM.fr.add f35).add f42).add f48)
          exact OpVal.draw hF (opBuild (ps := [(0, .tmp 35), (1, .tmp 42), (2, .tmp 48)]) (cs := [(.int .i64 (IntKind.wrap .i64 (1 + ((bringI x69.node 4))))), (.int .i64 (IntKind.wrap .i64 (1 + ((bringI x69.seq 4))))), (.int .u8 ((((x69.b &&& (1 : UInt8))).toNat : Int)))]) so48 zero48 rfl rfl (by first | (simp [buildCells, Value.cells]; done) | simp [buildCells, Value.cells, Mark.cells, Do.cells, Word.cells])) ⟨G, fun _ _ h => h, ⟨hg, B21, hC, (fun h => (put_other rfl).trans (hT21 h)), hBx⟩, rfl⟩
        refine dsNone (j := 22) rfl ?_ ?_
        · intro done G w ac_ hd hp hn ⟨hg, B21, hC, hT21, hBx⟩ hM
          have hB := (hBx.sub (List.sublist_append_right _ _))
          have hF : Fr 131 ac_ Env.nil := hM.fr
          simp only [hd, cond_false, List.nil_append] at hBx
          exact drawAlloc (cs := [(.int .i64 0), (.int .i64 0), (.int .u8 0)]) hF hC hBx zero48 (fun b w' hC hB => ⟨G, fun _ _ h => h, ⟨hg, b, hC, (fun _ => put_same hM.sz rfl), by simpa [Done.set] using hB⟩, trivial⟩)
        exact dsNil
      · intro done G w ac_ hall htl ⟨hg, b77, hC, hT21, hB⟩ hM
        replace hl := hl.mono hg
        replace h14 := h14.mono hg
        replace hOfit := hOfit.mono hg
        replace hJma := hJma.mono hg
        replace hr74 := hr74.mono hg
        simp only [hall 21 rfl, cond_true] at hB
        have f0 : ac_.tmps[0]? = some (.slice (some ⟨b71, o72, none⟩) l.length cap2) := hM.old0 rfl rfl
        have f3 : ac_.tmps[3]? = some (.pointer (some ⟨b8, 0, none⟩)) := hM.old0 rfl rfl
        have f4 : ac_.tmps[4]? = some (.pointer (some ⟨b15, 0, none⟩)) := hM.old0 rfl rfl
        have f5 : ac_.tmps[5]? = some (.slice fitA fit.length fitC) := hM.old0 rfl rfl
        have f6 : ac_.tmps[6]? = some (.int .i64 (((k : Nat) : Int))) := hM.old0 rfl rfl
        have f7 := hT21 (hall 21 rfl)
        have f49 : ac_.tmps[49]? = some (.agg [(.int .i64 (IntKind.wrap .i64 (1 + ((bringI x69.node 4))))), (.int .i64 (IntKind.wrap .i64 (1 + ((bringI x69.seq 4))))), (.int .u8 ((((x69.b &&& (1 : UInt8))).toNat : Int)))].toArray) := hM.eqv 20 rfl (hall 20 rfl) rfl rfl
        replace hB : Bxs G w w0.heap.size ([(b77, 48, [(.int .i64 0), (.int .i64 0), (.int .u8 0)])] ++ (Option.toList fitO ++ [])) ⟨[], [(b15, o12), (l16, q13), (b8, oa), (l9, qa)]⟩ := hB
        refine ⟨(((((((Env.nil.put 0 (.slice (some ⟨b71, o72, none⟩) l.length cap2)).put 3 (.pointer (some ⟨b8, 0, none⟩))).put 4 (.pointer (some ⟨b15, 0, none⟩))).put 5 (.slice fitA fit.length fitC)).put 6 (.int .i64 (((k : Nat) : Int)))).put 7 (.pointer (some ⟨b77, 0, none⟩))).put 49 (.agg [(.int .i64 (IntKind.wrap .i64 (1 + ((bringI x69.node 4))))), (.int .i64 (IntKind.wrap .i64 (1 + ((bringI x69.seq 4))))), (.int .u8 ((((x69.b &&& (1 : UInt8))).toNat : Int)))].toArray)), (((((((hM.fr.add f0).add f3).add f4).add f5).add f6).add f7).add f49), ?_⟩
        clear hM hall htl
        refine wlStore 0 (vs := [(.int .i64 (IntKind.wrap .i64 (1 + ((bringI x69.node 4))))), (.int .i64 (IntKind.wrap .i64 (1 + ((bringI x69.seq 4))))), (.int .u8 ((((x69.b &&& (1 : UInt8))).toNat : Int)))]) (cs := [(.int .i64 0), (.int .i64 0), (.int .u8 0)]) (cs' := [(.int .i64 (IntKind.wrap .i64 (1 + ((bringI x69.node 4))))), (.int .i64 (IntKind.wrap .i64 (1 + ((bringI x69.seq 4))))), (.int .u8 ((((x69.b &&& (1 : UInt8))).toNat : Int)))]) hC hB rfl rfl rfl sz48 rfl rfl rfl (by simp [Mark.cells, Do.cells, Word.cells]) rfl rfl ?_; intro w hC hB
        replace hB : Bxs G w w0.heap.size ([(b77, 48, [(.int .i64 (IntKind.wrap .i64 (1 + ((bringI x69.node 4))))), (.int .i64 (IntKind.wrap .i64 (1 + ((bringI x69.seq 4))))), (.int .u8 ((((x69.b &&& (1 : UInt8))).toNat : Int)))])] ++ (Option.toList fitO ++ [])) ⟨[], [(b15, o12), (l16, q13), (b8, oa), (l9, qa)]⟩ := hB
        refine wlThen ?_
        refine wcSeq ?_
        refine wcDrawT 8 fmix (by kernel_rfl) (by kernel_rfl) (by kernel_rfl) (by kernel_rfl) (vAt [(fun _ v_ => v_ = (.pointer (some ⟨b8, 0, none⟩))), (fun _ v_ => v_ = (.pointer (some ⟨b77, 0, none⟩))), (fun _ v_ => v_ = (.int .i64 (IntKind.wrap .i64 (1 + ((bringI x69.node 4)))))), (fun _ v_ => v_ = (.pointer (some ⟨b77, 1, none⟩))), (fun _ v_ => v_ = (.int .i64 (IntKind.wrap .i64 (1 + ((bringI x69.seq 4)))))), (fun _ v_ => v_ = (.pointer (some ⟨b77, 2, none⟩))), (fun _ v_ => v_ = (.int .u8 ((((x69.b &&& (1 : UInt8))).toNat : Int)))), (fun _ v_ => v_ = (.agg (((markI (IntKind.wrap .i64 (1 + ((bringI x69.seq 4)))) ((x69.b &&& (1 : UInt8)))))).cells.toArray))]) (fun _ _ G' w => Cx w0 G0 G' w ⟨[], [(b15, o12), (l16, q13), (b8, oa), (l9, qa)]⟩ ∧ Bxs G' w w0.heap.size ([(b77, 48, [(.int .i64 (IntKind.wrap .i64 (1 + ((bringI x69.node 4))))), (.int .i64 (IntKind.wrap .i64 (1 + ((bringI x69.seq 4))))), (.int .u8 ((((x69.b &&& (1 : UInt8))).toNat : Int)))])] ++ (Option.toList fitO ++ [])) ⟨[], [(b15, o12), (l16, q13), (b8, oa), (l9, qa)]⟩ ∧ GLe G G') G (vAt_mono ⟨fun _ _ _ _ h => h, fun _ _ _ _ h => h, fun _ _ _ _ h => h, fun _ _ _ _ h => h, fun _ _ _ _ h => h, fun _ _ _ _ h => h, fun _ _ _ _ h => h, fun _ _ _ _ h => h, trivial⟩) (fun _ _ => ⟨hC.drew, hB.drew, fun _ _ h => h⟩) ?_ ?_
        · refine dsNone (j := 1) rfl ?_ ?_
          · intro done G w ac_ hd hp hn ⟨hC, hB, hg⟩ hM
            have f3 : ac_.tmps[3]? = some (.pointer (some ⟨b8, 0, none⟩)) := hM.old0 rfl rfl
            have hF : Fr 131 ac_ (Env.nil.put 3 (.pointer (some ⟨b8, 0, none⟩))) := (hM.fr.add f3)
            exact OpVal.draw hF (opMove rfl) ⟨G, fun _ _ h => h, ⟨hC, hB, hg⟩, rfl⟩
          refine dsNone (j := 2) rfl ?_ ?_
          · intro done G w ac_ hd hp hn ⟨hC, hB, hg⟩ hM
            have f7 : ac_.tmps[7]? = some (.pointer (some ⟨b77, 0, none⟩)) := hM.old0 rfl rfl
            have hF : Fr 131 ac_ (Env.nil.put 7 (.pointer (some ⟨b77, 0, none⟩))) := (hM.fr.add f7)
            exact OpVal.draw hF (opFieldAddr rfl fo48_0) ⟨G, fun _ _ h => h, ⟨hC, hB, hg⟩, rfl⟩
          refine dsNone (j := 3) rfl ?_ ?_
          · intro done G w ac_ hd hp hn ⟨hC, hB, hg⟩ hM
            have f51 : ac_.tmps[51]? = some (.pointer (some ⟨b77, 0, none⟩)) := hM.eqv 1 rfl (hp 1 rfl) rfl rfl
            have hF : Fr 131 ac_ (Env.nil.put 51 (.pointer (some ⟨b77, 0, none⟩))) := (hM.fr.add f51)
            exact OpVal.draw hF (opLoadOne (v := (.int .i64 (IntKind.wrap .i64 (1 + ((bringI x69.node 4)))))) rfl (hB.cell (i := 0) rfl rfl) one3) ⟨G, fun _ _ h => h, ⟨hC, hB, hg⟩, rfl⟩
          refine dsNone (j := 4) rfl ?_ ?_
          · intro done G w ac_ hd hp hn ⟨hC, hB, hg⟩ hM
            have f7 : ac_.tmps[7]? = some (.pointer (some ⟨b77, 0, none⟩)) := hM.old0 rfl rfl
            have hF : Fr 131 ac_ (Env.nil.put 7 (.pointer (some ⟨b77, 0, none⟩))) := (hM.fr.add f7)
            exact OpVal.draw hF (opFieldAddr rfl fo48_1) ⟨G, fun _ _ h => h, ⟨hC, hB, hg⟩, rfl⟩
          refine dsNone (j := 5) rfl ?_ ?_
          · intro done G w ac_ hd hp hn ⟨hC, hB, hg⟩ hM
            have f53 : ac_.tmps[53]? = some (.pointer (some ⟨b77, 1, none⟩)) := hM.eqv 3 rfl (hp 3 rfl) rfl rfl
            have hF : Fr 131 ac_ (Env.nil.put 53 (.pointer (some ⟨b77, 1, none⟩))) := (hM.fr.add f53)
            exact OpVal.draw hF (opLoadOne (v := (.int .i64 (IntKind.wrap .i64 (1 + ((bringI x69.seq 4)))))) rfl (hB.cell (i := 0) rfl rfl) one3) ⟨G, fun _ _ h => h, ⟨hC, hB, hg⟩, rfl⟩
          refine dsNone (j := 6) rfl ?_ ?_
          · intro done G w ac_ hd hp hn ⟨hC, hB, hg⟩ hM
            have f7 : ac_.tmps[7]? = some (.pointer (some ⟨b77, 0, none⟩)) := hM.old0 rfl rfl
            have hF : Fr 131 ac_ (Env.nil.put 7 (.pointer (some ⟨b77, 0, none⟩))) := (hM.fr.add f7)
            exact OpVal.draw hF (opFieldAddr rfl fo48_2) ⟨G, fun _ _ h => h, ⟨hC, hB, hg⟩, rfl⟩
          refine dsNone (j := 7) rfl ?_ ?_
          · intro done G w ac_ hd hp hn ⟨hC, hB, hg⟩ hM
            have f55 : ac_.tmps[55]? = some (.pointer (some ⟨b77, 2, none⟩)) := hM.eqv 5 rfl (hp 5 rfl) rfl rfl
            have hF : Fr 131 ac_ (Env.nil.put 55 (.pointer (some ⟨b77, 2, none⟩))) := (hM.fr.add f55)
            exact OpVal.draw hF (opLoadOne (v := (.int .u8 ((((x69.b &&& (1 : UInt8))).toNat : Int)))) rfl (hB.cell (i := 0) rfl rfl) one5) ⟨G, fun _ _ h => h, ⟨hC, hB, hg⟩, rfl⟩
          refine dsNone (j := 8) rfl ?_ ?_
          · intro done G w ac_ hd hp hn ⟨hC, hB, hg⟩ hM
            have f54 : ac_.tmps[54]? = some (.int .i64 (IntKind.wrap .i64 (1 + ((bringI x69.seq 4))))) := hM.eqv 4 rfl (hp 4 rfl) rfl rfl
            have f56 : ac_.tmps[56]? = some (.int .u8 ((((x69.b &&& (1 : UInt8))).toNat : Int))) := hM.eqv 6 rfl (hp 6 rfl) rfl rfl
            have hF : Fr 131 ac_ ((Env.nil.put 54 (.int .i64 (IntKind.wrap .i64 (1 + ((bringI x69.seq 4)))))).put 56 (.int .u8 ((((x69.b &&& (1 : UInt8))).toNat : Int)))) := ((hM.fr.add f54).add f56)
            exact drawCallS hF rfl co19 rfl (mark_ret _ _ hC.holds (IntKind.wrap .i64 (1 + ((bringI x69.seq 4)))) ((x69.b &&& (1 : UInt8)))) (fun w' hk => ⟨G, fun _ _ h => h, ⟨hC.trans hk, hB.ext hk, hg⟩, rfl⟩)
          exact dsNil
        · intro done G w ac_ hall htl ⟨hC, hB, hg⟩ hM
          replace hl := hl.mono hg
          replace h14 := h14.mono hg
          replace hOfit := hOfit.mono hg
          replace hJma := hJma.mono hg
          replace hr74 := hr74.mono hg
          have f0 : ac_.tmps[0]? = some (.slice (some ⟨b71, o72, none⟩) l.length cap2) := hM.old0 rfl rfl
          have f3 : ac_.tmps[3]? = some (.pointer (some ⟨b8, 0, none⟩)) := hM.old0 rfl rfl
          have f4 : ac_.tmps[4]? = some (.pointer (some ⟨b15, 0, none⟩)) := hM.old0 rfl rfl
          have f5 : ac_.tmps[5]? = some (.slice fitA fit.length fitC) := hM.old0 rfl rfl
          have f6 : ac_.tmps[6]? = some (.int .i64 (((k : Nat) : Int))) := hM.old0 rfl rfl
          have f7 : ac_.tmps[7]? = some (.pointer (some ⟨b77, 0, none⟩)) := hM.old0 rfl rfl
          have f50 : ac_.tmps[50]? = some (.pointer (some ⟨b8, 0, none⟩)) := hM.eqv 0 rfl (hall 0 rfl) rfl rfl
          have f52 : ac_.tmps[52]? = some (.int .i64 (IntKind.wrap .i64 (1 + ((bringI x69.node 4))))) := hM.eqv 2 rfl (hall 2 rfl) rfl rfl
          have f57 : ac_.tmps[57]? = some (.agg (((markI (IntKind.wrap .i64 (1 + ((bringI x69.seq 4)))) ((x69.b &&& (1 : UInt8)))))).cells.toArray) := hM.eqv 7 rfl (hall 7 rfl) rfl rfl
          refine ⟨(((((((((Env.nil.put 0 (.slice (some ⟨b71, o72, none⟩) l.length cap2)).put 3 (.pointer (some ⟨b8, 0, none⟩))).put 4 (.pointer (some ⟨b15, 0, none⟩))).put 5 (.slice fitA fit.length fitC)).put 6 (.int .i64 (((k : Nat) : Int)))).put 7 (.pointer (some ⟨b77, 0, none⟩))).put 50 (.pointer (some ⟨b8, 0, none⟩))).put 52 (.int .i64 (IntKind.wrap .i64 (1 + ((bringI x69.node 4)))))).put 57 (.agg (((markI (IntKind.wrap .i64 (1 + ((bringI x69.seq 4)))) ((x69.b &&& (1 : UInt8)))))).cells.toArray)), (((((((((hM.fr.add f0).add f3).add f4).add f5).add f6).add f7).add f50).add f52).add f57), ?_⟩
          clear hM hall htl
          refine wlCallM (A := [(b15, o12), (l16, q13)]) (O := [(b8, oa), (l9, qa)]) (B := []) hC hB rfl co12 rfl rfl (vote_ret _ _ hC.holds b8 l9 _ _ ma ⟨hC.heldAt 2 rfl, hC.heldG 2 rfl⟩ ⟨hC.heldAt 3 rfl, hC.heldG 3 rfl⟩ (by have e_ := hC.hnd; simp at e_; omega) hJma (IntKind.wrap .i64 (1 + ((bringI x69.node 4)))) (((markI (IntKind.wrap .i64 (1 + ((bringI x69.seq 4)))) ((x69.b &&& (1 : UInt8))))))) ?_; rintro v78 G O79 w hg hC hB ⟨o80, q81, rfl, h82, rfl⟩
          replace hl := hl.mono hg; replace h14 := h14.mono hg; replace hOfit := hOfit.mono hg; replace hr74 := hr74.mono hg
          replace hC : Cx w0 G0 G w ⟨[], [(b15, o12), (l16, q13), (b8, o80), (l9, q81)]⟩ := hC
          replace hB : Bxs G w w0.heap.size ([(b77, 48, [(.int .i64 (IntKind.wrap .i64 (1 + ((bringI x69.node 4))))), (.int .i64 (IntKind.wrap .i64 (1 + ((bringI x69.seq 4))))), (.int .u8 ((((x69.b &&& (1 : UInt8))).toNat : Int)))])] ++ (Option.toList fitO ++ [])) ⟨[], [(b15, o12), (l16, q13), (b8, o80), (l9, q81)]⟩ := hB
          refine wlVal (opEql rfl rfl) rfl ?_
          refine wlThen ?_
          cases h83 : (((voteM ma (IntKind.wrap .i64 (1 + ((bringI x69.node 4)))) (((markI (IntKind.wrap .i64 (1 + ((bringI x69.seq 4)))) ((x69.b &&& (1 : UInt8))))))).2)) == 0
          · skip
            refine wcCondF rfl ?_
            refine wcSkip ?_
            refine wcOf ?_
            refine wcRegion ?_
            refine wlVal (opMove rfl) rfl ?_
            refine wlVal (opIncr rfl rfl (incr_ok (of_decide_eq_true h17) hl.le)) rfl ?_
            refine wlVal (opAssign rfl) rfl ?_
            refine wlRound ?_
            exact (IH0 (k + 1, fitA, fitC, fitO, fit, o80, q81, ((voteM ma (IntKind.wrap .i64 (1 + ((bringI x69.node 4)))) (((markI (IntKind.wrap .i64 (1 + ((bringI x69.seq 4)))) ((x69.b &&& (1 : UInt8))))))).1)) _ _ ⟨hC, hB.tail, hl, h14, hOfit, h82, (of_decide_eq_true h43), (by omega), (ord_stay hJ h83)⟩ (by have := of_decide_eq_true h17; show l.length - (k + 1) < l.length - k; omega)).sub (fun _ ha => (((((ha.start.cons ha (t := 0) rfl).cons ha (t := 3) rfl).cons ha (t := 4) rfl).cons ha (t := 5) rfl).cons ha (t := 6) rfl))
          · skip
            refine wcCondT rfl ?_
            refine wcRegion ?_
            refine wlVal (opMove rfl) rfl ?_
            refine wlVal (opLoadRow (cs := [(.int .i64 (IntKind.wrap .i64 (1 + ((bringI x69.node 4))))), (.int .i64 (IntKind.wrap .i64 (1 + ((bringI x69.seq 4))))), (.int .u8 ((((x69.b &&& (1 : UInt8))).toNat : Int)))]) rfl (hB.range (i := 0) (m := 3) rfl rfl) row48 rfl) rfl ?_
            refine wlBuildSlice (α := Word) (ps := [(0, .tmp 61)]) (xs := [(Word.mk (IntKind.wrap .i64 (1 + ((bringI x69.node 4)))) (IntKind.wrap .i64 (1 + ((bringI x69.seq 4)))) ((x69.b &&& (1 : UInt8))))]) (rows := [[(.int .i64 (IntKind.wrap .i64 (1 + ((bringI x69.node 4))))), (.int .i64 (IntKind.wrap .i64 (1 + ((bringI x69.seq 4))))), (.int .u8 ((((x69.b &&& (1 : UInt8))).toNat : Int)))]]) elo45 rfl rfl hC hB rfl rfl rfl ⟨rfl, trivial⟩ rfl ?_; intro b84 G w hk hC hB hs85
            replace hl := hl.mono hk.gle; replace h14 := h14.mono hk.gle; replace hOfit := hOfit.mono hk.gle; replace hr74 := hr74.mono hk.gle; replace h82 := h82.mono hk.gle
            refine wlAppend (α := Word) (bl := [(b77, 48, [(.int .i64 (IntKind.wrap .i64 (1 + ((bringI x69.node 4))))), (.int .i64 (IntKind.wrap .i64 (1 + ((bringI x69.seq 4))))), (.int .u8 ((((x69.b &&& (1 : UInt8))).toNat : Int)))])]) (o := fitO) (r := []) elo45 hC hB rfl rfl hOfit hs85 (by simp; have z := hfl; omega) rfl rfl ?_; intro A86 cap87 o88 w hC hB hO89
            refine wlVal (opAssign rfl) rfl ?_
            refine wlNil ?_
            refine wcOf ?_
            refine wcRegion ?_
            refine wlVal (opMove rfl) rfl ?_
            refine wlVal (opIncr rfl rfl (incr_ok (of_decide_eq_true h17) hl.le)) rfl ?_
            refine wlVal (opAssign rfl) rfl ?_
            refine wlRound ?_
            exact (IH0 (k + 1, A86, cap87, o88, (fit ++ [(Word.mk (IntKind.wrap .i64 (1 + ((bringI x69.node 4)))) (IntKind.wrap .i64 (1 + ((bringI x69.seq 4)))) ((x69.b &&& (1 : UInt8))))]), o80, q81, ((voteM ma (IntKind.wrap .i64 (1 + ((bringI x69.node 4)))) (((markI (IntKind.wrap .i64 (1 + ((bringI x69.seq 4)))) ((x69.b &&& (1 : UInt8))))))).1)) _ _ ⟨hC, hB.tail, hl, h14, hO89, h82, (of_decide_eq_true h43), (by simp; omega), (ord_step hJ h83)⟩ (by have := of_decide_eq_true h17; show l.length - (k + 1) < l.length - k; omega)).sub (fun _ ha => (((((ha.start.cons ha (t := 0) rfl).cons ha (t := 3) rfl).cons ha (t := 4) rfl).cons ha (t := 5) rfl).cons ha (t := 6) rfl))

end Go.Proofs.Ytbmanooiphghmaa
