/- What functions of the marks seat return, part 11. No condition. -/
import Derived.Test.YtbmanooiphghmaaMkG10
set_option linter.all false
namespace Go.Proofs.Ytbmanooiphghmaa
open Go Go.Gx Go.RowKit
def aw0 : MSt := ((MSt.mk (crewI 1) (Mark.mk 0 Dig.zero) []))
def aw1 : MSt := ((voteM aw0 1 (((markI 4 ((1 : UInt8)))))).1)
def aw2 : MSt := ((voteM aw1 2 (((markI 4 ((1 : UInt8)))))).1)
def aw3 : MSt := ((voteM aw2 3 (((markI 4 ((2 : UInt8)))))).1)
def aw4 : MSt := ((voteM aw3 3 (((markI 4 ((1 : UInt8)))))).1)
def aw5 : MSt := ((voteM aw4 4 (((markI 4 ((1 : UInt8)))))).1)
def aw6 : MSt := ((voteM aw5 2 (((markI 8 ((3 : UInt8)))))).1)
def aw7 : MSt := ((voteM aw6 1 (((markI 8 ((3 : UInt8)))))).1)
def aw8 : MSt := ((raiseM aw7 (((markI 4 ((1 : UInt8)))))).1)
theorem newok1 : newOk (crewI 1) (Mark.mk 0 Dig.zero) = true := by kernel_rfl
theorem co26 : callOk Try.prog 26 = true := by kernel_rfl
theorem co9 : callOk Try.prog 9 = true := by kernel_rfl
theorem co18 : callOk Try.prog 18 = true := by kernel_rfl
theorem co19 : callOk Try.prog 19 = true := by kernel_rfl
theorem co12 : callOk Try.prog 12 = true := by kernel_rfl
theorem cl17_116 : (((gR (lists aw2) (some_ aw2.crew)).2)) = true := by kernel_rfl
theorem cl17_117 : (((gR (lists aw2) (most aw2.crew)).2)) = false := by kernel_rfl
theorem cl17_118 : (((gR (lists aw5) (most aw5.crew)).2)) = true := by kernel_rfl
theorem cl17_119 : ((((voteM aw0 1 (((markI 4 ((1 : UInt8)))))).2)) != 0) = false := by kernel_rfl
theorem cl17_120 : ((((voteM aw1 2 (((markI 4 ((1 : UInt8)))))).2)) != 0) = false := by kernel_rfl
theorem cl17_121 : ((((voteM aw2 3 (((markI 4 ((2 : UInt8)))))).2)) != 0) = false := by kernel_rfl
theorem cl17_122 : ((((voteM aw3 3 (((markI 4 ((1 : UInt8)))))).2)) != 151) = false := by kernel_rfl
theorem cl17_123 : ((((voteM aw4 4 (((markI 4 ((1 : UInt8)))))).2)) != 0) = false := by kernel_rfl
theorem cl17_124 : (((true && decide ((((gR (lists aw2) (some_ aw2.crew)).1)) = (((markI 4 ((1 : UInt8))))))))) = true := by kernel_rfl
theorem co25 : callOk Try.prog 25 = true := by kernel_rfl
theorem cl17_126 : (((true && decide ((((gR (lists aw5) (most aw5.crew)).1)) = (((markI 4 ((1 : UInt8))))))))) = true := by kernel_rfl
theorem cl17_127 : (((gR (lists aw7) (some_ aw7.crew)).2)) = true := by kernel_rfl
theorem co14 : callOk Try.prog 14 = true := by kernel_rfl
theorem cl17_129 : (((gR (lists aw8) (most aw8.crew)).2)) = false := by kernel_rfl
theorem cl17_132 : (((true && decide ((((gR (lists aw7) (some_ aw7.crew)).1)) = (((markI 8 ((3 : UInt8))))))))) = true := by kernel_rfl
theorem cl17_133 : ((((raiseM aw7 (((markI 4 ((1 : UInt8)))))).2)) == 0) = true := by kernel_rfl
theorem cl17_134 : ((decide (((((mget aw8.list 2).getD []))) = ([((markI 8 ((3 : UInt8))))])))) = true := by kernel_rfl
theorem cl17_135 : (decide (aw8.low = ((markI 4 ((1 : UInt8)))))) = true := by kernel_rfl
theorem fresh1_ret (G0 : Gh) (w0 : World) (hw : Holds G0 w0)  :
    RetN Try.prog 18 #[.int .i64 1] G0 w0 (fun G L v => ∃ b l o q, L = [(b, o), (l, q)] ∧ MarksO G o q l ((MSt.mk (crewI 1) (Mark.mk 0 Dig.zero) [])) ∧ v = (.pointer (some ⟨b, 0, none⟩))) := by
  have hC := Cx.refl hw
  have hB : Bxs G0 w0 w0.heap.size [] := Bxs.nil _ _ _
  refine callsOf Try.func18 rfl _ Try.ntmps18 rfl _ (argsCons argsNil (t := 0) rfl) ?_; intro Q0 hQ
  refine wcSeq ?_
  refine wcRegion ?_
  refine wlVal (opAssign rfl) rfl ?_
  refine wlThen ?_
  refine wcSeq ?_
  refine wcRegion ?_
  refine wlVal (opMove rfl) rfl ?_
  refine wlCallG hC hB rfl co26 rfl rfl (crewOf1_ret _ _ hC.holds ) ?_; rintro v3 G w hk hC hB ⟨r1, rfl, hr2⟩
  obtain ⟨v4, rfl, hs5⟩ := Crew.opIs hr2
  obtain ⟨A6, cap7, rfl⟩ := hs5.form
  refine wlVal (opBuild (ps := []) (cs := ((.int .i64 0) :: (Dig.zero.cells ++ []))) so28 zero28 rfl rfl (by first | (simp [buildCells, Value.cells]; done) | simp [buildCells, Value.cells, Mark.cells, Do.cells, Word.cells])) rfl ?_
  refine wlCallN (m := []) (B := []) hC hB rfl co9 rfl rfl (new_ok _ _ hC.holds _ (((crewI 1))) (Crew.mkIs (x := ((crewI 1))) hs5) ((Mark.mk 0 Dig.zero)) newok1) ?_; rintro v8 G O9 w hg hC hB ⟨b13, l14, o10, q11, rfl, h12, rfl⟩
  replace hs5 := hs5.mono hg
  replace hC : Cx w0 G0 G w ⟨[], [(b13, o10), (l14, q11)]⟩ := hC
  replace hB : Bxs G w w0.heap.size [] ⟨[], [(b13, o10), (l14, q11)]⟩ := hB
  refine wlVal (opMove rfl) rfl ?_
  refine wlVal (opExtract rfl rfl) rfl ?_
  refine wlVal (opExtract rfl rfl) rfl ?_
  refine wlVal (opAssign rfl) rfl ?_
  refine wlVal (opAssign rfl) rfl ?_
  refine wlThen ?_
  refine wcSeq ?_
  refine wcRegion ?_
  refine wlVal (opMove rfl) rfl ?_
  refine wlVal (opAssign rfl) rfl ?_
  refine wlThen ?_
  refine wcRet ?_
  exact fun ac_ ha => hQ _ _ _ (results1 ha rfl rfl) ha.df (endN hC [(b13, o10), (l14, q11)] (.cons₂ _ (.cons₂ _ .slnil)) ⟨_, _, _, _, rfl, (by have e_ : (MSt.mk (crewI 1) (Mark.mk 0 Dig.zero) []) = ((MSt.mk (((crewI 1))) ((Mark.mk 0 Dig.zero)) [])) := rfl; rw [e_]; exact h12), rfl⟩)

set_option maxRecDepth 20000 in
theorem awake_ret (G0 : Gh) (w0 : World) (hw : Holds G0 w0)  :
    RetS Try.prog 17 #[] G0 w0 (.bool true) := by
  have hC := Cx.refl hw
  have hB : Bxs G0 w0 w0.heap.size [] := Bxs.nil _ _ _
  refine callsOf Try.func17 rfl _ Try.ntmps17 rfl _ argsNil ?_; intro Q0 hQ
  refine wcSeq ?_
  refine wcRegion ?_
  refine wlVal (opAssign rfl) rfl ?_
  refine wlThen ?_
  refine wcSeq ?_
  refine wcRegion ?_
  refine wlCallN (m := []) (B := []) hC hB rfl co18 rfl rfl (fresh1_ret _ _ hC.holds ) ?_; rintro v1 G O2 w hg hC hB ⟨b6, l7, o3, q4, rfl, h5, rfl⟩
  replace hC : Cx w0 G0 G w ⟨[], [(b6, o3), (l7, q4)]⟩ := hC
  replace hB : Bxs G w w0.heap.size [] ⟨[], [(b6, o3), (l7, q4)]⟩ := hB
  refine wlVal (opAssign rfl) rfl ?_
  refine wlThen ?_
  refine wcSeq ?_
  refine wcRegion ?_
  refine wlCallS hC hB rfl co19 rfl rfl (mark_ret _ _ hC.holds 4 ((1 : UInt8))) ?_; intro w hk hC hB
  refine wlCallS hC hB rfl co19 rfl rfl (mark_ret _ _ hC.holds 8 ((3 : UInt8))) ?_; intro w hk hC hB
  refine wlAlloc hC hB zero28 rfl ?_; intro b8 w hk hC hB
  refine wlAlloc hC hB zero28 rfl ?_; intro b9 w hk hC hB
  refine wlStore 1 (vs := (((markI 4 ((1 : UInt8))))).cells) (cs := ((.int .i64 0) :: (Dig.zero.cells ++ []))) (cs' := (((markI 4 ((1 : UInt8))))).cells) hC hB rfl rfl rfl sz28 rfl (by simp [Mark.cells, Do.cells, Word.cells]) (by simp [Mark.cells, Do.cells, Word.cells, Value.oneCell']) (by simp [Mark.cells, Do.cells, Word.cells]) (by simp [Mark.cells, Do.cells, Word.cells]) rfl ?_; intro w hC hB
  refine wlStore 0 (vs := (((markI 8 ((3 : UInt8))))).cells) (cs := ((.int .i64 0) :: (Dig.zero.cells ++ []))) (cs' := (((markI 8 ((3 : UInt8))))).cells) hC hB rfl rfl rfl sz28 rfl (by simp [Mark.cells, Do.cells, Word.cells]) (by simp [Mark.cells, Do.cells, Word.cells, Value.oneCell']) (by simp [Mark.cells, Do.cells, Word.cells]) (by simp [Mark.cells, Do.cells, Word.cells]) rfl ?_; intro w hC hB
  refine wlThen ?_
  refine wcSeq ?_
  refine wcRegion ?_
  refine wlVal (opMove rfl) rfl ?_
  refine wlVal (opLoadRow (cs := (((markI 4 ((1 : UInt8))))).cells) rfl (hB.range (i := 1) (m := 33) rfl (by simp [Mark.cells, Do.cells, Word.cells])) row28 (by simp [Mark.cells, Do.cells, Word.cells])) rfl ?_
  refine wlCallM (A := []) (O := [(b6, o3), (l7, q4)]) (B := []) hC hB rfl co12 rfl rfl (vote_ret _ _ hC.holds b6 l7 _ _ aw0 ⟨hC.heldAt 0 rfl, hC.heldG 0 rfl⟩ ⟨hC.heldAt 1 rfl, hC.heldG 1 rfl⟩ (by have e_ := hC.hnd; simp at e_; omega) h5 1 (((markI 4 ((1 : UInt8)))))) ?_; rintro v10 G O11 w hg hC hB ⟨o12, q13, rfl, h14, rfl⟩
  replace hC : Cx w0 G0 G w ⟨[], [(b6, o12), (l7, q13)]⟩ := hC
  replace hB : Bxs G w w0.heap.size [(b9, 28, (((markI 8 ((3 : UInt8))))).cells), (b8, 28, (((markI 4 ((1 : UInt8))))).cells)] ⟨[], [(b6, o12), (l7, q13)]⟩ := hB
  refine wlVal (opAssign rfl) rfl ?_
  refine wlThen ?_
  refine wcSeq ?_
  refine wcRegion ?_
  refine wlVal (opMove rfl) rfl ?_
  refine wlVal (opLoadRow (cs := (((markI 4 ((1 : UInt8))))).cells) rfl (hB.range (i := 1) (m := 33) rfl (by simp [Mark.cells, Do.cells, Word.cells])) row28 (by simp [Mark.cells, Do.cells, Word.cells])) rfl ?_
  refine wlCallM (A := []) (O := [(b6, o12), (l7, q13)]) (B := []) hC hB rfl co12 rfl rfl (vote_ret _ _ hC.holds b6 l7 _ _ aw1 ⟨hC.heldAt 0 rfl, hC.heldG 0 rfl⟩ ⟨hC.heldAt 1 rfl, hC.heldG 1 rfl⟩ (by have e_ := hC.hnd; simp at e_; omega) h14 2 (((markI 4 ((1 : UInt8)))))) ?_; rintro v15 G O16 w hg hC hB ⟨o17, q18, rfl, h19, rfl⟩
  replace hC : Cx w0 G0 G w ⟨[], [(b6, o17), (l7, q18)]⟩ := hC
  replace hB : Bxs G w w0.heap.size [(b9, 28, (((markI 8 ((3 : UInt8))))).cells), (b8, 28, (((markI 4 ((1 : UInt8))))).cells)] ⟨[], [(b6, o17), (l7, q18)]⟩ := hB
  refine wlVal (opAssign rfl) rfl ?_
  refine wlThen ?_
  refine wcSeq ?_
  refine wcRegion ?_
  refine wlVal (opMove rfl) rfl ?_
  refine wlCallS hC hB rfl co21 rfl rfl (RetS.lend hC (fun G_ hg_ hh_ hL_ => known_ret _ _ hh_ b6 l7 _ _ aw2 (hL_ (b6, o17) (by simp)) (hL_ (l7, q18) (by simp)) (show MarksO G_ o17 q18 l7 aw2 from (h19.mono hg_)))) ?_; intro w hk hC hB
  refine wlVal (opMove rfl) rfl ?_
  refine wlVal (opExtract rfl rfl) rfl ?_
  refine wlVal (OpVal.cast (opExtract rfl rfl) (congrArg Value.bool cl17_116)) rfl ?_
  refine wlAlloc hC hB zero28 rfl ?_; intro b20 w hk hC hB
  refine wlStore 0 (vs := (((gR (lists aw2) (some_ aw2.crew)).1)).cells) (cs := ((.int .i64 0) :: (Dig.zero.cells ++ []))) (cs' := (((gR (lists aw2) (some_ aw2.crew)).1)).cells) hC hB rfl rfl rfl sz28 rfl (by simp [Mark.cells, Do.cells, Word.cells]) (by simp [Mark.cells, Do.cells, Word.cells, Value.oneCell']) (by simp [Mark.cells, Do.cells, Word.cells]) (by simp [Mark.cells, Do.cells, Word.cells]) rfl ?_; intro w hC hB
  refine wlVal (opAssign rfl) rfl ?_
  refine wlThen ?_
  refine wcSeq ?_
  refine wcRegion ?_
  refine wlVal (opMove rfl) rfl ?_
  refine wlCallS hC hB rfl co20 rfl rfl (RetS.lend hC (fun G_ hg_ hh_ hL_ => stable_ret _ _ hh_ b6 l7 _ _ aw2 (hL_ (b6, o17) (by simp)) (hL_ (l7, q18) (by simp)) (show MarksO G_ o17 q18 l7 aw2 from (h19.mono hg_)))) ?_; intro w hk hC hB
  refine wlVal (opMove rfl) rfl ?_
  refine wlVal (opExtract rfl rfl) rfl ?_
  refine wlVal (OpVal.cast (opExtract rfl rfl) (congrArg Value.bool cl17_117)) rfl ?_
  refine wlAlloc hC hB zero28 rfl ?_; intro b21 w hk hC hB
  refine wlStore 0 (vs := (((gR (lists aw2) (most aw2.crew)).1)).cells) (cs := ((.int .i64 0) :: (Dig.zero.cells ++ []))) (cs' := (((gR (lists aw2) (most aw2.crew)).1)).cells) hC hB rfl rfl rfl sz28 rfl (by simp [Mark.cells, Do.cells, Word.cells]) (by simp [Mark.cells, Do.cells, Word.cells, Value.oneCell']) (by simp [Mark.cells, Do.cells, Word.cells]) (by simp [Mark.cells, Do.cells, Word.cells]) rfl ?_; intro w hC hB
  refine wlVal (opAssign rfl) rfl ?_
  refine wlThen ?_
  refine wcSeq ?_
  refine wcRegion ?_
  refine wlVal (opMove rfl) rfl ?_
  refine wlCallS hC hB rfl co19 rfl rfl (mark_ret _ _ hC.holds 4 ((2 : UInt8))) ?_; intro w hk hC hB
  refine wlCallM (A := []) (O := [(b6, o17), (l7, q18)]) (B := []) hC hB rfl co12 rfl rfl (vote_ret _ _ hC.holds b6 l7 _ _ aw2 ⟨hC.heldAt 0 rfl, hC.heldG 0 rfl⟩ ⟨hC.heldAt 1 rfl, hC.heldG 1 rfl⟩ (by have e_ := hC.hnd; simp at e_; omega) h19 3 (((markI 4 ((2 : UInt8)))))) ?_; rintro v22 G O23 w hg hC hB ⟨o24, q25, rfl, h26, rfl⟩
  replace hC : Cx w0 G0 G w ⟨[], [(b6, o24), (l7, q25)]⟩ := hC
  replace hB : Bxs G w w0.heap.size [(b21, 28, (((gR (lists aw2) (most aw2.crew)).1)).cells), (b20, 28, (((gR (lists aw2) (some_ aw2.crew)).1)).cells), (b9, 28, (((markI 8 ((3 : UInt8))))).cells), (b8, 28, (((markI 4 ((1 : UInt8))))).cells)] ⟨[], [(b6, o24), (l7, q25)]⟩ := hB
  refine wlVal (opAssign rfl) rfl ?_
  refine wlThen ?_
  refine wcSeq ?_
  refine wcRegion ?_
  refine wlVal (opMove rfl) rfl ?_
  refine wlVal (opLoadRow (cs := (((markI 4 ((1 : UInt8))))).cells) rfl (hB.range (i := 3) (m := 33) rfl (by simp [Mark.cells, Do.cells, Word.cells])) row28 (by simp [Mark.cells, Do.cells, Word.cells])) rfl ?_
  refine wlCallM (A := []) (O := [(b6, o24), (l7, q25)]) (B := []) hC hB rfl co12 rfl rfl (vote_ret _ _ hC.holds b6 l7 _ _ aw3 ⟨hC.heldAt 0 rfl, hC.heldG 0 rfl⟩ ⟨hC.heldAt 1 rfl, hC.heldG 1 rfl⟩ (by have e_ := hC.hnd; simp at e_; omega) h26 3 (((markI 4 ((1 : UInt8)))))) ?_; rintro v27 G O28 w hg hC hB ⟨o29, q30, rfl, h31, rfl⟩
  replace hC : Cx w0 G0 G w ⟨[], [(b6, o29), (l7, q30)]⟩ := hC
  replace hB : Bxs G w w0.heap.size [(b21, 28, (((gR (lists aw2) (most aw2.crew)).1)).cells), (b20, 28, (((gR (lists aw2) (some_ aw2.crew)).1)).cells), (b9, 28, (((markI 8 ((3 : UInt8))))).cells), (b8, 28, (((markI 4 ((1 : UInt8))))).cells)] ⟨[], [(b6, o29), (l7, q30)]⟩ := hB
  refine wlVal (opAssign rfl) rfl ?_
  refine wlThen ?_
  refine wcSeq ?_
  refine wcRegion ?_
  refine wlVal (opMove rfl) rfl ?_
  refine wlVal (opLoadRow (cs := (((markI 4 ((1 : UInt8))))).cells) rfl (hB.range (i := 3) (m := 33) rfl (by simp [Mark.cells, Do.cells, Word.cells])) row28 (by simp [Mark.cells, Do.cells, Word.cells])) rfl ?_
  refine wlCallM (A := []) (O := [(b6, o29), (l7, q30)]) (B := []) hC hB rfl co12 rfl rfl (vote_ret _ _ hC.holds b6 l7 _ _ aw4 ⟨hC.heldAt 0 rfl, hC.heldG 0 rfl⟩ ⟨hC.heldAt 1 rfl, hC.heldG 1 rfl⟩ (by have e_ := hC.hnd; simp at e_; omega) h31 4 (((markI 4 ((1 : UInt8)))))) ?_; rintro v32 G O33 w hg hC hB ⟨o34, q35, rfl, h36, rfl⟩
  replace hC : Cx w0 G0 G w ⟨[], [(b6, o34), (l7, q35)]⟩ := hC
  replace hB : Bxs G w w0.heap.size [(b21, 28, (((gR (lists aw2) (most aw2.crew)).1)).cells), (b20, 28, (((gR (lists aw2) (some_ aw2.crew)).1)).cells), (b9, 28, (((markI 8 ((3 : UInt8))))).cells), (b8, 28, (((markI 4 ((1 : UInt8))))).cells)] ⟨[], [(b6, o34), (l7, q35)]⟩ := hB
  refine wlVal (opAssign rfl) rfl ?_
  refine wlThen ?_
  refine wcSeq ?_
  refine wcRegion ?_
  refine wlVal (opMove rfl) rfl ?_
  refine wlCallS hC hB rfl co20 rfl rfl (RetS.lend hC (fun G_ hg_ hh_ hL_ => stable_ret _ _ hh_ b6 l7 _ _ aw5 (hL_ (b6, o34) (by simp)) (hL_ (l7, q35) (by simp)) (show MarksO G_ o34 q35 l7 aw5 from (h36.mono hg_)))) ?_; intro w hk hC hB
  refine wlVal (opMove rfl) rfl ?_
  refine wlVal (opExtract rfl rfl) rfl ?_
  refine wlVal (OpVal.cast (opExtract rfl rfl) (congrArg Value.bool cl17_118)) rfl ?_
  refine wlAlloc hC hB zero28 rfl ?_; intro b37 w hk hC hB
  refine wlStore 0 (vs := (((gR (lists aw5) (most aw5.crew)).1)).cells) (cs := ((.int .i64 0) :: (Dig.zero.cells ++ []))) (cs' := (((gR (lists aw5) (most aw5.crew)).1)).cells) hC hB rfl rfl rfl sz28 rfl (by simp [Mark.cells, Do.cells, Word.cells]) (by simp [Mark.cells, Do.cells, Word.cells, Value.oneCell']) (by simp [Mark.cells, Do.cells, Word.cells]) (by simp [Mark.cells, Do.cells, Word.cells]) rfl ?_; intro w hC hB
  refine wlVal (opAssign rfl) rfl ?_
  refine wlThen ?_
  refine wcSeq ?_
  refine wcSeq ?_
  refine wcRegion ?_
  refine wlVal (opMove rfl) rfl ?_
  refine wlVal (OpVal.cast (opNeq rfl rfl) (congrArg Value.bool cl17_119)) rfl ?_
  refine wlVal (opMove rfl) rfl ?_
  refine wlOn rfl rfl ?_
  refine wlVal (opMove rfl) rfl ?_
  refine wlOn rfl rfl ?_
  refine wlVal (OpVal.cast (opNeq rfl rfl) (congrArg Value.bool cl17_120)) rfl ?_
  refine wlVal (opPickF rfl rfl) rfl ?_
  refine wlVal (opMove rfl) rfl ?_
  refine wlOn rfl rfl ?_
  refine wlVal (opMove rfl) rfl ?_
  refine wlOn rfl rfl ?_
  refine wlVal (OpVal.cast (opNeq rfl rfl) (congrArg Value.bool cl17_121)) rfl ?_
  refine wlVal (opPickF rfl rfl) rfl ?_
  refine wlVal (opMove rfl) rfl ?_
  refine wlOn rfl rfl ?_
  refine wlVal (opMove rfl) rfl ?_
  refine wlOn rfl rfl ?_
  refine wlVal (OpVal.cast (opNeq rfl rfl) (congrArg Value.bool cl17_122)) rfl ?_
  refine wlVal (opPickF rfl rfl) rfl ?_
  refine wlVal (opMove rfl) rfl ?_
  refine wlOn rfl rfl ?_
  refine wlVal (opMove rfl) rfl ?_
  refine wlOn rfl rfl ?_
  refine wlVal (OpVal.cast (opNeq rfl rfl) (congrArg Value.bool cl17_123)) rfl ?_
  refine wlVal (opPickF rfl rfl) rfl ?_
  refine wlVal (opMove rfl) rfl ?_
  refine wlOn rfl rfl ?_
  refine wlVal (opLoadRow (cs := (((gR (lists aw2) (some_ aw2.crew)).1)).cells) rfl (hB.range (i := 2) (m := 33) rfl (by simp [Mark.cells, Do.cells, Word.cells])) row28 (by simp [Mark.cells, Do.cells, Word.cells])) rfl ?_
  refine wlOn rfl rfl ?_
  refine wlVal (opMove rfl) rfl ?_
  refine wlOn rfl rfl ?_
  refine wlVal (opLoadRow (cs := (((markI 4 ((1 : UInt8))))).cells) rfl (hB.range (i := 4) (m := 33) rfl (by simp [Mark.cells, Do.cells, Word.cells])) row28 (by simp [Mark.cells, Do.cells, Word.cells])) rfl ?_
  refine wlOn rfl rfl ?_
  refine wlCallS hC hB rfl co25 rfl rfl (RetS.cast (is_ret _ _ hC.holds (((gR (lists aw2) (some_ aw2.crew)).1)) true (((markI 4 ((1 : UInt8)))))) (congrArg Value.bool cl17_124)) ?_; intro w hk hC hB
  refine wlOn rfl rfl ?_
  refine wlVal (opNot rfl) rfl ?_
  refine wlVal (opPickF rfl rfl) rfl ?_
  refine wlVal (opMove rfl) rfl ?_
  refine wlOn rfl rfl ?_
  refine wlVal (opMove rfl) rfl ?_
  refine wlVal (opPickF rfl rfl) rfl ?_
  refine wlVal (opMove rfl) rfl ?_
  refine wlOn rfl rfl ?_
  refine wlVal (opLoadRow (cs := (((gR (lists aw5) (most aw5.crew)).1)).cells) rfl (hB.range (i := 0) (m := 33) rfl (by simp [Mark.cells, Do.cells, Word.cells])) row28 (by simp [Mark.cells, Do.cells, Word.cells])) rfl ?_
  refine wlOn rfl rfl ?_
  refine wlVal (opMove rfl) rfl ?_
  refine wlOn rfl rfl ?_
  refine wlVal (opLoadRow (cs := (((markI 4 ((1 : UInt8))))).cells) rfl (hB.range (i := 4) (m := 33) rfl (by simp [Mark.cells, Do.cells, Word.cells])) row28 (by simp [Mark.cells, Do.cells, Word.cells])) rfl ?_
  refine wlOn rfl rfl ?_
  refine wlCallS hC hB rfl co25 rfl rfl (RetS.cast (is_ret _ _ hC.holds (((gR (lists aw5) (most aw5.crew)).1)) true (((markI 4 ((1 : UInt8)))))) (congrArg Value.bool cl17_126)) ?_; intro w hk hC hB
  refine wlOn rfl rfl ?_
  refine wlVal (opNot rfl) rfl ?_
  refine wlVal (opPickF rfl rfl) rfl ?_
  refine wlThen ?_
  refine wcCondF rfl ?_
  refine wcSkip ?_
  refine wcOf ?_
  refine wcSeq ?_
  refine wcRegion ?_
  refine wlVal (opMove rfl) rfl ?_
  refine wlVal (opLoadRow (cs := (((markI 8 ((3 : UInt8))))).cells) rfl (hB.range (i := 3) (m := 33) rfl (by simp [Mark.cells, Do.cells, Word.cells])) row28 (by simp [Mark.cells, Do.cells, Word.cells])) rfl ?_
  refine wlCallM (A := []) (O := [(b6, o34), (l7, q35)]) (B := []) hC hB rfl co12 rfl rfl (vote_ret _ _ hC.holds b6 l7 _ _ aw5 ⟨hC.heldAt 0 rfl, hC.heldG 0 rfl⟩ ⟨hC.heldAt 1 rfl, hC.heldG 1 rfl⟩ (by have e_ := hC.hnd; simp at e_; omega) h36 2 (((markI 8 ((3 : UInt8)))))) ?_; rintro v38 G O39 w hg hC hB ⟨o40, q41, rfl, h42, rfl⟩
  replace hC : Cx w0 G0 G w ⟨[], [(b6, o40), (l7, q41)]⟩ := hC
  replace hB : Bxs G w w0.heap.size [(b37, 28, (((gR (lists aw5) (most aw5.crew)).1)).cells), (b21, 28, (((gR (lists aw2) (most aw2.crew)).1)).cells), (b20, 28, (((gR (lists aw2) (some_ aw2.crew)).1)).cells), (b9, 28, (((markI 8 ((3 : UInt8))))).cells), (b8, 28, (((markI 4 ((1 : UInt8))))).cells)] ⟨[], [(b6, o40), (l7, q41)]⟩ := hB
  refine wlThen ?_
  refine wcSeq ?_
  refine wcRegion ?_
  refine wlVal (opMove rfl) rfl ?_
  refine wlVal (opLoadRow (cs := (((markI 8 ((3 : UInt8))))).cells) rfl (hB.range (i := 3) (m := 33) rfl (by simp [Mark.cells, Do.cells, Word.cells])) row28 (by simp [Mark.cells, Do.cells, Word.cells])) rfl ?_
  refine wlCallM (A := []) (O := [(b6, o40), (l7, q41)]) (B := []) hC hB rfl co12 rfl rfl (vote_ret _ _ hC.holds b6 l7 _ _ aw6 ⟨hC.heldAt 0 rfl, hC.heldG 0 rfl⟩ ⟨hC.heldAt 1 rfl, hC.heldG 1 rfl⟩ (by have e_ := hC.hnd; simp at e_; omega) h42 1 (((markI 8 ((3 : UInt8)))))) ?_; rintro v43 G O44 w hg hC hB ⟨o45, q46, rfl, h47, rfl⟩
  replace hC : Cx w0 G0 G w ⟨[], [(b6, o45), (l7, q46)]⟩ := hC
  replace hB : Bxs G w w0.heap.size [(b37, 28, (((gR (lists aw5) (most aw5.crew)).1)).cells), (b21, 28, (((gR (lists aw2) (most aw2.crew)).1)).cells), (b20, 28, (((gR (lists aw2) (some_ aw2.crew)).1)).cells), (b9, 28, (((markI 8 ((3 : UInt8))))).cells), (b8, 28, (((markI 4 ((1 : UInt8))))).cells)] ⟨[], [(b6, o45), (l7, q46)]⟩ := hB
  refine wlThen ?_
  refine wcSeq ?_
  refine wcRegion ?_
  refine wlVal (opMove rfl) rfl ?_
  refine wlCallS hC hB rfl co21 rfl rfl (RetS.lend hC (fun G_ hg_ hh_ hL_ => known_ret _ _ hh_ b6 l7 _ _ aw7 (hL_ (b6, o45) (by simp)) (hL_ (l7, q46) (by simp)) (show MarksO G_ o45 q46 l7 aw7 from (h47.mono hg_)))) ?_; intro w hk hC hB
  refine wlVal (opMove rfl) rfl ?_
  refine wlVal (opExtract rfl rfl) rfl ?_
  refine wlVal (OpVal.cast (opExtract rfl rfl) (congrArg Value.bool cl17_127)) rfl ?_
  refine wlAlloc hC hB zero28 rfl ?_; intro b48 w hk hC hB
  refine wlStore 0 (vs := (((gR (lists aw7) (some_ aw7.crew)).1)).cells) (cs := ((.int .i64 0) :: (Dig.zero.cells ++ []))) (cs' := (((gR (lists aw7) (some_ aw7.crew)).1)).cells) hC hB rfl rfl rfl sz28 rfl (by simp [Mark.cells, Do.cells, Word.cells]) (by simp [Mark.cells, Do.cells, Word.cells, Value.oneCell']) (by simp [Mark.cells, Do.cells, Word.cells]) (by simp [Mark.cells, Do.cells, Word.cells]) rfl ?_; intro w hC hB
  refine wlVal (opAssign rfl) rfl ?_
  refine wlThen ?_
  refine wcSeq ?_
  refine wcRegion ?_
  refine wlVal (opMove rfl) rfl ?_
  refine wlVal (opLoadRow (cs := (((markI 4 ((1 : UInt8))))).cells) rfl (hB.range (i := 5) (m := 33) rfl (by simp [Mark.cells, Do.cells, Word.cells])) row28 (by simp [Mark.cells, Do.cells, Word.cells])) rfl ?_
  refine wlCallM (A := []) (O := [(b6, o45), (l7, q46)]) (B := []) hC hB rfl co14 rfl rfl (raise_ret _ _ hC.holds b6 l7 _ _ aw7 ⟨hC.heldAt 0 rfl, hC.heldG 0 rfl⟩ ⟨hC.heldAt 1 rfl, hC.heldG 1 rfl⟩ (by have e_ := hC.hnd; simp at e_; omega) h47 (((markI 4 ((1 : UInt8)))))) ?_; rintro v49 G O50 w hg hC hB ⟨o51, q52, rfl, h53, rfl⟩
  replace hC : Cx w0 G0 G w ⟨[], [(b6, o51), (l7, q52)]⟩ := hC
  replace hB : Bxs G w w0.heap.size [(b48, 28, (((gR (lists aw7) (some_ aw7.crew)).1)).cells), (b37, 28, (((gR (lists aw5) (most aw5.crew)).1)).cells), (b21, 28, (((gR (lists aw2) (most aw2.crew)).1)).cells), (b20, 28, (((gR (lists aw2) (some_ aw2.crew)).1)).cells), (b9, 28, (((markI 8 ((3 : UInt8))))).cells), (b8, 28, (((markI 4 ((1 : UInt8))))).cells)] ⟨[], [(b6, o51), (l7, q52)]⟩ := hB
  refine wlVal (opAssign rfl) rfl ?_
  refine wlThen ?_
  refine wcSeq ?_
  refine wcRegion ?_
  refine wlVal (opMove rfl) rfl ?_
  refine wlCallO (bl := [(b48, 28, (((gR (lists aw7) (some_ aw7.crew)).1)).cells), (b37, 28, (((gR (lists aw5) (most aw5.crew)).1)).cells), (b21, 28, (((gR (lists aw2) (most aw2.crew)).1)).cells), (b20, 28, (((gR (lists aw2) (some_ aw2.crew)).1)).cells), (b9, 28, (((markI 8 ((3 : UInt8))))).cells), (b8, 28, (((markI 4 ((1 : UInt8))))).cells)]) (r := []) hC hB rfl co22 rfl rfl (RetO.lend hC (fun _ _ _ _ ⟨A, cap, e, h⟩ => ⟨A, cap, e, h.any (fun _ _ _ _ h => h)⟩) (fun G_ hg_ hh_ hL_ => of_ret _ _ hh_ b6 l7 _ _ aw8 (hL_ (b6, o51) (by simp)) (hL_ (l7, q52) (by simp)) (show MarksO G_ o51 q52 l7 aw8 from (h53.mono hg_)) 2)) ?_; rintro v58 G o56 w hk hC hB ⟨A54, cap55, rfl, hO57⟩
  replace h53 := h53.mono hk.gle
  refine wlVal (opAssign rfl) rfl ?_
  refine wlThen ?_
  refine wcSeq ?_
  refine wcRegion ?_
  refine wlVal (opMove rfl) rfl ?_
  refine wlCallS hC hB rfl co20 rfl rfl (RetS.lend hC (fun G_ hg_ hh_ hL_ => stable_ret _ _ hh_ b6 l7 _ _ aw8 (hL_ (b6, o51) (by simp)) (hL_ (l7, q52) (by simp)) (show MarksO G_ o51 q52 l7 aw8 from (h53.mono hg_)))) ?_; intro w hk hC hB
  refine wlVal (opMove rfl) rfl ?_
  refine wlVal (opExtract rfl rfl) rfl ?_
  refine wlVal (OpVal.cast (opExtract rfl rfl) (congrArg Value.bool cl17_129)) rfl ?_
  refine wlAlloc hC hB zero28 rfl ?_; intro b59 w hk hC hB
  replace hB : Bxs G w w0.heap.size ([(b59, 28, ((.int .i64 0) :: (Dig.zero.cells ++ []))), (b48, 28, (((gR (lists aw7) (some_ aw7.crew)).1)).cells), (b37, 28, (((gR (lists aw5) (most aw5.crew)).1)).cells), (b21, 28, (((gR (lists aw2) (most aw2.crew)).1)).cells), (b20, 28, (((gR (lists aw2) (some_ aw2.crew)).1)).cells), (b9, 28, (((markI 8 ((3 : UInt8))))).cells), (b8, 28, (((markI 4 ((1 : UInt8))))).cells)] ++ (Option.toList o56 ++ [])) ⟨[], [(b6, o51), (l7, q52)]⟩ := hB
  refine wlStore 0 (vs := (((gR (lists aw8) (most aw8.crew)).1)).cells) (cs := ((.int .i64 0) :: (Dig.zero.cells ++ []))) (cs' := (((gR (lists aw8) (most aw8.crew)).1)).cells) hC hB rfl rfl rfl sz28 rfl (by simp [Mark.cells, Do.cells, Word.cells]) (by simp [Mark.cells, Do.cells, Word.cells, Value.oneCell']) (by simp [Mark.cells, Do.cells, Word.cells]) (by simp [Mark.cells, Do.cells, Word.cells]) rfl ?_; intro w hC hB
  replace hB : Bxs G w w0.heap.size ([(b59, 28, (((gR (lists aw8) (most aw8.crew)).1)).cells), (b48, 28, (((gR (lists aw7) (some_ aw7.crew)).1)).cells), (b37, 28, (((gR (lists aw5) (most aw5.crew)).1)).cells), (b21, 28, (((gR (lists aw2) (most aw2.crew)).1)).cells), (b20, 28, (((gR (lists aw2) (some_ aw2.crew)).1)).cells), (b9, 28, (((markI 8 ((3 : UInt8))))).cells), (b8, 28, (((markI 4 ((1 : UInt8))))).cells)] ++ (Option.toList o56 ++ [])) ⟨[], [(b6, o51), (l7, q52)]⟩ := hB
  refine wlVal (opAssign rfl) rfl ?_
  refine wlThen ?_
  refine wcSeq ?_
  obtain ⟨G, hg63, hC, hB, hs62⟩ := Ow.freeze' (bl := [(b59, 28, (((gR (lists aw8) (most aw8.crew)).1)).cells), (b48, 28, (((gR (lists aw7) (some_ aw7.crew)).1)).cells), (b37, 28, (((gR (lists aw5) (most aw5.crew)).1)).cells), (b21, 28, (((gR (lists aw2) (most aw2.crew)).1)).cells), (b20, 28, (((gR (lists aw2) (some_ aw2.crew)).1)).cells), (b9, 28, (((markI 8 ((3 : UInt8))))).cells), (b8, 28, (((markI 4 ((1 : UInt8))))).cells)]) (r := []) hO57 hC (Nat.le_refl _) hB (Nat.le_trans (by decide) (by decide : (4 : Nat) ≤ maxL))
  replace h53 := h53.mono hg63
  replace hB : Bxs G w w0.heap.size [(b59, 28, (((gR (lists aw8) (most aw8.crew)).1)).cells), (b48, 28, (((gR (lists aw7) (some_ aw7.crew)).1)).cells), (b37, 28, (((gR (lists aw5) (most aw5.crew)).1)).cells), (b21, 28, (((gR (lists aw2) (most aw2.crew)).1)).cells), (b20, 28, (((gR (lists aw2) (some_ aw2.crew)).1)).cells), (b9, 28, (((markI 8 ((3 : UInt8))))).cells), (b8, 28, (((markI 4 ((1 : UInt8))))).cells)] ⟨[], [(b6, o51), (l7, q52)]⟩ := hB
  refine wcDrawT 22 fmix (by kernel_rfl) (by kernel_rfl) (by kernel_rfl) (by kernel_rfl) (vAt [(fun _ v_ => v_ = (.agg (((gR (lists aw7) (some_ aw7.crew)).1)).cells.toArray)), (fun _ v_ => v_ = (.bool true)), (fun _ v_ => v_ = (.agg (((markI 8 ((3 : UInt8))))).cells.toArray)), (fun _ v_ => v_ = (.bool true)), (fun _ v_ => v_ = (.bool true)), (fun _ v_ => v_ = (.int .i64 (((raiseM aw7 (((markI 4 ((1 : UInt8)))))).2)))), (fun _ v_ => v_ = (.bool true)), (fun _ v_ => v_ = (.bool true)), (fun _ v_ => v_ = (.bool true)), (fun _ v_ => v_ = (.slice A54 (((((mget aw8.list 2).getD []))).length) cap55)), (fun _ v_ => v_ = (.agg (((markI 8 ((3 : UInt8))))).cells.toArray)), (fun G v => ∃ bb_, v = .slice (some ⟨bb_, 0, none⟩) 1 1 ∧ Sl G v ([((markI 8 ((3 : UInt8))))] : List Mark)), (fun _ v_ => v_ = (.bool true)), (fun _ v_ => v_ = (.bool true)), (fun _ v_ => v_ = (.bool true)), (fun _ v_ => v_ = (.bool false)), (fun _ v_ => v_ = (.bool true)), (fun _ v_ => v_ = (.bool true)), (fun _ v_ => v_ = (.bool true)), (fun _ v_ => v_ = (.pointer (some ⟨b6, 0, none⟩))), (fun _ v_ => v_ = (.agg aw8.low.cells.toArray)), (fun _ v_ => v_ = (.agg (((markI 4 ((1 : UInt8))))).cells.toArray))]) (fun _ _ G' w => Cx w0 G0 G' w ⟨[], [(b6, o51), (l7, q52)]⟩ ∧ Bxs G' w w0.heap.size [(b59, 28, (((gR (lists aw8) (most aw8.crew)).1)).cells), (b48, 28, (((gR (lists aw7) (some_ aw7.crew)).1)).cells), (b37, 28, (((gR (lists aw5) (most aw5.crew)).1)).cells), (b21, 28, (((gR (lists aw2) (most aw2.crew)).1)).cells), (b20, 28, (((gR (lists aw2) (some_ aw2.crew)).1)).cells), (b9, 28, (((markI 8 ((3 : UInt8))))).cells), (b8, 28, (((markI 4 ((1 : UInt8))))).cells)] ⟨[], [(b6, o51), (l7, q52)]⟩ ∧ GLe G G') G (vAt_mono ⟨fun _ _ _ _ h => h, fun _ _ _ _ h => h, fun _ _ _ _ h => h, fun _ _ _ _ h => h, fun _ _ _ _ h => h, fun _ _ _ _ h => h, fun _ _ _ _ h => h, fun _ _ _ _ h => h, fun _ _ _ _ h => h, fun _ _ _ _ h => h, fun _ _ _ _ h => h, fun _ _ _ hg => fun ⟨b, h1, h2⟩ => ⟨b, h1, h2.mono hg⟩, fun _ _ _ _ h => h, fun _ _ _ _ h => h, fun _ _ _ _ h => h, fun _ _ _ _ h => h, fun _ _ _ _ h => h, fun _ _ _ _ h => h, fun _ _ _ _ h => h, fun _ _ _ _ h => h, fun _ _ _ _ h => h, fun _ _ _ _ h => h, trivial⟩) (fun _ _ => ⟨hC.drew, hB.drew, fun _ _ h => h⟩) ?_ ?_
  · refine dsNone (j := 1) rfl ?_ ?_
    · intro done G w ac_ hd hp hn ⟨hC, hB, hg⟩ hM
      have f15 : ac_.tmps[15]? = some (.pointer (some ⟨b48, 0, none⟩)) := hM.old0 rfl rfl
      have hF : Fr 134 ac_ (Env.nil.put 15 (.pointer (some ⟨b48, 0, none⟩))) := (hM.fr.add f15)
      exact OpVal.draw hF (opLoadRow (cs := (((gR (lists aw7) (some_ aw7.crew)).1)).cells) rfl (hB.range (i := 1) (m := 33) rfl (by simp [Mark.cells, Do.cells, Word.cells])) row28 (by simp [Mark.cells, Do.cells, Word.cells])) ⟨G, fun _ _ h => h, ⟨hC, hB, hg⟩, rfl⟩
    refine dsNone (j := 2) rfl ?_ ?_
    · intro done G w ac_ hd hp hn ⟨hC, hB, hg⟩ hM
      have f16 : ac_.tmps[16]? = some (.bool true) := hM.old0 rfl rfl
      have hF : Fr 134 ac_ (Env.nil.put 16 (.bool true)) := (hM.fr.add f16)
      exact OpVal.draw hF (opMove rfl) ⟨G, fun _ _ h => h, ⟨hC, hB, hg⟩, rfl⟩
    refine dsNone (j := 3) rfl ?_ ?_
    · intro done G w ac_ hd hp hn ⟨hC, hB, hg⟩ hM
      have f3 : ac_.tmps[3]? = some (.pointer (some ⟨b9, 0, none⟩)) := hM.old0 rfl rfl
      have hF : Fr 134 ac_ (Env.nil.put 3 (.pointer (some ⟨b9, 0, none⟩))) := (hM.fr.add f3)
      exact OpVal.draw hF (opLoadRow (cs := (((markI 8 ((3 : UInt8))))).cells) rfl (hB.range (i := 5) (m := 33) rfl (by simp [Mark.cells, Do.cells, Word.cells])) row28 (by simp [Mark.cells, Do.cells, Word.cells])) ⟨G, fun _ _ h => h, ⟨hC, hB, hg⟩, rfl⟩
    refine dsNone (j := 4) rfl ?_ ?_
    · intro done G w ac_ hd hp hn ⟨hC, hB, hg⟩ hM
      have f110 : ac_.tmps[110]? = some (.agg (((gR (lists aw7) (some_ aw7.crew)).1)).cells.toArray) := hM.eqv 0 rfl (hp 0 rfl) rfl rfl
      have f111 : ac_.tmps[111]? = some (.bool true) := hM.eqv 1 rfl (hp 1 rfl) rfl rfl
      have f112 : ac_.tmps[112]? = some (.agg (((markI 8 ((3 : UInt8))))).cells.toArray) := hM.eqv 2 rfl (hp 2 rfl) rfl rfl
      have hF : Fr 134 ac_ (((Env.nil.put 110 (.agg (((gR (lists aw7) (some_ aw7.crew)).1)).cells.toArray)).put 111 (.bool true)).put 112 (.agg (((markI 8 ((3 : UInt8))))).cells.toArray)) := (((hM.fr.add f110).add f111).add f112)
      exact drawCallS hF rfl co25 rfl (RetS.cast (is_ret _ _ hC.holds (((gR (lists aw7) (some_ aw7.crew)).1)) true (((markI 8 ((3 : UInt8)))))) (congrArg Value.bool cl17_132)) (fun w' hk => ⟨G, fun _ _ h => h, ⟨hC.trans hk, hB.ext hk, hg⟩, rfl⟩)
    refine dsNone (j := 5) rfl ?_ ?_
    · intro done G w ac_ hd hp hn ⟨hC, hB, hg⟩ hM
      have f113 : ac_.tmps[113]? = some (.bool true) := hM.eqv 3 rfl (hp 3 rfl) rfl rfl
      have hF : Fr 134 ac_ (Env.nil.put 113 (.bool true)) := (hM.fr.add f113)
      exact OpVal.draw hF (opMove rfl) ⟨G, fun _ _ h => h, ⟨hC, hB, hg⟩, rfl⟩
    refine dsOn (j := 6) rfl rfl ?_ ?_
    · intro done G w ac_ hd hp hn ⟨hC, hB, hg⟩ hM
      have f17 : ac_.tmps[17]? = some (.int .i64 (((raiseM aw7 (((markI 4 ((1 : UInt8)))))).2))) := hM.old0 rfl rfl
      have f114 : ac_.tmps[114]? = some (.bool true) := hM.eqv 4 rfl (hp 4 rfl) rfl rfl
      refine ⟨f114, ?_⟩
      have hF : Fr 134 ac_ (Env.nil.put 17 (.int .i64 (((raiseM aw7 (((markI 4 ((1 : UInt8)))))).2)))) := (hM.fr.add f17)
      exact OpVal.draw hF (opMove rfl) ⟨G, fun _ _ h => h, ⟨hC, hB, hg⟩, rfl⟩
    refine dsOn (j := 7) rfl rfl ?_ ?_
    · intro done G w ac_ hd hp hn ⟨hC, hB, hg⟩ hM
      have f115 : ac_.tmps[115]? = some (.int .i64 (((raiseM aw7 (((markI 4 ((1 : UInt8)))))).2))) := hM.eqv 5 rfl (hp 5 rfl) rfl rfl
      have f114 : ac_.tmps[114]? = some (.bool true) := hM.eqv 4 rfl (hp 4 rfl) rfl rfl
      refine ⟨f114, ?_⟩
      have hF : Fr 134 ac_ (Env.nil.put 115 (.int .i64 (((raiseM aw7 (((markI 4 ((1 : UInt8)))))).2)))) := (hM.fr.add f115)
      exact OpVal.draw hF (OpVal.cast (opEql rfl rfl) (congrArg Value.bool cl17_133)) ⟨G, fun _ _ h => h, ⟨hC, hB, hg⟩, rfl⟩
    refine dsNone (j := 8) rfl ?_ ?_
    · intro done G w ac_ hd hp hn ⟨hC, hB, hg⟩ hM
      have f114 : ac_.tmps[114]? = some (.bool true) := hM.eqv 4 rfl (hp 4 rfl) rfl rfl
      have f116 : ac_.tmps[116]? = some (.bool true) := hM.eqv 6 rfl (hp 6 rfl) rfl rfl
      have hF : Fr 134 ac_ ((Env.nil.put 114 (.bool true)).put 116 (.bool true)) := ((hM.fr.add f114).add f116)
      exact OpVal.draw hF (opPickT rfl rfl) ⟨G, fun _ _ h => h, ⟨hC, hB, hg⟩, rfl⟩
    refine dsNone (j := 9) rfl ?_ ?_
    · intro done G w ac_ hd hp hn ⟨hC, hB, hg⟩ hM
      have f117 : ac_.tmps[117]? = some (.bool true) := hM.eqv 7 rfl (hp 7 rfl) rfl rfl
      have hF : Fr 134 ac_ (Env.nil.put 117 (.bool true)) := (hM.fr.add f117)
      exact OpVal.draw hF (opMove rfl) ⟨G, fun _ _ h => h, ⟨hC, hB, hg⟩, rfl⟩
    refine dsOn (j := 10) rfl rfl ?_ ?_
    · intro done G w ac_ hd hp hn ⟨hC, hB, hg⟩ hM
      have f18 : ac_.tmps[18]? = some (.slice A54 (((((mget aw8.list 2).getD []))).length) cap55) := hM.old0 rfl rfl
      have f118 : ac_.tmps[118]? = some (.bool true) := hM.eqv 8 rfl (hp 8 rfl) rfl rfl
      refine ⟨f118, ?_⟩
      have hF : Fr 134 ac_ (Env.nil.put 18 (.slice A54 (((((mget aw8.list 2).getD []))).length) cap55)) := (hM.fr.add f18)
      exact OpVal.draw hF (opMove rfl) ⟨G, fun _ _ h => h, ⟨hC, hB, hg⟩, rfl⟩
    refine dsOn (j := 11) rfl rfl ?_ ?_
    · intro done G w ac_ hd hp hn ⟨hC, hB, hg⟩ hM
      have f3 : ac_.tmps[3]? = some (.pointer (some ⟨b9, 0, none⟩)) := hM.old0 rfl rfl
      have f118 : ac_.tmps[118]? = some (.bool true) := hM.eqv 8 rfl (hp 8 rfl) rfl rfl
      refine ⟨f118, ?_⟩
      have hF : Fr 134 ac_ (Env.nil.put 3 (.pointer (some ⟨b9, 0, none⟩))) := (hM.fr.add f3)
      exact OpVal.draw hF (opLoadRow (cs := (((markI 8 ((3 : UInt8))))).cells) rfl (hB.range (i := 5) (m := 33) rfl (by simp [Mark.cells, Do.cells, Word.cells])) row28 (by simp [Mark.cells, Do.cells, Word.cells])) ⟨G, fun _ _ h => h, ⟨hC, hB, hg⟩, rfl⟩
    refine dsOn (j := 12) rfl rfl ?_ ?_
    · intro done G w ac_ hd hp hn ⟨hC, hB, hg⟩ hM
      have f120 : ac_.tmps[120]? = some (.agg (((markI 8 ((3 : UInt8))))).cells.toArray) := hM.eqv 10 rfl (hp 10 rfl) rfl rfl
      have f118 : ac_.tmps[118]? = some (.bool true) := hM.eqv 8 rfl (hp 8 rfl) rfl rfl
      refine ⟨f118, ?_⟩
      have hF : Fr 134 ac_ (Env.nil.put 120 (.agg (((markI 8 ((3 : UInt8))))).cells.toArray)) := (hM.fr.add f120)
      exact drawBsl hF (α := Mark) (ps := [(0, .tmp 120)]) (xs := [((markI 8 ((3 : UInt8))))]) (rows := [(((markI 8 ((3 : UInt8))))).cells]) elo54 rfl rfl hC.holds rfl rfl rfl ⟨rfl, trivial⟩ (fun b G' w' hk hr => ⟨G', hk.gle, ⟨hC.trans hk, hB.ext hk, fun b o h => hk.gle b o (hg b o h)⟩, ⟨b, rfl, hr⟩⟩)
    refine dsOn (j := 13) rfl rfl ?_ ?_
    · intro done G w ac_ hd hp hn ⟨hC, hB, hg⟩ hM
      replace hs62 := hs62.mono hg
      have f119 : ac_.tmps[119]? = some (.slice A54 (((((mget aw8.list 2).getD []))).length) cap55) := hM.eqv 9 rfl (hp 9 rfl) rfl rfl
      obtain ⟨v_, f121, ⟨b64, rfl, hs65⟩⟩ := hM.new 11 _ _ rfl (hp 11 rfl) rfl
      have f118 : ac_.tmps[118]? = some (.bool true) := hM.eqv 8 rfl (hp 8 rfl) rfl rfl
      refine ⟨f118, ?_⟩
      have hF : Fr 134 ac_ ((Env.nil.put 119 (.slice A54 (((((mget aw8.list 2).getD []))).length) cap55)).put 121 (.slice (some ⟨b64, 0, none⟩) 1 1)) := ((hM.fr.add f119).add f121)
      exact drawCallS hF rfl co24 rfl (RetS.cast (rsame_ret _ _ hC.holds _ ((((mget aw8.list 2).getD []))) hs62 _ ([((markI 8 ((3 : UInt8))))]) hs65) (congrArg Value.bool cl17_134)) (fun w' hk => ⟨G, fun _ _ h => h, ⟨hC.trans hk, hB.ext hk, hg⟩, rfl⟩)
    refine dsNone (j := 14) rfl ?_ ?_
    · intro done G w ac_ hd hp hn ⟨hC, hB, hg⟩ hM
      have f118 : ac_.tmps[118]? = some (.bool true) := hM.eqv 8 rfl (hp 8 rfl) rfl rfl
      have f122 : ac_.tmps[122]? = some (.bool true) := hM.eqv 12 rfl (hp 12 rfl) rfl rfl
      have hF : Fr 134 ac_ ((Env.nil.put 118 (.bool true)).put 122 (.bool true)) := ((hM.fr.add f118).add f122)
      exact OpVal.draw hF (opPickT rfl rfl) ⟨G, fun _ _ h => h, ⟨hC, hB, hg⟩, rfl⟩
    refine dsNone (j := 15) rfl ?_ ?_
    · intro done G w ac_ hd hp hn ⟨hC, hB, hg⟩ hM
      have f123 : ac_.tmps[123]? = some (.bool true) := hM.eqv 13 rfl (hp 13 rfl) rfl rfl
      have hF : Fr 134 ac_ (Env.nil.put 123 (.bool true)) := (hM.fr.add f123)
      exact OpVal.draw hF (opMove rfl) ⟨G, fun _ _ h => h, ⟨hC, hB, hg⟩, rfl⟩
    refine dsOn (j := 16) rfl rfl ?_ ?_
    · intro done G w ac_ hd hp hn ⟨hC, hB, hg⟩ hM
      have f20 : ac_.tmps[20]? = some (.bool false) := hM.old0 rfl rfl
      have f124 : ac_.tmps[124]? = some (.bool true) := hM.eqv 14 rfl (hp 14 rfl) rfl rfl
      refine ⟨f124, ?_⟩
      have hF : Fr 134 ac_ (Env.nil.put 20 (.bool false)) := (hM.fr.add f20)
      exact OpVal.draw hF (opMove rfl) ⟨G, fun _ _ h => h, ⟨hC, hB, hg⟩, rfl⟩
    refine dsOn (j := 17) rfl rfl ?_ ?_
    · intro done G w ac_ hd hp hn ⟨hC, hB, hg⟩ hM
      have f125 : ac_.tmps[125]? = some (.bool false) := hM.eqv 15 rfl (hp 15 rfl) rfl rfl
      have f124 : ac_.tmps[124]? = some (.bool true) := hM.eqv 14 rfl (hp 14 rfl) rfl rfl
      refine ⟨f124, ?_⟩
      have hF : Fr 134 ac_ (Env.nil.put 125 (.bool false)) := (hM.fr.add f125)
      exact OpVal.draw hF (opNot rfl) ⟨G, fun _ _ h => h, ⟨hC, hB, hg⟩, rfl⟩
    refine dsNone (j := 18) rfl ?_ ?_
    · intro done G w ac_ hd hp hn ⟨hC, hB, hg⟩ hM
      have f124 : ac_.tmps[124]? = some (.bool true) := hM.eqv 14 rfl (hp 14 rfl) rfl rfl
      have f126 : ac_.tmps[126]? = some (.bool true) := hM.eqv 16 rfl (hp 16 rfl) rfl rfl
      have hF : Fr 134 ac_ ((Env.nil.put 124 (.bool true)).put 126 (.bool true)) := ((hM.fr.add f124).add f126)
      exact OpVal.draw hF (opPickT rfl rfl) ⟨G, fun _ _ h => h, ⟨hC, hB, hg⟩, rfl⟩
    refine dsNone (j := 19) rfl ?_ ?_
    · intro done G w ac_ hd hp hn ⟨hC, hB, hg⟩ hM
      have f127 : ac_.tmps[127]? = some (.bool true) := hM.eqv 17 rfl (hp 17 rfl) rfl rfl
      have hF : Fr 134 ac_ (Env.nil.put 127 (.bool true)) := (hM.fr.add f127)
      exact OpVal.draw hF (opMove rfl) ⟨G, fun _ _ h => h, ⟨hC, hB, hg⟩, rfl⟩
    refine dsOn (j := 20) rfl rfl ?_ ?_
    · intro done G w ac_ hd hp hn ⟨hC, hB, hg⟩ hM
      have f1 : ac_.tmps[1]? = some (.pointer (some ⟨b6, 0, none⟩)) := hM.old0 rfl rfl
      have f128 : ac_.tmps[128]? = some (.bool true) := hM.eqv 18 rfl (hp 18 rfl) rfl rfl
      refine ⟨f128, ?_⟩
      have hF : Fr 134 ac_ (Env.nil.put 1 (.pointer (some ⟨b6, 0, none⟩))) := (hM.fr.add f1)
      exact OpVal.draw hF (opMove rfl) ⟨G, fun _ _ h => h, ⟨hC, hB, hg⟩, rfl⟩
    refine dsOn (j := 21) rfl rfl ?_ ?_
    · intro done G w ac_ hd hp hn ⟨hC, hB, hg⟩ hM
      replace h53 := h53.mono hg
      have f129 : ac_.tmps[129]? = some (.pointer (some ⟨b6, 0, none⟩)) := hM.eqv 19 rfl (hp 19 rfl) rfl rfl
      have f128 : ac_.tmps[128]? = some (.bool true) := hM.eqv 18 rfl (hp 18 rfl) rfl rfl
      refine ⟨f128, ?_⟩
      have hF : Fr 134 ac_ (Env.nil.put 129 (.pointer (some ⟨b6, 0, none⟩))) := (hM.fr.add f129)
      exact drawCallS hF rfl co23 rfl (RetS.lend hC (fun G_ hg_ hh_ hL_ => low_ret _ _ hh_ b6 l7 _ _ aw8 (hL_ (b6, o51) (by simp)) (hL_ (l7, q52) (by simp)) (show MarksO G_ o51 q52 l7 aw8 from (h53.mono hg_)))) (fun w' hk => ⟨G, fun _ _ h => h, ⟨hC.trans hk, hB.ext hk, hg⟩, rfl⟩)
    refine dsOn (j := 22) rfl rfl ?_ ?_
    · intro done G w ac_ hd hp hn ⟨hC, hB, hg⟩ hM
      have f2 : ac_.tmps[2]? = some (.pointer (some ⟨b8, 0, none⟩)) := hM.old0 rfl rfl
      have f128 : ac_.tmps[128]? = some (.bool true) := hM.eqv 18 rfl (hp 18 rfl) rfl rfl
      refine ⟨f128, ?_⟩
      have hF : Fr 134 ac_ (Env.nil.put 2 (.pointer (some ⟨b8, 0, none⟩))) := (hM.fr.add f2)
      exact OpVal.draw hF (opLoadRow (cs := (((markI 4 ((1 : UInt8))))).cells) rfl (hB.range (i := 6) (m := 33) rfl (by simp [Mark.cells, Do.cells, Word.cells])) row28 (by simp [Mark.cells, Do.cells, Word.cells])) ⟨G, fun _ _ h => h, ⟨hC, hB, hg⟩, rfl⟩
    exact dsNil
  · intro done G w ac_ hall htl ⟨hC, hB, hg⟩ hM
    replace h53 := h53.mono hg
    replace hs62 := hs62.mono hg
    have f128 : ac_.tmps[128]? = some (.bool true) := hM.eqv 18 rfl (hall 18 rfl) rfl rfl
    have f130 : ac_.tmps[130]? = some (.agg aw8.low.cells.toArray) := hM.eqv 20 rfl (hall 20 rfl) rfl rfl
    have f131 : ac_.tmps[131]? = some (.agg (((markI 4 ((1 : UInt8))))).cells.toArray) := hM.eqv 21 rfl (hall 21 rfl) rfl rfl
    refine ⟨(((Env.nil.put 128 (.bool true)).put 130 (.agg aw8.low.cells.toArray)).put 131 (.agg (((markI 4 ((1 : UInt8))))).cells.toArray)), (((hM.fr.add f128).add f130).add f131), ?_⟩
    clear hM hall htl
    refine wlOn rfl rfl ?_
    refine wlVal (OpVal.cast (opEqRow (eq28 _ aw8.low (((markI 4 ((1 : UInt8)))))) eg28 rfl rfl) (congrArg Value.bool cl17_135)) rfl ?_
    refine wlVal (opPickT rfl rfl) rfl ?_
    refine wlVal (opAssign rfl) rfl ?_
    refine wlThen ?_
    refine wcRet ?_
    exact fun ac_ ha => hQ _ _ _ (results1 ha rfl rfl) ha.df (endS hC hw rfl)

end Go.Proofs.Ytbmanooiphghmaa
