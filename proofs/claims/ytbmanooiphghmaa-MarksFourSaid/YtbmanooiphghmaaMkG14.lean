/- What functions of the marks seat return, part 14. No condition. -/
import Derived.Test.YtbmanooiphghmaaMkG13
import Derived.Test.YtbmanooiphghmaaMkFour
set_option linter.all false
namespace Go.Proofs.Ytbmanooiphghmaa
open Go Go.Gx Go.RowKit
theorem four_ret (G0 : Gh) (w0 : World) (hw : Holds G0 w0) (many : Int) :
    RetS Try.prog 7 #[.int .i64 many] G0 w0 (.bool true) := by
  have hC := Cx.refl hw
  have hB : Bxs G0 w0 w0.heap.size [] := Bxs.nil _ _ _
  refine callsOf Try.func7 rfl _ Try.ntmps7 rfl _ (argsCons argsNil (t := 0) rfl) ?_; intro Q0 hQ
  refine wcSeq ?_
  refine wcRegion ?_
  refine wlVal (opAssign rfl) rfl ?_
  refine wlThen ?_
  refine wcSeq ?_
  refine wcRegion ?_
  refine wlCallN (m := []) (B := []) hC hB rfl co18 rfl rfl (fresh1_ret _ _ hC.holds ) ?_; rintro v1 G O2 w hg hC hB ⟨b6, l7, o3, q4, rfl, h5, rfl⟩
  replace hC : Cx w0 G0 G w ⟨[], [(b6, o3), (l7, q4)]⟩ := hC
  replace hB : Bxs G w w0.heap.size [] ⟨[], [(b6, o3), (l7, q4)]⟩ := hB
  refine wlVal (opAssign rfl) rfl ?_
  refine wlThen ?_
  refine wcSeq ?_
  refine wcRegion ?_
  refine wlVal (opMove rfl) rfl ?_
  refine wlCallS hC hB rfl co19 rfl rfl (mark_ret _ _ hC.holds 1 ((0 : UInt8))) ?_; intro w hk hC hB
  refine wlCallM (A := []) (O := [(b6, o3), (l7, q4)]) (B := []) hC hB rfl co12 rfl rfl (vote_ret _ _ hC.holds b6 l7 _ _ (((MSt.mk (crewI 1) (Mark.mk 0 Dig.zero) []))) ⟨hC.heldAt 0 rfl, hC.heldG 0 rfl⟩ ⟨hC.heldAt 1 rfl, hC.heldG 1 rfl⟩ (by have e_ := hC.hnd; simp at e_; omega) h5 1 (((markI 1 ((0 : UInt8)))))) ?_; rintro v8 G O9 w hg hC hB ⟨o10, q11, rfl, h12, rfl⟩
  replace hC : Cx w0 G0 G w ⟨[], [(b6, o10), (l7, q11)]⟩ := hC
  replace hB : Bxs G w w0.heap.size [] ⟨[], [(b6, o10), (l7, q11)]⟩ := hB
  refine wlThen ?_
  refine wcSeq ?_
  refine wcRegion ?_
  refine wlVal (opMove rfl) rfl ?_
  refine wlCallS hC hB rfl co19 rfl rfl (mark_ret _ _ hC.holds 1 ((0 : UInt8))) ?_; intro w hk hC hB
  refine wlCallM (A := []) (O := [(b6, o10), (l7, q11)]) (B := []) hC hB rfl co12 rfl rfl (vote_ret _ _ hC.holds b6 l7 _ _ (((voteM (((MSt.mk (crewI 1) (Mark.mk 0 Dig.zero) []))) 1 (((markI 1 ((0 : UInt8)))))).1)) ⟨hC.heldAt 0 rfl, hC.heldG 0 rfl⟩ ⟨hC.heldAt 1 rfl, hC.heldG 1 rfl⟩ (by have e_ := hC.hnd; simp at e_; omega) h12 2 (((markI 1 ((0 : UInt8)))))) ?_; rintro v13 G O14 w hg hC hB ⟨o15, q16, rfl, h17, rfl⟩
  replace hC : Cx w0 G0 G w ⟨[], [(b6, o15), (l7, q16)]⟩ := hC
  replace hB : Bxs G w w0.heap.size [] ⟨[], [(b6, o15), (l7, q16)]⟩ := hB
  refine wlThen ?_
  refine wcSeq ?_
  refine wcRegion ?_
  refine wlVal (opMove rfl) rfl ?_
  refine wlCallS hC hB rfl co19 rfl rfl (mark_ret _ _ hC.holds 1 ((0 : UInt8))) ?_; intro w hk hC hB
  refine wlCallM (A := []) (O := [(b6, o15), (l7, q16)]) (B := []) hC hB rfl co12 rfl rfl (vote_ret _ _ hC.holds b6 l7 _ _ (((voteM (((voteM (((MSt.mk (crewI 1) (Mark.mk 0 Dig.zero) []))) 1 (((markI 1 ((0 : UInt8)))))).1)) 2 (((markI 1 ((0 : UInt8)))))).1)) ⟨hC.heldAt 0 rfl, hC.heldG 0 rfl⟩ ⟨hC.heldAt 1 rfl, hC.heldG 1 rfl⟩ (by have e_ := hC.hnd; simp at e_; omega) h17 4 (((markI 1 ((0 : UInt8)))))) ?_; rintro v18 G O19 w hg hC hB ⟨o20, q21, rfl, h22, rfl⟩
  replace hC : Cx w0 G0 G w ⟨[], [(b6, o20), (l7, q21)]⟩ := hC
  replace hB : Bxs G w w0.heap.size [] ⟨[], [(b6, o20), (l7, q21)]⟩ := hB
  refine wlThen ?_
  refine wcSeq ?_
  refine wcRegion ?_
  refine wlVal (opMove rfl) rfl ?_
  refine wlCallS hC hB rfl co11 rfl rfl (bring_ret _ _ hC.holds many 41) ?_; intro w hk hC hB
  refine wlVal (opAssign rfl) rfl ?_
  refine wlThen ?_
  refine wcSeq ?_
  refine wcSeq ?_
  refine wcRegion ?_
  refine wlVal (opAssign rfl) rfl ?_
  refine wlThen ?_
  refine wcBlock ?_
  refine WC.sub (wrInd (ι := Nat × Obj × Obj × MSt) (fun i => match i with | (i, om, qm, ms) => 42 - i) (fun i G w => match i with | (i, om, qm, ms) => Cx w0 G0 G w ⟨[], [(b6, om), (l7, qm)]⟩ ∧ Bxs G w w0.heap.size [] ⟨[], [(b6, om), (l7, qm)]⟩ ∧ MarksO G om qm l7 ms ∧ 1 ≤ i ∧ ((i : Nat) : Int) ≤ bringI many 41 + 1 ∧ ms = f4 (i - 1)) (fun i => match i with | (i, om, qm, ms) => (((Env.nil.put 3 (.pointer (some ⟨b6, 0, none⟩))).put 4 (.int .i64 (((bringI many 41))))).put 5 (.int .i64 (((i : Nat) : Int))))) ?_ (1, o20, q21, ((voteM (((voteM (((voteM (((MSt.mk (crewI 1) (Mark.mk 0 Dig.zero) []))) 1 (((markI 1 ((0 : UInt8)))))).1)) 2 (((markI 1 ((0 : UInt8)))))).1)) 4 (((markI 1 ((0 : UInt8)))))).1)) _ _ ⟨hC, hB, h22, (Nat.le_refl 1), (f4_in many), rfl⟩) (fun _ ha => (((ha.start.cons ha (t := 3) rfl).cons ha (t := 4) rfl).cons ha (t := 5) rfl))
  rintro ⟨i, om, qm, ms⟩ G w N0 IH0 ⟨hC, hB, hJms, hi1, hin, hms⟩
  show WC _ _ _ _ (((Env.nil.put 3 (.pointer (some ⟨b6, 0, none⟩))).put 4 (.int .i64 (((bringI many 41))))).put 5 (.int .i64 (((i : Nat) : Int)))) w
  refine wcSeq ?_
  refine wcSeq ?_
  refine wcRegion ?_
  refine wlVal (opMove rfl) rfl ?_
  refine wlVal (opMove rfl) rfl ?_
  refine wlVal (opLeq rfl rfl) rfl ?_
  refine wlThen ?_
  cases h23 : decide (((i : Nat) : Int) ≤ ((bringI many 41)))
  · skip
    refine wcCondF rfl ?_
    refine wcExit ?_
    refine wcOf ?_
    refine wcSeq ?_
    refine wcRegion ?_
    refine wlVal (opMove rfl) rfl ?_
    refine wlCallS hC hB rfl co20 rfl rfl (RetS.lend hC (fun G_ hg_ hh_ hL_ => stable_ret _ _ hh_ b6 l7 _ _ ms (hL_ (b6, om) (by simp)) (hL_ (l7, qm) (by simp)) (show MarksO G_ om qm l7 ms from (hJms.mono hg_)))) ?_; intro w hk hC hB
    refine wlVal (opMove rfl) rfl ?_
    refine wlVal (opExtract rfl rfl) rfl ?_
    refine wlVal (opExtract rfl rfl) rfl ?_
    refine wlAlloc hC hB zero28 rfl ?_; intro b24 w hk hC hB
    refine wlStore 0 (vs := (((gR (lists ms) (most ms.crew)).1)).cells) (cs := ((.int .i64 0) :: (Dig.zero.cells ++ []))) (cs' := (((gR (lists ms) (most ms.crew)).1)).cells) hC hB rfl rfl rfl sz28 rfl (by simp [Mark.cells, Do.cells, Word.cells]) (by simp [Mark.cells, Do.cells, Word.cells, Value.oneCell']) (by simp [Mark.cells, Do.cells, Word.cells]) (by simp [Mark.cells, Do.cells, Word.cells]) rfl ?_; intro w hC hB
    refine wlVal (opAssign rfl) rfl ?_
    refine wlThen ?_
    refine wcSeq ?_
    refine wcRegion ?_
    refine wlVal (opMove rfl) rfl ?_
    refine wlCallO (bl := [(b24, 28, (((gR (lists ms) (most ms.crew)).1)).cells)]) (r := []) hC hB rfl co22 rfl rfl (RetO.lend hC (fun _ _ _ _ ⟨A, cap, e, h⟩ => ⟨A, cap, e, h.any (fun _ _ _ _ h => h)⟩) (fun G_ hg_ hh_ hL_ => of_ret _ _ hh_ b6 l7 _ _ ms (hL_ (b6, om) (by simp)) (hL_ (l7, qm) (by simp)) (show MarksO G_ om qm l7 ms from (hJms.mono hg_)) 3)) ?_; rintro v29 G o27 w hk hC hB ⟨A25, cap26, rfl, hO28⟩
    replace hJms := hJms.mono hk.gle
    refine wlVal (opAssign rfl) rfl ?_
    refine wlThen ?_
    refine wcSeq ?_
    cases h30 : (((((gR (lists ms) (most ms.crew)).2)) && decide ((((gR (lists ms) (most ms.crew)).1)) = (((markI 1 ((0 : UInt8))))))))
    · skip
      exact absurd h30 (by simp [(f4_fin hi1 hms hin h23).1, (f4_fin hi1 hms hin h23).2.1])
    · skip
      cases h31 : (((((((mget ms.list 3).getD []))).length : Nat) : Int)) == (min (((bringI many 41))) (((4 : Nat) : Int)))
      · skip
        exact absurd h31 (by simp [(f4_fin hi1 hms hin h23).2.2.1])
      · skip
        cases h32 : (((bringI many 41))) == 0
        · skip
          obtain ⟨G, hg34, hC, hB, hs33⟩ := Ow.freeze' (bl := [(b24, 28, (((gR (lists ms) (most ms.crew)).1)).cells)]) (r := []) hO28 hC (Nat.le_refl _) hB (by have q := (f4_fin hi1 hms hin h23).2.2.1; unfold maxL; omega)
          replace hJms := hJms.mono hg34
          replace hB : Bxs G w w0.heap.size [(b24, 28, (((gR (lists ms) (most ms.crew)).1)).cells)] ⟨[], [(b6, om), (l7, qm)]⟩ := hB
          obtain ⟨x35, hx36⟩ : ∃ y_, ((((mget ms.list 3).getD [])))[(((((mget ms.list 3).getD []))).length - 1)]? = some y_ := ⟨_, List.getElem?_eq_getElem (by have q := ((f4_fin hi1 hms hin h23).2.2.2 (by simpa using h32)).1; omega)⟩
          obtain ⟨b37, o38, row39, hA42, hr40, hi41⟩ := hs33.elem hx36; subst hA42
          obtain rfl := hi41
          refine wcDrawT 23 fmix (by kernel_rfl) (by kernel_rfl) (by kernel_rfl) (by kernel_rfl) (vAt [(fun _ v_ => v_ = (.agg (((gR (lists ms) (most ms.crew)).1)).cells.toArray)), (fun _ v_ => v_ = (.bool (((gR (lists ms) (most ms.crew)).2)))), (fun _ v_ => v_ = (.agg (((markI 1 ((0 : UInt8))))).cells.toArray)), (fun _ v_ => v_ = (.bool true)), (fun _ v_ => v_ = (.bool true)), (fun _ v_ => v_ = (.slice (some ⟨b37, o38, none⟩) (((((mget ms.list 3).getD []))).length) cap26)), (fun _ v_ => v_ = (.int .i64 (((((((mget ms.list 3).getD []))).length : Nat) : Int)))), (fun _ v_ => v_ = (.int .i64 (((bringI many 41))))), (fun _ v_ => v_ = (.int .i64 (min (((bringI many 41))) (((4 : Nat) : Int))))), (fun _ v_ => v_ = (.bool true)), (fun _ v_ => v_ = (.bool true)), (fun _ v_ => v_ = (.bool true)), (fun _ v_ => v_ = (.int .i64 (((bringI many 41))))), (fun _ v_ => v_ = (.bool false)), (fun _ v_ => v_ = (.bool false)), (fun _ v_ => v_ = (.slice (some ⟨b37, o38, none⟩) (((((mget ms.list 3).getD []))).length) cap26)), (fun _ v_ => v_ = (.slice (some ⟨b37, o38, none⟩) (((((mget ms.list 3).getD []))).length) cap26)), (fun _ v_ => v_ = (.int .i64 (((((((mget ms.list 3).getD []))).length : Nat) : Int)))), (fun _ v_ => v_ = (.int .i64 ((((((((mget ms.list 3).getD []))).length - 1) : Nat) : Int)))), (fun _ v_ => v_ = (.pointer (some ⟨b37, o38 + ((((((mget ms.list 3).getD []))).length - 1)) * 33, none⟩))), (fun _ v_ => v_ = (.agg x35.cells.toArray)), (fun _ v_ => v_ = (.int .i64 (((bringI many 41))))), (fun _ v_ => v_ = (.agg (((markI (((bringI many 41))) ((0 : UInt8))))).cells.toArray))]) (fun _ _ G' w => Cx w0 G0 G' w ⟨[], [(b6, om), (l7, qm)]⟩ ∧ Bxs G' w w0.heap.size [(b24, 28, (((gR (lists ms) (most ms.crew)).1)).cells)] ⟨[], [(b6, om), (l7, qm)]⟩ ∧ GLe G G') G (vAt_mono ⟨fun _ _ _ _ h => h, fun _ _ _ _ h => h, fun _ _ _ _ h => h, fun _ _ _ _ h => h, fun _ _ _ _ h => h, fun _ _ _ _ h => h, fun _ _ _ _ h => h, fun _ _ _ _ h => h, fun _ _ _ _ h => h, fun _ _ _ _ h => h, fun _ _ _ _ h => h, fun _ _ _ _ h => h, fun _ _ _ _ h => h, fun _ _ _ _ h => h, fun _ _ _ _ h => h, fun _ _ _ _ h => h, fun _ _ _ _ h => h, fun _ _ _ _ h => h, fun _ _ _ _ h => h, fun _ _ _ _ h => h, fun _ _ _ _ h => h, fun _ _ _ _ h => h, fun _ _ _ _ h => h, trivial⟩) (fun _ _ => ⟨hC.drew, hB.drew, fun _ _ h => h⟩) ?_ ?_
          · refine dsNone (j := 1) rfl ?_ ?_
            · intro done G w ac_ hd hp hn ⟨hC, hB, hg⟩ hM
              have f6 : ac_.tmps[6]? = some (.pointer (some ⟨b24, 0, none⟩)) := hM.old0 rfl rfl
              have hF : Fr 73 ac_ (Env.nil.put 6 (.pointer (some ⟨b24, 0, none⟩))) := (hM.fr.add f6)
              exact OpVal.draw hF (opLoadRow (cs := (((gR (lists ms) (most ms.crew)).1)).cells) rfl (hB.range (i := 0) (m := 33) rfl (by simp [Mark.cells, Do.cells, Word.cells])) row28 (by simp [Mark.cells, Do.cells, Word.cells])) ⟨G, fun _ _ h => h, ⟨hC, hB, hg⟩, rfl⟩
            refine dsNone (j := 2) rfl ?_ ?_
            · intro done G w ac_ hd hp hn ⟨hC, hB, hg⟩ hM
              have f7 : ac_.tmps[7]? = some (.bool (((gR (lists ms) (most ms.crew)).2))) := hM.old0 rfl rfl
              have hF : Fr 73 ac_ (Env.nil.put 7 (.bool (((gR (lists ms) (most ms.crew)).2)))) := (hM.fr.add f7)
              exact OpVal.draw hF (opMove rfl) ⟨G, fun _ _ h => h, ⟨hC, hB, hg⟩, rfl⟩
            refine dsNone (j := 3) rfl ?_ ?_
            · intro done G w ac_ hd hp hn ⟨hC, hB, hg⟩ hM
              have hF : Fr 73 ac_ Env.nil := hM.fr
              exact drawCallS hF rfl co19 rfl (mark_ret _ _ hC.holds 1 ((0 : UInt8))) (fun w' hk => ⟨G, fun _ _ h => h, ⟨hC.trans hk, hB.ext hk, hg⟩, rfl⟩)
            refine dsNone (j := 4) rfl ?_ ?_
            · intro done G w ac_ hd hp hn ⟨hC, hB, hg⟩ hM
              have f44 : ac_.tmps[44]? = some (.agg (((gR (lists ms) (most ms.crew)).1)).cells.toArray) := hM.eqv 0 rfl (hp 0 rfl) rfl rfl
              have f45 : ac_.tmps[45]? = some (.bool (((gR (lists ms) (most ms.crew)).2))) := hM.eqv 1 rfl (hp 1 rfl) rfl rfl
              have f46 : ac_.tmps[46]? = some (.agg (((markI 1 ((0 : UInt8))))).cells.toArray) := hM.eqv 2 rfl (hp 2 rfl) rfl rfl
              have hF : Fr 73 ac_ (((Env.nil.put 44 (.agg (((gR (lists ms) (most ms.crew)).1)).cells.toArray)).put 45 (.bool (((gR (lists ms) (most ms.crew)).2)))).put 46 (.agg (((markI 1 ((0 : UInt8))))).cells.toArray)) := (((hM.fr.add f44).add f45).add f46)
              exact drawCallS hF rfl co25 rfl (RetS.cast (is_ret _ _ hC.holds (((gR (lists ms) (most ms.crew)).1)) (((gR (lists ms) (most ms.crew)).2)) (((markI 1 ((0 : UInt8)))))) (congrArg Value.bool h30)) (fun w' hk => ⟨G, fun _ _ h => h, ⟨hC.trans hk, hB.ext hk, hg⟩, rfl⟩)
            refine dsNone (j := 5) rfl ?_ ?_
            · intro done G w ac_ hd hp hn ⟨hC, hB, hg⟩ hM
              have f47 : ac_.tmps[47]? = some (.bool true) := hM.eqv 3 rfl (hp 3 rfl) rfl rfl
              have hF : Fr 73 ac_ (Env.nil.put 47 (.bool true)) := (hM.fr.add f47)
              exact OpVal.draw hF (opMove rfl) ⟨G, fun _ _ h => h, ⟨hC, hB, hg⟩, rfl⟩
            refine dsOn (j := 6) rfl rfl ?_ ?_
            · intro done G w ac_ hd hp hn ⟨hC, hB, hg⟩ hM
              have f8 : ac_.tmps[8]? = some (.slice (some ⟨b37, o38, none⟩) (((((mget ms.list 3).getD []))).length) cap26) := hM.old0 rfl rfl
              have f48 : ac_.tmps[48]? = some (.bool true) := hM.eqv 4 rfl (hp 4 rfl) rfl rfl
              refine ⟨f48, ?_⟩
              have hF : Fr 73 ac_ (Env.nil.put 8 (.slice (some ⟨b37, o38, none⟩) (((((mget ms.list 3).getD []))).length) cap26)) := (hM.fr.add f8)
              exact OpVal.draw hF (opMove rfl) ⟨G, fun _ _ h => h, ⟨hC, hB, hg⟩, rfl⟩
            refine dsOn (j := 7) rfl rfl ?_ ?_
            · intro done G w ac_ hd hp hn ⟨hC, hB, hg⟩ hM
              have f49 : ac_.tmps[49]? = some (.slice (some ⟨b37, o38, none⟩) (((((mget ms.list 3).getD []))).length) cap26) := hM.eqv 5 rfl (hp 5 rfl) rfl rfl
              have f48 : ac_.tmps[48]? = some (.bool true) := hM.eqv 4 rfl (hp 4 rfl) rfl rfl
              refine ⟨f48, ?_⟩
              have hF : Fr 73 ac_ (Env.nil.put 49 (.slice (some ⟨b37, o38, none⟩) (((((mget ms.list 3).getD []))).length) cap26)) := (hM.fr.add f49)
              exact OpVal.draw hF (opLen rfl isl54) ⟨G, fun _ _ h => h, ⟨hC, hB, hg⟩, rfl⟩
            refine dsOn (j := 8) rfl rfl ?_ ?_
            · intro done G w ac_ hd hp hn ⟨hC, hB, hg⟩ hM
              have f4 : ac_.tmps[4]? = some (.int .i64 (((bringI many 41)))) := hM.old0 rfl rfl
              have f48 : ac_.tmps[48]? = some (.bool true) := hM.eqv 4 rfl (hp 4 rfl) rfl rfl
              refine ⟨f48, ?_⟩
              have hF : Fr 73 ac_ (Env.nil.put 4 (.int .i64 (((bringI many 41))))) := (hM.fr.add f4)
              exact OpVal.draw hF (opMove rfl) ⟨G, fun _ _ h => h, ⟨hC, hB, hg⟩, rfl⟩
            refine dsOn (j := 9) rfl rfl ?_ ?_
            · intro done G w ac_ hd hp hn ⟨hC, hB, hg⟩ hM
              have f51 : ac_.tmps[51]? = some (.int .i64 (((bringI many 41)))) := hM.eqv 7 rfl (hp 7 rfl) rfl rfl
              have f48 : ac_.tmps[48]? = some (.bool true) := hM.eqv 4 rfl (hp 4 rfl) rfl rfl
              refine ⟨f48, ?_⟩
              have hF : Fr 73 ac_ (Env.nil.put 51 (.int .i64 (((bringI many 41))))) := (hM.fr.add f51)
              exact OpVal.draw hF (opMin rfl rfl) ⟨G, fun _ _ h => h, ⟨hC, hB, hg⟩, rfl⟩
            refine dsOn (j := 10) rfl rfl ?_ ?_
            · intro done G w ac_ hd hp hn ⟨hC, hB, hg⟩ hM
              have f50 : ac_.tmps[50]? = some (.int .i64 (((((((mget ms.list 3).getD []))).length : Nat) : Int))) := hM.eqv 6 rfl (hp 6 rfl) rfl rfl
              have f52 : ac_.tmps[52]? = some (.int .i64 (min (((bringI many 41))) (((4 : Nat) : Int)))) := hM.eqv 8 rfl (hp 8 rfl) rfl rfl
              have f48 : ac_.tmps[48]? = some (.bool true) := hM.eqv 4 rfl (hp 4 rfl) rfl rfl
              refine ⟨f48, ?_⟩
              have hF : Fr 73 ac_ ((Env.nil.put 50 (.int .i64 (((((((mget ms.list 3).getD []))).length : Nat) : Int)))).put 52 (.int .i64 (min (((bringI many 41))) (((4 : Nat) : Int))))) := ((hM.fr.add f50).add f52)
              exact OpVal.draw hF (OpVal.cast (opEql rfl rfl) (congrArg Value.bool h31)) ⟨G, fun _ _ h => h, ⟨hC, hB, hg⟩, rfl⟩
            refine dsNone (j := 11) rfl ?_ ?_
            · intro done G w ac_ hd hp hn ⟨hC, hB, hg⟩ hM
              have f48 : ac_.tmps[48]? = some (.bool true) := hM.eqv 4 rfl (hp 4 rfl) rfl rfl
              have f53 : ac_.tmps[53]? = some (.bool true) := hM.eqv 9 rfl (hp 9 rfl) rfl rfl
              have hF : Fr 73 ac_ ((Env.nil.put 48 (.bool true)).put 53 (.bool true)) := ((hM.fr.add f48).add f53)
              exact OpVal.draw hF (opPickT rfl rfl) ⟨G, fun _ _ h => h, ⟨hC, hB, hg⟩, rfl⟩
            refine dsNone (j := 12) rfl ?_ ?_
            · intro done G w ac_ hd hp hn ⟨hC, hB, hg⟩ hM
              have f54 : ac_.tmps[54]? = some (.bool true) := hM.eqv 10 rfl (hp 10 rfl) rfl rfl
              have hF : Fr 73 ac_ (Env.nil.put 54 (.bool true)) := (hM.fr.add f54)
              exact OpVal.draw hF (opMove rfl) ⟨G, fun _ _ h => h, ⟨hC, hB, hg⟩, rfl⟩
            refine dsOn (j := 13) rfl rfl ?_ ?_
            · intro done G w ac_ hd hp hn ⟨hC, hB, hg⟩ hM
              have f4 : ac_.tmps[4]? = some (.int .i64 (((bringI many 41)))) := hM.old0 rfl rfl
              have f55 : ac_.tmps[55]? = some (.bool true) := hM.eqv 11 rfl (hp 11 rfl) rfl rfl
              refine ⟨f55, ?_⟩
              have hF : Fr 73 ac_ (Env.nil.put 4 (.int .i64 (((bringI many 41))))) := (hM.fr.add f4)
              exact OpVal.draw hF (opMove rfl) ⟨G, fun _ _ h => h, ⟨hC, hB, hg⟩, rfl⟩
            refine dsOn (j := 14) rfl rfl ?_ ?_
            · intro done G w ac_ hd hp hn ⟨hC, hB, hg⟩ hM
              have f56 : ac_.tmps[56]? = some (.int .i64 (((bringI many 41)))) := hM.eqv 12 rfl (hp 12 rfl) rfl rfl
              have f55 : ac_.tmps[55]? = some (.bool true) := hM.eqv 11 rfl (hp 11 rfl) rfl rfl
              refine ⟨f55, ?_⟩
              have hF : Fr 73 ac_ (Env.nil.put 56 (.int .i64 (((bringI many 41))))) := (hM.fr.add f56)
              exact OpVal.draw hF (OpVal.cast (opEql rfl rfl) (congrArg Value.bool h32)) ⟨G, fun _ _ h => h, ⟨hC, hB, hg⟩, rfl⟩
            refine dsOn (j := 15) rfl rfl ?_ ?_
            · intro done G w ac_ hd hp hn ⟨hC, hB, hg⟩ hM
              have f57 : ac_.tmps[57]? = some (.bool false) := hM.eqv 13 rfl (hp 13 rfl) rfl rfl
              have f55 : ac_.tmps[55]? = some (.bool true) := hM.eqv 11 rfl (hp 11 rfl) rfl rfl
              refine ⟨f55, ?_⟩
              have hF : Fr 73 ac_ (Env.nil.put 57 (.bool false)) := (hM.fr.add f57)
              exact OpVal.draw hF (opMove rfl) ⟨G, fun _ _ h => h, ⟨hC, hB, hg⟩, rfl⟩
            refine dsOn (j := 16) rfl rfl ?_ ?_
            · intro done G w ac_ hd hp hn ⟨hC, hB, hg⟩ hM
              have f8 : ac_.tmps[8]? = some (.slice (some ⟨b37, o38, none⟩) (((((mget ms.list 3).getD []))).length) cap26) := hM.old0 rfl rfl
              have f58 : ac_.tmps[58]? = some (.bool false) := hM.eqv 14 rfl (hp 14 rfl) rfl rfl
              refine ⟨f58, ?_⟩
              have hF : Fr 73 ac_ (Env.nil.put 8 (.slice (some ⟨b37, o38, none⟩) (((((mget ms.list 3).getD []))).length) cap26)) := (hM.fr.add f8)
              exact OpVal.draw hF (opMove rfl) ⟨G, fun _ _ h => h, ⟨hC, hB, hg⟩, rfl⟩
            refine dsOn (j := 17) rfl rfl ?_ ?_
            · intro done G w ac_ hd hp hn ⟨hC, hB, hg⟩ hM
              have f8 : ac_.tmps[8]? = some (.slice (some ⟨b37, o38, none⟩) (((((mget ms.list 3).getD []))).length) cap26) := hM.old0 rfl rfl
              have f58 : ac_.tmps[58]? = some (.bool false) := hM.eqv 14 rfl (hp 14 rfl) rfl rfl
              refine ⟨f58, ?_⟩
              have hF : Fr 73 ac_ (Env.nil.put 8 (.slice (some ⟨b37, o38, none⟩) (((((mget ms.list 3).getD []))).length) cap26)) := (hM.fr.add f8)
              exact OpVal.draw hF (opMove rfl) ⟨G, fun _ _ h => h, ⟨hC, hB, hg⟩, rfl⟩
            refine dsOn (j := 18) rfl rfl ?_ ?_
            · intro done G w ac_ hd hp hn ⟨hC, hB, hg⟩ hM
              have f60 : ac_.tmps[60]? = some (.slice (some ⟨b37, o38, none⟩) (((((mget ms.list 3).getD []))).length) cap26) := hM.eqv 16 rfl (hp 16 rfl) rfl rfl
              have f58 : ac_.tmps[58]? = some (.bool false) := hM.eqv 14 rfl (hp 14 rfl) rfl rfl
              refine ⟨f58, ?_⟩
              have hF : Fr 73 ac_ (Env.nil.put 60 (.slice (some ⟨b37, o38, none⟩) (((((mget ms.list 3).getD []))).length) cap26)) := (hM.fr.add f60)
              exact OpVal.draw hF (opLen rfl isl54) ⟨G, fun _ _ h => h, ⟨hC, hB, hg⟩, rfl⟩
            refine dsOn (j := 19) rfl rfl ?_ ?_
            · intro done G w ac_ hd hp hn ⟨hC, hB, hg⟩ hM
              have f61 : ac_.tmps[61]? = some (.int .i64 (((((((mget ms.list 3).getD []))).length : Nat) : Int))) := hM.eqv 17 rfl (hp 17 rfl) rfl rfl
              have f58 : ac_.tmps[58]? = some (.bool false) := hM.eqv 14 rfl (hp 14 rfl) rfl rfl
              refine ⟨f58, ?_⟩
              have hF : Fr 73 ac_ (Env.nil.put 61 (.int .i64 (((((((mget ms.list 3).getD []))).length : Nat) : Int)))) := (hM.fr.add f61)
              exact OpVal.draw hF (opDecr rfl rfl ((f4_fin hi1 hms hin h23).2.2.2 (by simpa using h32)).1 (by have q := (f4_fin hi1 hms hin h23).2.2.1; omega)) ⟨G, fun _ _ h => h, ⟨hC, hB, hg⟩, rfl⟩
            refine dsOn (j := 20) rfl rfl ?_ ?_
            · intro done G w ac_ hd hp hn ⟨hC, hB, hg⟩ hM
              have f59 : ac_.tmps[59]? = some (.slice (some ⟨b37, o38, none⟩) (((((mget ms.list 3).getD []))).length) cap26) := hM.eqv 15 rfl (hp 15 rfl) rfl rfl
              have f62 : ac_.tmps[62]? = some (.int .i64 ((((((((mget ms.list 3).getD []))).length - 1) : Nat) : Int))) := hM.eqv 18 rfl (hp 18 rfl) rfl rfl
              have f58 : ac_.tmps[58]? = some (.bool false) := hM.eqv 14 rfl (hp 14 rfl) rfl rfl
              refine ⟨f58, ?_⟩
              have hF : Fr 73 ac_ ((Env.nil.put 59 (.slice (some ⟨b37, o38, none⟩) (((((mget ms.list 3).getD []))).length) cap26)).put 62 (.int .i64 ((((((((mget ms.list 3).getD []))).length - 1) : Nat) : Int)))) := ((hM.fr.add f59).add f62)
              exact OpVal.draw hF (opIndexAddr rfl rfl slo54 (by have q := ((f4_fin hi1 hms hin h23).2.2.2 (by simpa using h32)).1; omega)) ⟨G, fun _ _ h => h, ⟨hC, hB, hg⟩, rfl⟩
            refine dsOn (j := 21) rfl rfl ?_ ?_
            · intro done G w ac_ hd hp hn ⟨hC, hB, hg⟩ hM
              replace hr40 := hr40.mono hg
              have f63 : ac_.tmps[63]? = some (.pointer (some ⟨b37, o38 + ((((((mget ms.list 3).getD []))).length - 1)) * 33, none⟩)) := hM.eqv 19 rfl (hp 19 rfl) rfl rfl
              have f58 : ac_.tmps[58]? = some (.bool false) := hM.eqv 14 rfl (hp 14 rfl) rfl rfl
              refine ⟨f58, ?_⟩
              have hF : Fr 73 ac_ (Env.nil.put 63 (.pointer (some ⟨b37, o38 + ((((((mget ms.list 3).getD []))).length - 1)) * 33, none⟩))) := (hM.fr.add f63)
              exact OpVal.draw hF (opLoadRow (cs := x35.cells) rfl (RowG.range hC.holds hr40) row28 (by simp [Mark.cells, Do.cells, Word.cells])) ⟨G, fun _ _ h => h, ⟨hC, hB, hg⟩, rfl⟩
            refine dsOn (j := 22) rfl rfl ?_ ?_
            · intro done G w ac_ hd hp hn ⟨hC, hB, hg⟩ hM
              have f4 : ac_.tmps[4]? = some (.int .i64 (((bringI many 41)))) := hM.old0 rfl rfl
              have f58 : ac_.tmps[58]? = some (.bool false) := hM.eqv 14 rfl (hp 14 rfl) rfl rfl
              refine ⟨f58, ?_⟩
              have hF : Fr 73 ac_ (Env.nil.put 4 (.int .i64 (((bringI many 41))))) := (hM.fr.add f4)
              exact OpVal.draw hF (opMove rfl) ⟨G, fun _ _ h => h, ⟨hC, hB, hg⟩, rfl⟩
            refine dsOn (j := 23) rfl rfl ?_ ?_
            · intro done G w ac_ hd hp hn ⟨hC, hB, hg⟩ hM
              have f65 : ac_.tmps[65]? = some (.int .i64 (((bringI many 41)))) := hM.eqv 21 rfl (hp 21 rfl) rfl rfl
              have f58 : ac_.tmps[58]? = some (.bool false) := hM.eqv 14 rfl (hp 14 rfl) rfl rfl
              refine ⟨f58, ?_⟩
              have hF : Fr 73 ac_ (Env.nil.put 65 (.int .i64 (((bringI many 41))))) := (hM.fr.add f65)
              exact drawCallS hF rfl co19 rfl (mark_ret _ _ hC.holds (((bringI many 41))) ((0 : UInt8))) (fun w' hk => ⟨G, fun _ _ h => h, ⟨hC.trans hk, hB.ext hk, hg⟩, rfl⟩)
            exact dsNil
          · intro done G w ac_ hall htl ⟨hC, hB, hg⟩ hM
            replace hJms := hJms.mono hg
            replace hs33 := hs33.mono hg
            replace hr40 := hr40.mono hg
            have f55 : ac_.tmps[55]? = some (.bool true) := hM.eqv 11 rfl (hall 11 rfl) rfl rfl
            have f58 : ac_.tmps[58]? = some (.bool false) := hM.eqv 14 rfl (hall 14 rfl) rfl rfl
            have f64 : ac_.tmps[64]? = some (.agg x35.cells.toArray) := hM.eqv 20 rfl (hall 20 rfl) rfl rfl
            have f66 : ac_.tmps[66]? = some (.agg (((markI (((bringI many 41))) ((0 : UInt8))))).cells.toArray) := hM.eqv 22 rfl (hall 22 rfl) rfl rfl
            refine ⟨((((Env.nil.put 55 (.bool true)).put 58 (.bool false)).put 64 (.agg x35.cells.toArray)).put 66 (.agg (((markI (((bringI many 41))) ((0 : UInt8))))).cells.toArray)), ((((hM.fr.add f55).add f58).add f64).add f66), ?_⟩
            clear hM hall htl
            refine wlOn rfl rfl ?_
            refine wlVal (opEqRow (eq28 _ x35 (((markI (((bringI many 41))) ((0 : UInt8)))))) eg28 rfl rfl) rfl ?_
            refine wlOn rfl rfl ?_
            refine wlVal (opPickF rfl rfl) rfl ?_
            refine wlVal (opPickT rfl rfl) rfl ?_
            refine wlVal (opMove rfl) rfl ?_
            cases h43 : decide (x35 = ((markI (((bringI many 41))) ((0 : UInt8)))))
            · skip
              exact absurd (((f4_fin hi1 hms hin h23).2.2.2 (by simpa using h32)).2 _ hx36) (of_decide_eq_false h43)
            · skip
              refine wlOn rfl rfl ?_
              refine wlCallS hC hB rfl co17 rfl rfl (awake_ret _ _ hC.holds ) ?_; intro w hk hC hB
              refine wlVal (opPickT rfl rfl) rfl ?_
              refine wlVal (opAssign rfl) rfl ?_
              refine wlThen ?_
              refine wcRet ?_
              exact fun ac_ ha => hQ _ _ _ (results1 ha rfl rfl) ha.df (endS hC hw rfl)
        · skip
          refine wcDrawT 23 fmix (by kernel_rfl) (by kernel_rfl) (by kernel_rfl) (by kernel_rfl) (vAt [(fun _ v_ => v_ = (.agg (((gR (lists ms) (most ms.crew)).1)).cells.toArray)), (fun _ v_ => v_ = (.bool (((gR (lists ms) (most ms.crew)).2)))), (fun _ v_ => v_ = (.agg (((markI 1 ((0 : UInt8))))).cells.toArray)), (fun _ v_ => v_ = (.bool true)), (fun _ v_ => v_ = (.bool true)), (fun _ v_ => v_ = (.slice A25 (((((mget ms.list 3).getD []))).length) cap26)), (fun _ v_ => v_ = (.int .i64 (((((((mget ms.list 3).getD []))).length : Nat) : Int)))), (fun _ v_ => v_ = (.int .i64 (((bringI many 41))))), (fun _ v_ => v_ = (.int .i64 (min (((bringI many 41))) (((4 : Nat) : Int))))), (fun _ v_ => v_ = (.bool true)), (fun _ v_ => v_ = (.bool true)), (fun _ v_ => v_ = (.bool true)), (fun _ v_ => v_ = (.int .i64 (((bringI many 41))))), (fun _ v_ => v_ = (.bool true)), (fun _ v_ => v_ = (.bool true)), (fun _ v_ => v_ = undef), (fun _ v_ => v_ = undef), (fun _ v_ => v_ = undef), (fun _ v_ => v_ = undef), (fun _ v_ => v_ = undef), (fun _ v_ => v_ = undef), (fun _ v_ => v_ = undef), (fun _ v_ => v_ = undef)]) (fun _ _ G' w => Cx w0 G0 G' w ⟨[], [(b6, om), (l7, qm)]⟩ ∧ Bxs G' w w0.heap.size ([(b24, 28, (((gR (lists ms) (most ms.crew)).1)).cells)] ++ (Option.toList o27 ++ [])) ⟨[], [(b6, om), (l7, qm)]⟩ ∧ GLe G G') G (vAt_mono ⟨fun _ _ _ _ h => h, fun _ _ _ _ h => h, fun _ _ _ _ h => h, fun _ _ _ _ h => h, fun _ _ _ _ h => h, fun _ _ _ _ h => h, fun _ _ _ _ h => h, fun _ _ _ _ h => h, fun _ _ _ _ h => h, fun _ _ _ _ h => h, fun _ _ _ _ h => h, fun _ _ _ _ h => h, fun _ _ _ _ h => h, fun _ _ _ _ h => h, fun _ _ _ _ h => h, fun _ _ _ _ h => h, fun _ _ _ _ h => h, fun _ _ _ _ h => h, fun _ _ _ _ h => h, fun _ _ _ _ h => h, fun _ _ _ _ h => h, fun _ _ _ _ h => h, fun _ _ _ _ h => h, trivial⟩) (fun _ _ => ⟨hC.drew, hB.drew, fun _ _ h => h⟩) ?_ ?_
          · refine dsNone (j := 1) rfl ?_ ?_
            · intro done G w ac_ hd hp hn ⟨hC, hB, hg⟩ hM
              have f6 : ac_.tmps[6]? = some (.pointer (some ⟨b24, 0, none⟩)) := hM.old0 rfl rfl
              have hF : Fr 73 ac_ (Env.nil.put 6 (.pointer (some ⟨b24, 0, none⟩))) := (hM.fr.add f6)
              exact OpVal.draw hF (opLoadRow (cs := (((gR (lists ms) (most ms.crew)).1)).cells) rfl (hB.range (i := 0) (m := 33) rfl (by simp [Mark.cells, Do.cells, Word.cells])) row28 (by simp [Mark.cells, Do.cells, Word.cells])) ⟨G, fun _ _ h => h, ⟨hC, hB, hg⟩, rfl⟩
            refine dsNone (j := 2) rfl ?_ ?_
            · intro done G w ac_ hd hp hn ⟨hC, hB, hg⟩ hM
              have f7 : ac_.tmps[7]? = some (.bool (((gR (lists ms) (most ms.crew)).2))) := hM.old0 rfl rfl
              have hF : Fr 73 ac_ (Env.nil.put 7 (.bool (((gR (lists ms) (most ms.crew)).2)))) := (hM.fr.add f7)
              exact OpVal.draw hF (opMove rfl) ⟨G, fun _ _ h => h, ⟨hC, hB, hg⟩, rfl⟩
            refine dsNone (j := 3) rfl ?_ ?_
            · intro done G w ac_ hd hp hn ⟨hC, hB, hg⟩ hM
              have hF : Fr 73 ac_ Env.nil := hM.fr
              exact drawCallS hF rfl co19 rfl (mark_ret _ _ hC.holds 1 ((0 : UInt8))) (fun w' hk => ⟨G, fun _ _ h => h, ⟨hC.trans hk, hB.ext hk, hg⟩, rfl⟩)
            refine dsNone (j := 4) rfl ?_ ?_
            · intro done G w ac_ hd hp hn ⟨hC, hB, hg⟩ hM
              have f44 : ac_.tmps[44]? = some (.agg (((gR (lists ms) (most ms.crew)).1)).cells.toArray) := hM.eqv 0 rfl (hp 0 rfl) rfl rfl
              have f45 : ac_.tmps[45]? = some (.bool (((gR (lists ms) (most ms.crew)).2))) := hM.eqv 1 rfl (hp 1 rfl) rfl rfl
              have f46 : ac_.tmps[46]? = some (.agg (((markI 1 ((0 : UInt8))))).cells.toArray) := hM.eqv 2 rfl (hp 2 rfl) rfl rfl
              have hF : Fr 73 ac_ (((Env.nil.put 44 (.agg (((gR (lists ms) (most ms.crew)).1)).cells.toArray)).put 45 (.bool (((gR (lists ms) (most ms.crew)).2)))).put 46 (.agg (((markI 1 ((0 : UInt8))))).cells.toArray)) := (((hM.fr.add f44).add f45).add f46)
              exact drawCallS hF rfl co25 rfl (RetS.cast (is_ret _ _ hC.holds (((gR (lists ms) (most ms.crew)).1)) (((gR (lists ms) (most ms.crew)).2)) (((markI 1 ((0 : UInt8)))))) (congrArg Value.bool h30)) (fun w' hk => ⟨G, fun _ _ h => h, ⟨hC.trans hk, hB.ext hk, hg⟩, rfl⟩)
            refine dsNone (j := 5) rfl ?_ ?_
            · intro done G w ac_ hd hp hn ⟨hC, hB, hg⟩ hM
              have f47 : ac_.tmps[47]? = some (.bool true) := hM.eqv 3 rfl (hp 3 rfl) rfl rfl
              have hF : Fr 73 ac_ (Env.nil.put 47 (.bool true)) := (hM.fr.add f47)
              exact OpVal.draw hF (opMove rfl) ⟨G, fun _ _ h => h, ⟨hC, hB, hg⟩, rfl⟩
            refine dsOn (j := 6) rfl rfl ?_ ?_
            · intro done G w ac_ hd hp hn ⟨hC, hB, hg⟩ hM
              have f8 : ac_.tmps[8]? = some (.slice A25 (((((mget ms.list 3).getD []))).length) cap26) := hM.old0 rfl rfl
              have f48 : ac_.tmps[48]? = some (.bool true) := hM.eqv 4 rfl (hp 4 rfl) rfl rfl
              refine ⟨f48, ?_⟩
              have hF : Fr 73 ac_ (Env.nil.put 8 (.slice A25 (((((mget ms.list 3).getD []))).length) cap26)) := (hM.fr.add f8)
              exact OpVal.draw hF (opMove rfl) ⟨G, fun _ _ h => h, ⟨hC, hB, hg⟩, rfl⟩
            refine dsOn (j := 7) rfl rfl ?_ ?_
            · intro done G w ac_ hd hp hn ⟨hC, hB, hg⟩ hM
              have f49 : ac_.tmps[49]? = some (.slice A25 (((((mget ms.list 3).getD []))).length) cap26) := hM.eqv 5 rfl (hp 5 rfl) rfl rfl
              have f48 : ac_.tmps[48]? = some (.bool true) := hM.eqv 4 rfl (hp 4 rfl) rfl rfl
              refine ⟨f48, ?_⟩
              have hF : Fr 73 ac_ (Env.nil.put 49 (.slice A25 (((((mget ms.list 3).getD []))).length) cap26)) := (hM.fr.add f49)
              exact OpVal.draw hF (opLen rfl isl54) ⟨G, fun _ _ h => h, ⟨hC, hB, hg⟩, rfl⟩
            refine dsOn (j := 8) rfl rfl ?_ ?_
            · intro done G w ac_ hd hp hn ⟨hC, hB, hg⟩ hM
              have f4 : ac_.tmps[4]? = some (.int .i64 (((bringI many 41)))) := hM.old0 rfl rfl
              have f48 : ac_.tmps[48]? = some (.bool true) := hM.eqv 4 rfl (hp 4 rfl) rfl rfl
              refine ⟨f48, ?_⟩
              have hF : Fr 73 ac_ (Env.nil.put 4 (.int .i64 (((bringI many 41))))) := (hM.fr.add f4)
              exact OpVal.draw hF (opMove rfl) ⟨G, fun _ _ h => h, ⟨hC, hB, hg⟩, rfl⟩
            refine dsOn (j := 9) rfl rfl ?_ ?_
            · intro done G w ac_ hd hp hn ⟨hC, hB, hg⟩ hM
              have f51 : ac_.tmps[51]? = some (.int .i64 (((bringI many 41)))) := hM.eqv 7 rfl (hp 7 rfl) rfl rfl
              have f48 : ac_.tmps[48]? = some (.bool true) := hM.eqv 4 rfl (hp 4 rfl) rfl rfl
              refine ⟨f48, ?_⟩
              have hF : Fr 73 ac_ (Env.nil.put 51 (.int .i64 (((bringI many 41))))) := (hM.fr.add f51)
              exact OpVal.draw hF (opMin rfl rfl) ⟨G, fun _ _ h => h, ⟨hC, hB, hg⟩, rfl⟩
            refine dsOn (j := 10) rfl rfl ?_ ?_
            · intro done G w ac_ hd hp hn ⟨hC, hB, hg⟩ hM
              have f50 : ac_.tmps[50]? = some (.int .i64 (((((((mget ms.list 3).getD []))).length : Nat) : Int))) := hM.eqv 6 rfl (hp 6 rfl) rfl rfl
              have f52 : ac_.tmps[52]? = some (.int .i64 (min (((bringI many 41))) (((4 : Nat) : Int)))) := hM.eqv 8 rfl (hp 8 rfl) rfl rfl
              have f48 : ac_.tmps[48]? = some (.bool true) := hM.eqv 4 rfl (hp 4 rfl) rfl rfl
              refine ⟨f48, ?_⟩
              have hF : Fr 73 ac_ ((Env.nil.put 50 (.int .i64 (((((((mget ms.list 3).getD []))).length : Nat) : Int)))).put 52 (.int .i64 (min (((bringI many 41))) (((4 : Nat) : Int))))) := ((hM.fr.add f50).add f52)
              exact OpVal.draw hF (OpVal.cast (opEql rfl rfl) (congrArg Value.bool h31)) ⟨G, fun _ _ h => h, ⟨hC, hB, hg⟩, rfl⟩
            refine dsNone (j := 11) rfl ?_ ?_
            · intro done G w ac_ hd hp hn ⟨hC, hB, hg⟩ hM
              have f48 : ac_.tmps[48]? = some (.bool true) := hM.eqv 4 rfl (hp 4 rfl) rfl rfl
              have f53 : ac_.tmps[53]? = some (.bool true) := hM.eqv 9 rfl (hp 9 rfl) rfl rfl
              have hF : Fr 73 ac_ ((Env.nil.put 48 (.bool true)).put 53 (.bool true)) := ((hM.fr.add f48).add f53)
              exact OpVal.draw hF (opPickT rfl rfl) ⟨G, fun _ _ h => h, ⟨hC, hB, hg⟩, rfl⟩
            refine dsNone (j := 12) rfl ?_ ?_
            · intro done G w ac_ hd hp hn ⟨hC, hB, hg⟩ hM
              have f54 : ac_.tmps[54]? = some (.bool true) := hM.eqv 10 rfl (hp 10 rfl) rfl rfl
              have hF : Fr 73 ac_ (Env.nil.put 54 (.bool true)) := (hM.fr.add f54)
              exact OpVal.draw hF (opMove rfl) ⟨G, fun _ _ h => h, ⟨hC, hB, hg⟩, rfl⟩
            refine dsOn (j := 13) rfl rfl ?_ ?_
            · intro done G w ac_ hd hp hn ⟨hC, hB, hg⟩ hM
              have f4 : ac_.tmps[4]? = some (.int .i64 (((bringI many 41)))) := hM.old0 rfl rfl
              have f55 : ac_.tmps[55]? = some (.bool true) := hM.eqv 11 rfl (hp 11 rfl) rfl rfl
              refine ⟨f55, ?_⟩
              have hF : Fr 73 ac_ (Env.nil.put 4 (.int .i64 (((bringI many 41))))) := (hM.fr.add f4)
              exact OpVal.draw hF (opMove rfl) ⟨G, fun _ _ h => h, ⟨hC, hB, hg⟩, rfl⟩
            refine dsOn (j := 14) rfl rfl ?_ ?_
            · intro done G w ac_ hd hp hn ⟨hC, hB, hg⟩ hM
              have f56 : ac_.tmps[56]? = some (.int .i64 (((bringI many 41)))) := hM.eqv 12 rfl (hp 12 rfl) rfl rfl
              have f55 : ac_.tmps[55]? = some (.bool true) := hM.eqv 11 rfl (hp 11 rfl) rfl rfl
              refine ⟨f55, ?_⟩
              have hF : Fr 73 ac_ (Env.nil.put 56 (.int .i64 (((bringI many 41))))) := (hM.fr.add f56)
              exact OpVal.draw hF (OpVal.cast (opEql rfl rfl) (congrArg Value.bool h32)) ⟨G, fun _ _ h => h, ⟨hC, hB, hg⟩, rfl⟩
            refine dsOn (j := 15) rfl rfl ?_ ?_
            · intro done G w ac_ hd hp hn ⟨hC, hB, hg⟩ hM
              have f57 : ac_.tmps[57]? = some (.bool true) := hM.eqv 13 rfl (hp 13 rfl) rfl rfl
              have f55 : ac_.tmps[55]? = some (.bool true) := hM.eqv 11 rfl (hp 11 rfl) rfl rfl
              refine ⟨f55, ?_⟩
              have hF : Fr 73 ac_ (Env.nil.put 57 (.bool true)) := (hM.fr.add f57)
              exact OpVal.draw hF (opMove rfl) ⟨G, fun _ _ h => h, ⟨hC, hB, hg⟩, rfl⟩
            refine dsOff (j := 16) (b' := true) rfl rfl rfl ?_ ?_
            · intro done G w ac_ hd hp hn ⟨hC, hB, hg⟩ hM
              have f58 : ac_.tmps[58]? = some (.bool true) := hM.eqv 14 rfl (hp 14 rfl) rfl rfl
              exact ⟨f58, ⟨hC, hB, hg⟩, rfl⟩
            refine dsOff (j := 17) (b' := true) rfl rfl rfl ?_ ?_
            · intro done G w ac_ hd hp hn ⟨hC, hB, hg⟩ hM
              have f58 : ac_.tmps[58]? = some (.bool true) := hM.eqv 14 rfl (hp 14 rfl) rfl rfl
              exact ⟨f58, ⟨hC, hB, hg⟩, rfl⟩
            refine dsOff (j := 18) (b' := true) rfl rfl rfl ?_ ?_
            · intro done G w ac_ hd hp hn ⟨hC, hB, hg⟩ hM
              have f58 : ac_.tmps[58]? = some (.bool true) := hM.eqv 14 rfl (hp 14 rfl) rfl rfl
              exact ⟨f58, ⟨hC, hB, hg⟩, rfl⟩
            refine dsOff (j := 19) (b' := true) rfl rfl rfl ?_ ?_
            · intro done G w ac_ hd hp hn ⟨hC, hB, hg⟩ hM
              have f58 : ac_.tmps[58]? = some (.bool true) := hM.eqv 14 rfl (hp 14 rfl) rfl rfl
              exact ⟨f58, ⟨hC, hB, hg⟩, rfl⟩
            refine dsOff (j := 20) (b' := true) rfl rfl rfl ?_ ?_
            · intro done G w ac_ hd hp hn ⟨hC, hB, hg⟩ hM
              have f58 : ac_.tmps[58]? = some (.bool true) := hM.eqv 14 rfl (hp 14 rfl) rfl rfl
              exact ⟨f58, ⟨hC, hB, hg⟩, rfl⟩
            refine dsOff (j := 21) (b' := true) rfl rfl rfl ?_ ?_
            · intro done G w ac_ hd hp hn ⟨hC, hB, hg⟩ hM
              have f58 : ac_.tmps[58]? = some (.bool true) := hM.eqv 14 rfl (hp 14 rfl) rfl rfl
              exact ⟨f58, ⟨hC, hB, hg⟩, rfl⟩
            refine dsOff (j := 22) (b' := true) rfl rfl rfl ?_ ?_
            · intro done G w ac_ hd hp hn ⟨hC, hB, hg⟩ hM
              have f58 : ac_.tmps[58]? = some (.bool true) := hM.eqv 14 rfl (hp 14 rfl) rfl rfl
              exact ⟨f58, ⟨hC, hB, hg⟩, rfl⟩
            refine dsOff (j := 23) (b' := true) rfl rfl rfl ?_ ?_
            · intro done G w ac_ hd hp hn ⟨hC, hB, hg⟩ hM
              have f58 : ac_.tmps[58]? = some (.bool true) := hM.eqv 14 rfl (hp 14 rfl) rfl rfl
              exact ⟨f58, ⟨hC, hB, hg⟩, rfl⟩
            exact dsNil
          · intro done G w ac_ hall htl ⟨hC, hB, hg⟩ hM
            replace hJms := hJms.mono hg
            replace hO28 := hO28.mono hg
            have f55 : ac_.tmps[55]? = some (.bool true) := hM.eqv 11 rfl (hall 11 rfl) rfl rfl
            have f58 : ac_.tmps[58]? = some (.bool true) := hM.eqv 14 rfl (hall 14 rfl) rfl rfl
            have f64 : ac_.tmps[64]? = some undef := hM.eqv 20 rfl (hall 20 rfl) rfl rfl
            have f66 : ac_.tmps[66]? = some undef := hM.eqv 22 rfl (hall 22 rfl) rfl rfl
            refine ⟨((((Env.nil.put 55 (.bool true)).put 58 (.bool true)).put 64 undef).put 66 undef), ((((hM.fr.add f55).add f58).add f64).add f66), ?_⟩
            clear hM hall htl
            refine wlOff rfl rfl rfl rfl ?_
            refine wlOn rfl rfl ?_
            refine wlVal (opPickT rfl rfl) rfl ?_
            refine wlVal (opPickT rfl rfl) rfl ?_
            refine wlVal (opMove rfl) rfl ?_
            refine wlOn rfl rfl ?_
            refine wlCallS hC hB rfl co17 rfl rfl (awake_ret _ _ hC.holds ) ?_; intro w hk hC hB
            refine wlVal (opPickT rfl rfl) rfl ?_
            refine wlVal (opAssign rfl) rfl ?_
            refine wlThen ?_
            refine wcRet ?_
            exact fun ac_ ha => hQ _ _ _ (results1 ha rfl rfl) ha.df (endS hC hw rfl)
  · skip
    refine wcCondT rfl ?_
    refine wcSkip ?_
    refine wcOf ?_
    refine wcSeq ?_
    refine wcBlock ?_
    refine wcSeq ?_
    refine wcRegion ?_
    refine wlVal (opMove rfl) rfl ?_
    refine wlVal (opMove rfl) rfl ?_
    refine wlCallS hC hB rfl co19 rfl rfl (mark_ret _ _ hC.holds (((i : Nat) : Int)) ((0 : UInt8))) ?_; intro w hk hC hB
    refine wlCallM (A := []) (O := [(b6, om), (l7, qm)]) (B := []) hC hB rfl co12 rfl rfl (vote_ret _ _ hC.holds b6 l7 _ _ ms ⟨hC.heldAt 0 rfl, hC.heldG 0 rfl⟩ ⟨hC.heldAt 1 rfl, hC.heldG 1 rfl⟩ (by have e_ := hC.hnd; simp at e_; omega) hJms 3 (((markI (((i : Nat) : Int)) ((0 : UInt8)))))) ?_; rintro v44 G O45 w hg hC hB ⟨o46, q47, rfl, h48, rfl⟩
    replace hC : Cx w0 G0 G w ⟨[], [(b6, o46), (l7, q47)]⟩ := hC
    replace hB : Bxs G w w0.heap.size [] ⟨[], [(b6, o46), (l7, q47)]⟩ := hB
    refine wlVal (opNeq rfl rfl) rfl ?_
    refine wlVal (opMove rfl) rfl ?_
    cases h49 : (((voteM ms 3 (((markI (((i : Nat) : Int)) ((0 : UInt8)))))).2)) != 0
    · skip
      refine wlOn rfl rfl ?_
      refine wlVal (opMove rfl) rfl ?_
      refine wlOn rfl rfl ?_
      refine wlCallO (bl := []) (r := []) hC hB rfl co22 rfl rfl (RetO.lend hC (fun _ _ _ _ ⟨A, cap, e, h⟩ => ⟨A, cap, e, h.any (fun _ _ _ _ h => h)⟩) (fun G_ hg_ hh_ hL_ => of_ret _ _ hh_ b6 l7 _ _ (((voteM ms 3 (((markI (((i : Nat) : Int)) ((0 : UInt8)))))).1)) (hL_ (b6, o46) (by simp)) (hL_ (l7, q47) (by simp)) (show MarksO G_ o46 q47 l7 (((voteM ms 3 (((markI (((i : Nat) : Int)) ((0 : UInt8)))))).1)) from (h48.mono hg_)) 3)) ?_; rintro v54 G o52 w hk hC hB ⟨A50, cap51, rfl, hO53⟩
      replace h48 := h48.mono hk.gle
      refine wlOn rfl rfl ?_
      refine wlVal (opLen rfl isl54) rfl ?_
      refine wlOn rfl rfl ?_
      refine wlVal (opGtr rfl rfl) rfl ?_
      refine wlVal (opPickF rfl rfl) rfl ?_
      refine wlThen ?_
      cases h55 : decide (4 < ((((((mget (((voteM ms 3 (((markI (((i : Nat) : Int)) ((0 : UInt8)))))).1)).list 3).getD []))).length : Nat) : Int))
      · skip
        refine wcCondF rfl ?_
        refine wcSkip ?_
        refine wcOf ?_
        refine wcRegion ?_
        refine wlVal (opMove rfl) rfl ?_
        refine wlVal (opIncr rfl rfl (by have q := f4_le hin h23; omega)) rfl ?_
        refine wlVal (opAssign rfl) rfl ?_
        refine wlRound ?_
        replace hB := hB.sub ((List.sublist_append_right _ _).append_left _)
        exact (IH0 (i + 1, o46, q47, ((voteM ms 3 (((markI (((i : Nat) : Int)) ((0 : UInt8)))))).1)) _ _ ⟨hC, hB, h48, (by omega), (by have q := of_decide_eq_true h23; omega), ((f4_vote hi1 hms (f4_le hin h23)).2.2)⟩ (by have q := f4_le hin h23; show 42 - (i + 1) < 42 - i; omega)).sub (fun _ ha => (((ha.start.cons ha (t := 3) rfl).cons ha (t := 4) rfl).cons ha (t := 5) rfl))
      · skip
        exact absurd (of_decide_eq_true h55) (by have q := (f4_vote hi1 hms (f4_le hin h23)).2.1; omega)
    · skip
      exact absurd h49 (by rw [(f4_vote hi1 hms (f4_le hin h23)).1]; decide)

end Go.Proofs.Ytbmanooiphghmaa
