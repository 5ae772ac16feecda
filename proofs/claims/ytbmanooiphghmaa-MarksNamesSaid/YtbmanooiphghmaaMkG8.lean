/- What functions of the marks seat return, part 8. No condition. -/
import Derived.Test.YtbmanooiphghmaaMkG7
set_option linter.all false
namespace Go.Proofs.Ytbmanooiphghmaa
open Go Go.Gx Go.RowKit
theorem placeI_nat2 {l : List Int} {n : Int} (h : decide (placeI l n < 0) = false) : ∃ i : Nat, placeI l n = (i : Int) ∧ i < l.length ∧ True :=
  placeI_nat (by have := of_decide_eq_false h; simp; omega)
def rvGo (x : Mark) : List Mark → List Mark → Bool → Option Int × List Mark
  | [], out, put => (none, bif !put then out ++ [x] else out)
  | y :: r, out, put => bif y.seq == x.seq then (some (bif !decide (y.dig = x.dig) then 151 else 0), []) else bif !put && decide (x.seq < y.seq) then rvGo x r ((out ++ [x]) ++ [y]) true else rvGo x r (out ++ [y]) put
def cut1 (l : List Mark) : List Mark := bif decide ((4 : Int) < ((l.length : Nat) : Int)) then l.drop 1 else l
def rvoteM (m : RSt) (n : Int) (x : Mark) : RSt × Int :=
  bif decide (placeI m.crew.nodes n < 0) then (m, 110) else bif decide (x.seq ≤ m.mark.seq) then (m, 9) else bif !mayB x.seq then (m, 9) else
  match rvGo x (m.l.getD (placeI m.crew.nodes n).toNat []) [] false with
  | (some e, _) => (m, e)
  | (none, out) => (⟨m.crew, m.mark, m.l.set (placeI m.crew.nodes n).toNat (cut1 out)⟩, 0)
theorem rinv_set {m : RSt} {k : Nat} {y : List Mark} (h : RInv m) (hy : y.length ≤ 4) : RInv ⟨m.crew, m.mark, m.l.set k y⟩ :=
  ⟨by simpa using h.1, fun x hx => (List.mem_or_eq_of_mem_set hx).elim (h.2 x) (fun e => by rw [e]; exact hy)⟩
theorem co31 : callOk Try.prog 31 = true := by kernel_rfl
theorem sz54 : (Try.prog.info? 54).map (·.size) = some 1 := by kernel_rfl
theorem rvote_ret (G0 : Gh) (w0 : World) (hw : Holds G0 w0) (bm lm : Nat) (om qm : Obj) (m : RSt) (hbm : w0.heap[bm]? = some om ∧ G0 bm = none) (hlm : w0.heap[lm]? = some qm ∧ G0 lm = none) (hnem : bm ≠ lm) (hm : RMarksO G0 om qm lm m) (n : Int) (x : Mark) :
    RetM Try.prog 13 #[.pointer (some ⟨bm, 0, none⟩), .int .i64 n, .agg x.cells.toArray] G0 w0 [bm, lm] (fun G L v => ∃ o q, L = [(bm, o), (lm, q)] ∧ RMarksO G o q lm ((rvoteM m n x).1) ∧ v = (.int .i64 ((rvoteM m n x).2))) := by
  obtain ⟨v1, v2, cs3, rfl, hs5, rfl, hO7, hn8⟩ := hm
  have him := hn8
  obtain ⟨A9, cap10, rfl⟩ := hs5.form
  obtain ⟨cap11, rfl⟩ := hO7.formH
  have hC := Cx.reflH [(bm, .cells ((.int .i64 m.crew.faults) :: ((.slice A9 m.crew.nodes.length cap10) :: ((.int .i64 m.mark.seq) :: (m.mark.dig.cells ++ ((.slice (some ⟨lm, 0, none⟩) m.l.length cap11) :: []))))).toArray 70 (0, 0)), (lm, (.cells (List.toArray cs3) 54 (0, 0)))] [bm, lm] hw (by simp [hbm, hlm]) (by simp [hnem])
  have hB : Bxs G0 w0 w0.heap.size [] ⟨[bm, lm], [(bm, .cells ((.int .i64 m.crew.faults) :: ((.slice A9 m.crew.nodes.length cap10) :: ((.int .i64 m.mark.seq) :: (m.mark.dig.cells ++ ((.slice (some ⟨lm, 0, none⟩) m.l.length cap11) :: []))))).toArray 70 (0, 0)), (lm, (.cells (List.toArray cs3) 54 (0, 0)))]⟩ := Bxs.nil _ _ _
  refine callsOf Try.func13 rfl _ Try.ntmps13 rfl _ (argsCons (argsCons (argsCons argsNil (t := 0) rfl) (t := 1) rfl) (t := 2) rfl) ?_; intro Q0 hQ
  refine wcSeq ?_
  refine wcRegion ?_
  refine wlBox (cs := x.cells) hC hB rfl rfl rfl ?_; intro b12 w hk hC hB
  refine wlVal (opAssign rfl) rfl ?_
  refine wlThen ?_
  refine wcSeq ?_
  refine wcRegion ?_
  refine wlVal (opMove rfl) rfl ?_
  refine wlVal (opMove rfl) rfl ?_
  refine wlCallS hC hB rfl co39 rfl rfl (RetS.lend hC (fun G_ hg_ hh_ hL_ => place_ret _ _ hh_ bm lm _ _ m (hL_ (bm, .cells ((.int .i64 m.crew.faults) :: ((.slice A9 m.crew.nodes.length cap10) :: ((.int .i64 m.mark.seq) :: (m.mark.dig.cells ++ ((.slice (some ⟨lm, 0, none⟩) m.l.length cap11) :: []))))).toArray 70 (0, 0)) (by simp)) (hL_ (lm, (.cells (List.toArray cs3) 54 (0, 0))) (by simp)) (show RMarksO G_ (.cells ((.int .i64 m.crew.faults) :: ((.slice A9 m.crew.nodes.length cap10) :: ((.int .i64 m.mark.seq) :: (m.mark.dig.cells ++ ((.slice (some ⟨lm, 0, none⟩) m.l.length cap11) :: []))))).toArray 70 (0, 0)) ((.cells (List.toArray cs3) 54 (0, 0))) lm m from ⟨_, _, _, rfl, (hs5.mono hg_), rfl, (hO7.mono hg_), him⟩) n)) ?_; intro w hk hC hB
  refine wlVal (opAssign rfl) rfl ?_
  refine wlThen ?_
  refine wcSeq ?_
  refine wcSeq ?_
  refine wcRegion ?_
  refine wlVal (opMove rfl) rfl ?_
  refine wlVal (opLss rfl rfl) rfl ?_
  refine wlThen ?_
  cases h13 : decide (((placeI m.crew.nodes n)) < 0)
  · skip
    obtain ⟨i0, hi0, hi1, _⟩ := placeI_nat2 h13
    rw [hi0]
    obtain ⟨row0, hrow0⟩ : ∃ y_, m.l[i0]? = some y_ := ⟨_, List.getElem?_eq_getElem (by rw [him.1]; exact hi1)⟩
    refine wcCondF rfl ?_
    refine wcSkip ?_
    refine wcOf ?_
    refine wcSeq ?_
    refine wcSeq ?_
    refine wcDrawT 7 fmix (by kernel_rfl) (by kernel_rfl) (by kernel_rfl) (by kernel_rfl) (vAt [(fun _ v_ => v_ = (.pointer (some ⟨b12, 0, none⟩))), (fun _ v_ => v_ = (.int .i64 x.seq)), (fun _ v_ => v_ = (.pointer (some ⟨bm, 0, none⟩))), (fun _ v_ => v_ = (.pointer (some ⟨bm, 0, none⟩))), (fun _ v_ => v_ = (.pointer (some ⟨bm, 2, none⟩))), (fun _ v_ => v_ = (.pointer (some ⟨bm, 2, none⟩))), (fun _ v_ => v_ = (.int .i64 m.mark.seq))]) (fun _ _ G' w => Cx w0 G0 G' w ⟨[bm, lm], [(bm, .cells ((.int .i64 m.crew.faults) :: ((.slice A9 m.crew.nodes.length cap10) :: ((.int .i64 m.mark.seq) :: (m.mark.dig.cells ++ ((.slice (some ⟨lm, 0, none⟩) m.l.length cap11) :: []))))).toArray 70 (0, 0)), (lm, (.cells (List.toArray cs3) 54 (0, 0)))]⟩ ∧ Bxs G' w w0.heap.size [(b12, 28, x.cells)] ⟨[bm, lm], [(bm, .cells ((.int .i64 m.crew.faults) :: ((.slice A9 m.crew.nodes.length cap10) :: ((.int .i64 m.mark.seq) :: (m.mark.dig.cells ++ ((.slice (some ⟨lm, 0, none⟩) m.l.length cap11) :: []))))).toArray 70 (0, 0)), (lm, (.cells (List.toArray cs3) 54 (0, 0)))]⟩ ∧ GLe G0 G') G0 (vAt_mono ⟨fun _ _ _ _ h => h, fun _ _ _ _ h => h, fun _ _ _ _ h => h, fun _ _ _ _ h => h, fun _ _ _ _ h => h, fun _ _ _ _ h => h, fun _ _ _ _ h => h, trivial⟩) (fun _ _ => ⟨hC.drew, hB.drew, fun _ _ h => h⟩) ?_ ?_
    · refine dsNone (j := 1) rfl ?_ ?_
      · intro done G w ac_ hd hp hn ⟨hC, hB, hg⟩ hM
        have f5 : ac_.tmps[5]? = some (.pointer (some ⟨b12, 0, none⟩)) := hM.old0 rfl rfl
        have hF : Fr 98 ac_ (Env.nil.put 5 (.pointer (some ⟨b12, 0, none⟩))) := (hM.fr.add f5)
        exact OpVal.draw hF (opFieldAddr rfl fo28_0) ⟨G, fun _ _ h => h, ⟨hC, hB, hg⟩, rfl⟩
      refine dsNone (j := 2) rfl ?_ ?_
      · intro done G w ac_ hd hp hn ⟨hC, hB, hg⟩ hM
        have f17 : ac_.tmps[17]? = some (.pointer (some ⟨b12, 0, none⟩)) := hM.eqv 0 rfl (hp 0 rfl) rfl rfl
        have hF : Fr 98 ac_ (Env.nil.put 17 (.pointer (some ⟨b12, 0, none⟩))) := (hM.fr.add f17)
        exact OpVal.draw hF (opLoadOne (v := (.int .i64 x.seq)) rfl (hB.cell (i := 0) rfl (by simp [Mark.cells, Do.cells, Word.cells])) one3) ⟨G, fun _ _ h => h, ⟨hC, hB, hg⟩, rfl⟩
      refine dsNone (j := 3) rfl ?_ ?_
      · intro done G w ac_ hd hp hn ⟨hC, hB, hg⟩ hM
        have f0 : ac_.tmps[0]? = some (.pointer (some ⟨bm, 0, none⟩)) := hM.old0 rfl rfl
        have hF : Fr 98 ac_ (Env.nil.put 0 (.pointer (some ⟨bm, 0, none⟩))) := (hM.fr.add f0)
        exact OpVal.draw hF (opMove rfl) ⟨G, fun _ _ h => h, ⟨hC, hB, hg⟩, rfl⟩
      refine dsNone (j := 4) rfl ?_ ?_
      · intro done G w ac_ hd hp hn ⟨hC, hB, hg⟩ hM
        have f19 : ac_.tmps[19]? = some (.pointer (some ⟨bm, 0, none⟩)) := hM.eqv 2 rfl (hp 2 rfl) rfl rfl
        have hF : Fr 98 ac_ (Env.nil.put 19 (.pointer (some ⟨bm, 0, none⟩))) := (hM.fr.add f19)
        exact OpVal.draw hF (opNilCheck rfl) ⟨G, fun _ _ h => h, ⟨hC, hB, hg⟩, rfl⟩
      refine dsNone (j := 5) rfl ?_ ?_
      · intro done G w ac_ hd hp hn ⟨hC, hB, hg⟩ hM
        have f20 : ac_.tmps[20]? = some (.pointer (some ⟨bm, 0, none⟩)) := hM.eqv 3 rfl (hp 3 rfl) rfl rfl
        have hF : Fr 98 ac_ (Env.nil.put 20 (.pointer (some ⟨bm, 0, none⟩))) := (hM.fr.add f20)
        exact OpVal.draw hF (opFieldAddr rfl fo70_1) ⟨G, fun _ _ h => h, ⟨hC, hB, hg⟩, rfl⟩
      refine dsNone (j := 6) rfl ?_ ?_
      · intro done G w ac_ hd hp hn ⟨hC, hB, hg⟩ hM
        have f21 : ac_.tmps[21]? = some (.pointer (some ⟨bm, 2, none⟩)) := hM.eqv 4 rfl (hp 4 rfl) rfl rfl
        have hF : Fr 98 ac_ (Env.nil.put 21 (.pointer (some ⟨bm, 2, none⟩))) := (hM.fr.add f21)
        exact OpVal.draw hF (opFieldAddr rfl fo28_0) ⟨G, fun _ _ h => h, ⟨hC, hB, hg⟩, rfl⟩
      refine dsNone (j := 7) rfl ?_ ?_
      · intro done G w ac_ hd hp hn ⟨hC, hB, hg⟩ hM
        have f22 : ac_.tmps[22]? = some (.pointer (some ⟨bm, 2, none⟩)) := hM.eqv 5 rfl (hp 5 rfl) rfl rfl
        have hF : Fr 98 ac_ (Env.nil.put 22 (.pointer (some ⟨bm, 2, none⟩))) := (hM.fr.add f22)
        exact OpVal.draw hF (opLoadOne (v := (.int .i64 m.mark.seq)) rfl (hC.hcell 0 rfl (o := 2) (by simp [Mark.cells, Do.cells, Word.cells])) one3) ⟨G, fun _ _ h => h, ⟨hC, hB, hg⟩, rfl⟩
      exact dsNil
    · intro done G w ac_ hall htl ⟨hC, hB, hg⟩ hM
      replace hs5 := hs5.mono hg
      replace hO7 := hO7.mono hg
      have f0 : ac_.tmps[0]? = some (.pointer (some ⟨bm, 0, none⟩)) := hM.old0 rfl rfl
      have f5 : ac_.tmps[5]? = some (.pointer (some ⟨b12, 0, none⟩)) := hM.old0 rfl rfl
      have f7 : ac_.tmps[7]? = some (.int .i64 (((i0 : Nat) : Int))) := hM.old0 rfl rfl
      have f18 : ac_.tmps[18]? = some (.int .i64 x.seq) := hM.eqv 1 rfl (hall 1 rfl) rfl rfl
      have f23 : ac_.tmps[23]? = some (.int .i64 m.mark.seq) := hM.eqv 6 rfl (hall 6 rfl) rfl rfl
      refine ⟨(((((Env.nil.put 0 (.pointer (some ⟨bm, 0, none⟩))).put 5 (.pointer (some ⟨b12, 0, none⟩))).put 7 (.int .i64 (((i0 : Nat) : Int)))).put 18 (.int .i64 x.seq)).put 23 (.int .i64 m.mark.seq)), (((((hM.fr.add f0).add f5).add f7).add f18).add f23), ?_⟩
      clear hM hall htl
      refine wlVal (opLeq rfl rfl) rfl ?_
      refine wlVal (opMove rfl) rfl ?_
      cases h14 : decide (x.seq ≤ m.mark.seq)
      · skip
        refine wlOn rfl rfl ?_
        refine wlVal (opFieldAddr rfl fo28_0) rfl ?_
        refine wlOn rfl rfl ?_
        refine wlVal (opLoadOne (v := (.int .i64 x.seq)) rfl (hB.cell (i := 0) rfl (by simp [Mark.cells, Do.cells, Word.cells])) one3) rfl ?_
        refine wlOn rfl rfl ?_
        refine wlCallS hC hB rfl co31 rfl rfl (rmay_ret _ _ hC.holds x.seq) ?_; intro w hk hC hB
        refine wlOn rfl rfl ?_
        refine wlVal (opNot rfl) rfl ?_
        refine wlVal (opPickF rfl rfl) rfl ?_
        refine wlThen ?_
        cases h15 : (mayB x.seq)
        · skip
          refine wcCondT rfl ?_
          refine wcSeq ?_
          refine wcRegion ?_
          refine wlVal (opAssign rfl) rfl ?_
          refine wlThen ?_
          refine wcRet ?_
          exact fun ac_ ha => hQ _ _ _ (results1 ha rfl rfl) ha.df (endM hC [(bm, .cells ((.int .i64 m.crew.faults) :: ((.slice A9 m.crew.nodes.length cap10) :: ((.int .i64 m.mark.seq) :: (m.mark.dig.cells ++ ((.slice (some ⟨lm, 0, none⟩) m.l.length cap11) :: []))))).toArray 70 (0, 0)), (lm, (.cells (List.toArray cs3) 54 (0, 0)))] (.cons₂ _ (.cons₂ _ .slnil)) rfl ⟨_, _, rfl, (by have e_ : (rvoteM m n x).1 = m := (by simp only [rvoteM, h13, h14, h15, cond_true, cond_false, Bool.not_true, Bool.not_false]; try rfl); rw [e_]; exact ⟨_, _, _, rfl, hs5, rfl, hO7, him⟩), (by simp only [rvoteM, h13, h14, h15, cond_true, cond_false, Bool.not_true, Bool.not_false])⟩)
        · skip
          refine wcCondF rfl ?_
          refine wcSkip ?_
          refine wcOf ?_
          refine wcSeq ?_
          refine wcRegion ?_
          refine wlVal (opAssign rfl) rfl ?_
          refine wlThen ?_
          refine wcSeq ?_
          refine wcRegion ?_
          refine wlVal (opAssign rfl) rfl ?_
          refine wlThen ?_
          refine wcSeq ?_
          refine wcSeq ?_
          refine wcRegion ?_
          refine wlVal (opAssign rfl) rfl ?_
          refine wlThen ?_
          refine wcBlock ?_
          refine WC.sub (wrInd (ι := Nat × Bool × (Option Addr) × Nat × (Option Bx) × (List Mark)) (fun i => match i with | (i, put, outA, outC, outO, out) => row0.length - i) (fun i G w => match i with | (i, put, outA, outC, outO, out) => Cx w0 G0 G w ⟨[bm, lm], [(bm, .cells ((.int .i64 m.crew.faults) :: ((.slice A9 m.crew.nodes.length cap10) :: ((.int .i64 m.mark.seq) :: (m.mark.dig.cells ++ ((.slice (some ⟨lm, 0, none⟩) m.l.length cap11) :: []))))).toArray 70 (0, 0)), (lm, (.cells (List.toArray cs3) 54 (0, 0)))]⟩ ∧ Bxs G w w0.heap.size ([(b12, 28, x.cells)] ++ (Option.toList outO ++ [])) ⟨[bm, lm], [(bm, .cells ((.int .i64 m.crew.faults) :: ((.slice A9 m.crew.nodes.length cap10) :: ((.int .i64 m.mark.seq) :: (m.mark.dig.cells ++ ((.slice (some ⟨lm, 0, none⟩) m.l.length cap11) :: []))))).toArray 70 (0, 0)), (lm, (.cells (List.toArray cs3) 54 (0, 0)))]⟩ ∧ Sl G (.slice A9 m.crew.nodes.length cap10) m.crew.nodes ∧ Ow G (some (lm, 54, cs3)) 54 (.slice (some ⟨lm, 0, none⟩) m.l.length cap11) m.l ∧ Ow G outO 28 (.slice outA out.length outC) out ∧ i ≤ row0.length ∧ out.length ≤ i + (bif put then 1 else 0) ∧ rvGo x (row0.drop i) out put = rvGo x row0 [] false) (fun i => match i with | (i, put, outA, outC, outO, out) => ((((((Env.nil.put 0 (.pointer (some ⟨bm, 0, none⟩))).put 5 (.pointer (some ⟨b12, 0, none⟩))).put 7 (.int .i64 (((i0 : Nat) : Int)))).put 8 (.slice outA out.length outC)).put 9 (.bool put)).put 10 (.int .i64 (((i : Nat) : Int))))) ?_ (0, false, none, 0, none, []) _ _ ⟨hC, hB, hs5, hO7, (Ow.nil_ _ 28), (Nat.zero_le _), (Nat.zero_le _), rfl⟩) (fun _ ha => ((((((ha.start.cons ha (t := 0) rfl).cons ha (t := 5) rfl).cons ha (t := 7) rfl).cons ha (t := 8) rfl).cons ha (t := 9) rfl).cons ha (t := 10) rfl))
          rintro ⟨i, put, outA, outC, outO, out⟩ G w N0 IH0 ⟨hC, hB, hs5, hO7, hOout, hil, hol, hI⟩
          show WC _ _ _ _ ((((((Env.nil.put 0 (.pointer (some ⟨bm, 0, none⟩))).put 5 (.pointer (some ⟨b12, 0, none⟩))).put 7 (.int .i64 (((i0 : Nat) : Int)))).put 8 (.slice outA out.length outC)).put 9 (.bool put)).put 10 (.int .i64 (((i : Nat) : Int)))) w
          refine wcSeq ?_
          refine wcSeq ?_
          refine wcRegion ?_
          refine wlVal (opMove rfl) rfl ?_
          refine wlVal (opMove rfl) rfl ?_
          refine wlVal (opNilCheck rfl) rfl ?_
          refine wlVal (opFieldAddr rfl fo70_2) rfl ?_
          refine wlVal (opLoadOne (v := (.slice (some ⟨lm, 0, none⟩) m.l.length cap11)) rfl (hC.hcell 0 rfl (o := 35) (by simp [Mark.cells, Do.cells, Word.cells])) one68) rfl ?_
          refine wlVal (opMove rfl) rfl ?_
          refine wlVal (opIndexAddr rfl rfl slo68 (List.getElem?_eq_some_iff.1 hrow0).1) rfl ?_
          obtain ⟨v16, hv17, hr18⟩ := Ow.cellH hO7 hrow0
          obtain ⟨A19, cap20, rfl⟩ := hv17.form
          refine wlVal (opLoadOne (v := (.slice A19 row0.length cap20)) rfl (hr18 _ (hC.heldAt 1 rfl)) one54) rfl ?_
          refine wlVal (opLen rfl isl54) rfl ?_
          refine wlVal (opLssN rfl rfl) rfl ?_
          refine wlThen ?_
          cases h21 : decide (i < row0.length)
          · skip
            refine wcCondF rfl ?_
            refine wcExit ?_
            refine wcOf ?_
            refine wcSeq ?_
            refine wcSeq ?_
            refine wcRegion ?_
            refine wlVal (opMove rfl) rfl ?_
            refine wlVal (opNot rfl) rfl ?_
            refine wlThen ?_
            cases h22 : put
            · skip
              refine wcCondT rfl ?_
              refine wcRegion ?_
              refine wlVal (opMove rfl) rfl ?_
              refine wlVal (opLoadRow (cs := x.cells) rfl (hB.range (i := 0) (m := 33) rfl (by simp [Mark.cells, Do.cells, Word.cells])) row28 (by simp [Mark.cells, Do.cells, Word.cells])) rfl ?_
              refine wlBuildSlice (α := Mark) (ps := [(0, .tmp 83)]) (xs := [x]) (rows := [x.cells]) elo54 rfl rfl hC hB rfl rfl rfl ⟨rfl, trivial⟩ rfl ?_; intro b23 G w hk hC hB hs24
              replace hs5 := hs5.mono hk.gle; replace hO7 := hO7.mono hk.gle; replace hOout := hOout.mono hk.gle; replace hv17 := hv17.mono hk.gle
              refine wlAppend (α := Mark) (bl := [(b12, 28, x.cells)]) (o := outO) (r := []) elo54 hC hB rfl rfl hOout hs24 (by have q := him.get hrow0; have q3 : i ≤ row0.length := hil; have q4 : (bif put then (1 : Nat) else 0) ≤ 1 := (by cases put <;> simp); (try simp only [List.length_append, List.length_cons, List.length_nil]); omega) rfl rfl ?_; intro A25 cap26 o27 w hC hB hO28
              refine wlVal (opAssign rfl) rfl ?_
              refine wlThen ?_
              refine wcSeq ?_
              refine wcSeq ?_
              refine wcRegion ?_
              refine wlVal (opMove rfl) rfl ?_
              refine wlVal (opLen rfl isl54) rfl ?_
              refine wlVal (opGtr rfl rfl) rfl ?_
              refine wlThen ?_
              cases h29 : decide (4 < ((((out ++ [x])).length : Nat) : Int))
              · skip
                refine wcCondF rfl ?_
                refine wcSkip ?_
                refine wcOf ?_
                refine wcSeq ?_
                refine wcRegion ?_
                refine wlVal (opMove rfl) rfl ?_
                refine wlVal (opNilCheck rfl) rfl ?_
                refine wlVal (opFieldAddr rfl fo70_2) rfl ?_
                refine wlVal (opLoadOne (v := (.slice (some ⟨lm, 0, none⟩) m.l.length cap11)) rfl (hC.hcell 0 rfl (o := 35) (by simp [Mark.cells, Do.cells, Word.cells])) one68) rfl ?_
                refine wlVal (opMove rfl) rfl ?_
                refine wlVal (opMove rfl) rfl ?_
                refine wlVal (opIndexAddr rfl rfl slo68 (List.getElem?_eq_some_iff.1 hrow0).1) rfl ?_
                obtain ⟨G, hg31, hC, hB, hs30⟩ := Ow.freeze' (bl := [(b12, 28, x.cells)]) (r := []) hO28 hC (Nat.le_refl _) hB (by have q := him.get hrow0; have q3 : i ≤ row0.length := hil; have q4 : (bif put then (1 : Nat) else 0) ≤ 1 := (by cases put <;> simp); (try simp only [List.length_append, List.length_cons, List.length_nil]); unfold maxL; omega)
                replace hs5 := hs5.mono hg31; replace hO7 := hO7.mono hg31; replace hv17 := hv17.mono hg31; replace hs24 := hs24.mono hg31
                replace hB : Bxs G w w0.heap.size [(b12, 28, x.cells)] ⟨[bm, lm], [(bm, .cells ((.int .i64 m.crew.faults) :: ((.slice A9 m.crew.nodes.length cap10) :: ((.int .i64 m.mark.seq) :: (m.mark.dig.cells ++ ((.slice (some ⟨lm, 0, none⟩) m.l.length cap11) :: []))))).toArray 70 (0, 0)), (lm, (.cells (List.toArray cs3) 54 (0, 0)))]⟩ := hB
                obtain ⟨hC, hB⟩ := unhold hC hB (i := 1) rfl
                replace hB : Bxs G w w0.heap.size ([] ++ (Option.toList (some (lm, 54, cs3)) ++ [(b12, 28, x.cells)])) ⟨[bm, lm], [(bm, .cells ((.int .i64 m.crew.faults) :: ((.slice A9 m.crew.nodes.length cap10) :: ((.int .i64 m.mark.seq) :: (m.mark.dig.cells ++ ((.slice (some ⟨lm, 0, none⟩) m.l.length cap11) :: []))))).toArray 70 (0, 0))]⟩ := hB
                refine wlStoreOw (α := (List Mark)) (bl := []) (r := [(b12, 28, x.cells)]) (vs := [(.slice A25 (((out ++ [x])).length) cap26)]) (off := 0) (y := ((out ++ [x]))) hC hB hO7 hrow0 rfl (by show _ = _ * 1 + 0; omega) rfl sz54 rfl rfl rfl (Nat.le_refl _) (fun row h => by obtain ⟨_, rfl, _⟩ := h; exact ⟨_, rfl, hs30⟩) rfl ?_; intro cs32 w hC hB hO33
                obtain ⟨hC, hB⟩ := hold hC hB (i := 0) rfl
                replace hC : Cx w0 G0 G w ⟨[bm, lm], [(lm, (.cells (List.toArray cs32) 54 (0, 0))), (bm, .cells ((.int .i64 m.crew.faults) :: ((.slice A9 m.crew.nodes.length cap10) :: ((.int .i64 m.mark.seq) :: (m.mark.dig.cells ++ ((.slice (some ⟨lm, 0, none⟩) m.l.length cap11) :: []))))).toArray 70 (0, 0))]⟩ := hC
                replace hB : Bxs G w w0.heap.size [(b12, 28, x.cells)] ⟨[bm, lm], [(lm, (.cells (List.toArray cs32) 54 (0, 0))), (bm, .cells ((.int .i64 m.crew.faults) :: ((.slice A9 m.crew.nodes.length cap10) :: ((.int .i64 m.mark.seq) :: (m.mark.dig.cells ++ ((.slice (some ⟨lm, 0, none⟩) m.l.length cap11) :: []))))).toArray 70 (0, 0))]⟩ := hB
                replace hC := hC.permH (List.perm_middle (l₁ := [(bm, Obj.cells ((.int .i64 m.crew.faults) :: ((.slice A9 m.crew.nodes.length cap10) :: ((.int .i64 m.mark.seq) :: (m.mark.dig.cells ++ ((.slice (some ⟨lm, 0, none⟩) m.l.length cap11) :: []))))).toArray 70 (0, 0))]) (l₂ := [])).symm
                replace hB := hB.permH (List.perm_middle (l₁ := [(bm, Obj.cells ((.int .i64 m.crew.faults) :: ((.slice A9 m.crew.nodes.length cap10) :: ((.int .i64 m.mark.seq) :: (m.mark.dig.cells ++ ((.slice (some ⟨lm, 0, none⟩) m.l.length cap11) :: []))))).toArray 70 (0, 0))]) (l₂ := [])).symm
                replace hC : Cx w0 G0 G w ⟨[bm, lm], [(bm, .cells ((.int .i64 m.crew.faults) :: ((.slice A9 m.crew.nodes.length cap10) :: ((.int .i64 m.mark.seq) :: (m.mark.dig.cells ++ ((.slice (some ⟨lm, 0, none⟩) m.l.length cap11) :: []))))).toArray 70 (0, 0)), (lm, (.cells (List.toArray cs32) 54 (0, 0)))]⟩ := hC
                replace hB : Bxs G w w0.heap.size [(b12, 28, x.cells)] ⟨[bm, lm], [(bm, .cells ((.int .i64 m.crew.faults) :: ((.slice A9 m.crew.nodes.length cap10) :: ((.int .i64 m.mark.seq) :: (m.mark.dig.cells ++ ((.slice (some ⟨lm, 0, none⟩) m.l.length cap11) :: []))))).toArray 70 (0, 0)), (lm, (.cells (List.toArray cs32) 54 (0, 0)))]⟩ := hB
                refine wlThen ?_
                refine wcSeq ?_
                refine wcRegion ?_
                refine wlVal (opAssign rfl) rfl ?_
                refine wlThen ?_
                refine wcRet ?_
                exact fun ac_ ha => hQ _ _ _ (results1 ha rfl rfl) ha.df (endM hC [(bm, .cells ((.int .i64 m.crew.faults) :: ((.slice A9 m.crew.nodes.length cap10) :: ((.int .i64 m.mark.seq) :: (m.mark.dig.cells ++ ((.slice (some ⟨lm, 0, none⟩) m.l.length cap11) :: []))))).toArray 70 (0, 0)), (lm, (.cells (List.toArray cs32) 54 (0, 0)))] (.cons₂ _ (.cons₂ _ .slnil)) rfl ⟨_, _, rfl, (by have e_ : (rvoteM m n x).1 = (RSt.mk m.crew m.mark ((List.set m.l i0 ((out ++ [x]))))) := (by have e := hI; rw [List.drop_eq_nil_of_le (Nat.le_of_not_lt (of_decide_eq_false h21))] at e; simp only [rvGo, h22, h22, cond_true, cond_false, Bool.not_true, Bool.not_false, Bool.true_and, Bool.false_and] at e; have er := getD_at (d := []) hrow0; have e0 : decide ((i0 : Int) < 0) = false := (by simp); simp only [rvoteM, h13, h14, h15, cond_true, cond_false, Bool.not_true, Bool.not_false, hi0, e0, Int.toNat_natCast, er, ← e, cut1, h29]; try rfl); rw [e_]; exact ⟨_, _, _, rfl, hs5, rfl, hO33, (rinv_set him (by have q := him.get hrow0; have q3 : i ≤ row0.length := hil; have q5 := of_decide_eq_false h29; rw [h22] at hol; simp only [cond_true, cond_false, List.length_append, List.length_cons, List.length_nil, List.length_drop] at *; omega))⟩), (by have e := hI; rw [List.drop_eq_nil_of_le (Nat.le_of_not_lt (of_decide_eq_false h21))] at e; simp only [rvGo, h22, h22, cond_true, cond_false, Bool.not_true, Bool.not_false, Bool.true_and, Bool.false_and] at e; have er := getD_at (d := []) hrow0; have e0 : decide ((i0 : Int) < 0) = false := (by simp); simp only [rvoteM, h13, h14, h15, cond_true, cond_false, Bool.not_true, Bool.not_false, hi0, e0, Int.toNat_natCast, er, ← e])⟩)
              · skip
                refine wcCondT rfl ?_
                refine wcRegion ?_
                refine wlVal (opMove rfl) rfl ?_
                obtain ⟨G, hg35, hC, hB, hs34⟩ := Ow.freeze' (bl := [(b12, 28, x.cells)]) (r := []) hO28 hC (Nat.le_refl _) hB (by have q := him.get hrow0; have q3 : i ≤ row0.length := hil; have q4 : (bif put then (1 : Nat) else 0) ≤ 1 := (by cases put <;> simp); (try simp only [List.length_append, List.length_cons, List.length_nil]); unfold maxL; omega)
                replace hs5 := hs5.mono hg35; replace hO7 := hO7.mono hg35; replace hv17 := hv17.mono hg35; replace hs24 := hs24.mono hg35
                replace hB : Bxs G w w0.heap.size [(b12, 28, x.cells)] ⟨[bm, lm], [(bm, .cells ((.int .i64 m.crew.faults) :: ((.slice A9 m.crew.nodes.length cap10) :: ((.int .i64 m.mark.seq) :: (m.mark.dig.cells ++ ((.slice (some ⟨lm, 0, none⟩) m.l.length cap11) :: []))))).toArray 70 (0, 0)), (lm, (.cells (List.toArray cs3) 54 (0, 0)))]⟩ := hB
                have hs36 : Sl G (.slice (if cap26 = 1 then A25 else Option.map (fun a => a.add (1 * 33)) A25) ((((out ++ [x])).length - 1)) ((cap26 - 1))) (List.drop 1 ((out ++ [x]))) := Sl.drop hs34 (l := 1) (by have q := of_decide_eq_true h29; omega)
                refine wlVal (opSliceFrom (l := 1) slo54 rfl rfl (by have q := hs34.len; rw [q]; exact (by have q := of_decide_eq_true h29; omega))) rfl ?_
                refine wlVal (opAssign rfl) rfl ?_
                refine wlThen ?_
                refine wcSeq ?_
                refine wcRegion ?_
                refine wlVal (opMove rfl) rfl ?_
                refine wlVal (opNilCheck rfl) rfl ?_
                refine wlVal (opFieldAddr rfl fo70_2) rfl ?_
                refine wlVal (opLoadOne (v := (.slice (some ⟨lm, 0, none⟩) m.l.length cap11)) rfl (hC.hcell 0 rfl (o := 35) (by simp [Mark.cells, Do.cells, Word.cells])) one68) rfl ?_
                refine wlVal (opMove rfl) rfl ?_
                refine wlVal (opMove rfl) rfl ?_
                refine wlVal (opIndexAddr rfl rfl slo68 (List.getElem?_eq_some_iff.1 hrow0).1) rfl ?_
                obtain ⟨hC, hB⟩ := unhold hC hB (i := 1) rfl
                replace hB : Bxs G w w0.heap.size ([] ++ (Option.toList (some (lm, 54, cs3)) ++ [(b12, 28, x.cells)])) ⟨[bm, lm], [(bm, .cells ((.int .i64 m.crew.faults) :: ((.slice A9 m.crew.nodes.length cap10) :: ((.int .i64 m.mark.seq) :: (m.mark.dig.cells ++ ((.slice (some ⟨lm, 0, none⟩) m.l.length cap11) :: []))))).toArray 70 (0, 0))]⟩ := hB
                refine wlStoreOw (α := (List Mark)) (bl := []) (r := [(b12, 28, x.cells)]) (vs := [(.slice (if cap26 = 1 then A25 else Option.map (fun a => a.add (1 * 33)) A25) ((((out ++ [x])).length - 1)) ((cap26 - 1)))]) (off := 0) (y := ((List.drop 1 ((out ++ [x]))))) hC hB hO7 hrow0 rfl (by show _ = _ * 1 + 0; omega) rfl sz54 rfl rfl rfl (Nat.le_refl _) (fun row h => by obtain ⟨_, rfl, _⟩ := h; exact ⟨_, rfl, hs36⟩) rfl ?_; intro cs37 w hC hB hO38
                obtain ⟨hC, hB⟩ := hold hC hB (i := 0) rfl
                replace hC : Cx w0 G0 G w ⟨[bm, lm], [(lm, (.cells (List.toArray cs37) 54 (0, 0))), (bm, .cells ((.int .i64 m.crew.faults) :: ((.slice A9 m.crew.nodes.length cap10) :: ((.int .i64 m.mark.seq) :: (m.mark.dig.cells ++ ((.slice (some ⟨lm, 0, none⟩) m.l.length cap11) :: []))))).toArray 70 (0, 0))]⟩ := hC
                replace hB : Bxs G w w0.heap.size [(b12, 28, x.cells)] ⟨[bm, lm], [(lm, (.cells (List.toArray cs37) 54 (0, 0))), (bm, .cells ((.int .i64 m.crew.faults) :: ((.slice A9 m.crew.nodes.length cap10) :: ((.int .i64 m.mark.seq) :: (m.mark.dig.cells ++ ((.slice (some ⟨lm, 0, none⟩) m.l.length cap11) :: []))))).toArray 70 (0, 0))]⟩ := hB
                replace hC := hC.permH (List.perm_middle (l₁ := [(bm, Obj.cells ((.int .i64 m.crew.faults) :: ((.slice A9 m.crew.nodes.length cap10) :: ((.int .i64 m.mark.seq) :: (m.mark.dig.cells ++ ((.slice (some ⟨lm, 0, none⟩) m.l.length cap11) :: []))))).toArray 70 (0, 0))]) (l₂ := [])).symm
                replace hB := hB.permH (List.perm_middle (l₁ := [(bm, Obj.cells ((.int .i64 m.crew.faults) :: ((.slice A9 m.crew.nodes.length cap10) :: ((.int .i64 m.mark.seq) :: (m.mark.dig.cells ++ ((.slice (some ⟨lm, 0, none⟩) m.l.length cap11) :: []))))).toArray 70 (0, 0))]) (l₂ := [])).symm
                replace hC : Cx w0 G0 G w ⟨[bm, lm], [(bm, .cells ((.int .i64 m.crew.faults) :: ((.slice A9 m.crew.nodes.length cap10) :: ((.int .i64 m.mark.seq) :: (m.mark.dig.cells ++ ((.slice (some ⟨lm, 0, none⟩) m.l.length cap11) :: []))))).toArray 70 (0, 0)), (lm, (.cells (List.toArray cs37) 54 (0, 0)))]⟩ := hC
                replace hB : Bxs G w w0.heap.size [(b12, 28, x.cells)] ⟨[bm, lm], [(bm, .cells ((.int .i64 m.crew.faults) :: ((.slice A9 m.crew.nodes.length cap10) :: ((.int .i64 m.mark.seq) :: (m.mark.dig.cells ++ ((.slice (some ⟨lm, 0, none⟩) m.l.length cap11) :: []))))).toArray 70 (0, 0)), (lm, (.cells (List.toArray cs37) 54 (0, 0)))]⟩ := hB
                refine wlThen ?_
                refine wcSeq ?_
                refine wcRegion ?_
                refine wlVal (opAssign rfl) rfl ?_
                refine wlThen ?_
                refine wcRet ?_
                exact fun ac_ ha => hQ _ _ _ (results1 ha rfl rfl) ha.df (endM hC [(bm, .cells ((.int .i64 m.crew.faults) :: ((.slice A9 m.crew.nodes.length cap10) :: ((.int .i64 m.mark.seq) :: (m.mark.dig.cells ++ ((.slice (some ⟨lm, 0, none⟩) m.l.length cap11) :: []))))).toArray 70 (0, 0)), (lm, (.cells (List.toArray cs37) 54 (0, 0)))] (.cons₂ _ (.cons₂ _ .slnil)) rfl ⟨_, _, rfl, (by have e_ : (rvoteM m n x).1 = (RSt.mk m.crew m.mark ((List.set m.l i0 ((List.drop 1 ((out ++ [x]))))))) := (by have e := hI; rw [List.drop_eq_nil_of_le (Nat.le_of_not_lt (of_decide_eq_false h21))] at e; simp only [rvGo, h22, h22, cond_true, cond_false, Bool.not_true, Bool.not_false, Bool.true_and, Bool.false_and] at e; have er := getD_at (d := []) hrow0; have e0 : decide ((i0 : Int) < 0) = false := (by simp); simp only [rvoteM, h13, h14, h15, cond_true, cond_false, Bool.not_true, Bool.not_false, hi0, e0, Int.toNat_natCast, er, ← e, cut1, h29]; try rfl); rw [e_]; exact ⟨_, _, _, rfl, hs5, rfl, hO38, (rinv_set him (by have q := him.get hrow0; have q3 : i ≤ row0.length := hil; have q5 := of_decide_eq_true h29; rw [h22] at hol; simp only [cond_true, cond_false, List.length_append, List.length_cons, List.length_nil, List.length_drop] at *; omega))⟩), (by have e := hI; rw [List.drop_eq_nil_of_le (Nat.le_of_not_lt (of_decide_eq_false h21))] at e; simp only [rvGo, h22, h22, cond_true, cond_false, Bool.not_true, Bool.not_false, Bool.true_and, Bool.false_and] at e; have er := getD_at (d := []) hrow0; have e0 : decide ((i0 : Int) < 0) = false := (by simp); simp only [rvoteM, h13, h14, h15, cond_true, cond_false, Bool.not_true, Bool.not_false, hi0, e0, Int.toNat_natCast, er, ← e])⟩)
            · skip
              refine wcCondF rfl ?_
              refine wcSkip ?_
              refine wcOf ?_
              refine wcSeq ?_
              refine wcSeq ?_
              refine wcRegion ?_
              refine wlVal (opMove rfl) rfl ?_
              refine wlVal (opLen rfl isl54) rfl ?_
              refine wlVal (opGtr rfl rfl) rfl ?_
              refine wlThen ?_
              cases h39 : decide (4 < ((out.length : Nat) : Int))
              · skip
                refine wcCondF rfl ?_
                refine wcSkip ?_
                refine wcOf ?_
                refine wcSeq ?_
                refine wcRegion ?_
                refine wlVal (opMove rfl) rfl ?_
                refine wlVal (opNilCheck rfl) rfl ?_
                refine wlVal (opFieldAddr rfl fo70_2) rfl ?_
                refine wlVal (opLoadOne (v := (.slice (some ⟨lm, 0, none⟩) m.l.length cap11)) rfl (hC.hcell 0 rfl (o := 35) (by simp [Mark.cells, Do.cells, Word.cells])) one68) rfl ?_
                refine wlVal (opMove rfl) rfl ?_
                refine wlVal (opMove rfl) rfl ?_
                refine wlVal (opIndexAddr rfl rfl slo68 (List.getElem?_eq_some_iff.1 hrow0).1) rfl ?_
                obtain ⟨G, hg41, hC, hB, hs40⟩ := Ow.freeze' (bl := [(b12, 28, x.cells)]) (r := []) hOout hC (Nat.le_refl _) hB (by have q := him.get hrow0; have q3 : i ≤ row0.length := hil; have q4 : (bif put then (1 : Nat) else 0) ≤ 1 := (by cases put <;> simp); (try simp only [List.length_append, List.length_cons, List.length_nil]); unfold maxL; omega)
                replace hs5 := hs5.mono hg41; replace hO7 := hO7.mono hg41; replace hv17 := hv17.mono hg41
                replace hB : Bxs G w w0.heap.size [(b12, 28, x.cells)] ⟨[bm, lm], [(bm, .cells ((.int .i64 m.crew.faults) :: ((.slice A9 m.crew.nodes.length cap10) :: ((.int .i64 m.mark.seq) :: (m.mark.dig.cells ++ ((.slice (some ⟨lm, 0, none⟩) m.l.length cap11) :: []))))).toArray 70 (0, 0)), (lm, (.cells (List.toArray cs3) 54 (0, 0)))]⟩ := hB
                obtain ⟨hC, hB⟩ := unhold hC hB (i := 1) rfl
                replace hB : Bxs G w w0.heap.size ([] ++ (Option.toList (some (lm, 54, cs3)) ++ [(b12, 28, x.cells)])) ⟨[bm, lm], [(bm, .cells ((.int .i64 m.crew.faults) :: ((.slice A9 m.crew.nodes.length cap10) :: ((.int .i64 m.mark.seq) :: (m.mark.dig.cells ++ ((.slice (some ⟨lm, 0, none⟩) m.l.length cap11) :: []))))).toArray 70 (0, 0))]⟩ := hB
                refine wlStoreOw (α := (List Mark)) (bl := []) (r := [(b12, 28, x.cells)]) (vs := [(.slice outA out.length outC)]) (off := 0) (y := out) hC hB hO7 hrow0 rfl (by show _ = _ * 1 + 0; omega) rfl sz54 rfl rfl rfl (Nat.le_refl _) (fun row h => by obtain ⟨_, rfl, _⟩ := h; exact ⟨_, rfl, hs40⟩) rfl ?_; intro cs42 w hC hB hO43
                obtain ⟨hC, hB⟩ := hold hC hB (i := 0) rfl
                replace hC : Cx w0 G0 G w ⟨[bm, lm], [(lm, (.cells (List.toArray cs42) 54 (0, 0))), (bm, .cells ((.int .i64 m.crew.faults) :: ((.slice A9 m.crew.nodes.length cap10) :: ((.int .i64 m.mark.seq) :: (m.mark.dig.cells ++ ((.slice (some ⟨lm, 0, none⟩) m.l.length cap11) :: []))))).toArray 70 (0, 0))]⟩ := hC
                replace hB : Bxs G w w0.heap.size [(b12, 28, x.cells)] ⟨[bm, lm], [(lm, (.cells (List.toArray cs42) 54 (0, 0))), (bm, .cells ((.int .i64 m.crew.faults) :: ((.slice A9 m.crew.nodes.length cap10) :: ((.int .i64 m.mark.seq) :: (m.mark.dig.cells ++ ((.slice (some ⟨lm, 0, none⟩) m.l.length cap11) :: []))))).toArray 70 (0, 0))]⟩ := hB
                replace hC := hC.permH (List.perm_middle (l₁ := [(bm, Obj.cells ((.int .i64 m.crew.faults) :: ((.slice A9 m.crew.nodes.length cap10) :: ((.int .i64 m.mark.seq) :: (m.mark.dig.cells ++ ((.slice (some ⟨lm, 0, none⟩) m.l.length cap11) :: []))))).toArray 70 (0, 0))]) (l₂ := [])).symm
                replace hB := hB.permH (List.perm_middle (l₁ := [(bm, Obj.cells ((.int .i64 m.crew.faults) :: ((.slice A9 m.crew.nodes.length cap10) :: ((.int .i64 m.mark.seq) :: (m.mark.dig.cells ++ ((.slice (some ⟨lm, 0, none⟩) m.l.length cap11) :: []))))).toArray 70 (0, 0))]) (l₂ := [])).symm
                replace hC : Cx w0 G0 G w ⟨[bm, lm], [(bm, .cells ((.int .i64 m.crew.faults) :: ((.slice A9 m.crew.nodes.length cap10) :: ((.int .i64 m.mark.seq) :: (m.mark.dig.cells ++ ((.slice (some ⟨lm, 0, none⟩) m.l.length cap11) :: []))))).toArray 70 (0, 0)), (lm, (.cells (List.toArray cs42) 54 (0, 0)))]⟩ := hC
                replace hB : Bxs G w w0.heap.size [(b12, 28, x.cells)] ⟨[bm, lm], [(bm, .cells ((.int .i64 m.crew.faults) :: ((.slice A9 m.crew.nodes.length cap10) :: ((.int .i64 m.mark.seq) :: (m.mark.dig.cells ++ ((.slice (some ⟨lm, 0, none⟩) m.l.length cap11) :: []))))).toArray 70 (0, 0)), (lm, (.cells (List.toArray cs42) 54 (0, 0)))]⟩ := hB
                refine wlThen ?_
                refine wcSeq ?_
                refine wcRegion ?_
                refine wlVal (opAssign rfl) rfl ?_
                refine wlThen ?_
                refine wcRet ?_
                exact fun ac_ ha => hQ _ _ _ (results1 ha rfl rfl) ha.df (endM hC [(bm, .cells ((.int .i64 m.crew.faults) :: ((.slice A9 m.crew.nodes.length cap10) :: ((.int .i64 m.mark.seq) :: (m.mark.dig.cells ++ ((.slice (some ⟨lm, 0, none⟩) m.l.length cap11) :: []))))).toArray 70 (0, 0)), (lm, (.cells (List.toArray cs42) 54 (0, 0)))] (.cons₂ _ (.cons₂ _ .slnil)) rfl ⟨_, _, rfl, (by have e_ : (rvoteM m n x).1 = (RSt.mk m.crew m.mark ((List.set m.l i0 out))) := (by have e := hI; rw [List.drop_eq_nil_of_le (Nat.le_of_not_lt (of_decide_eq_false h21))] at e; simp only [rvGo, h22, h22, cond_true, cond_false, Bool.not_true, Bool.not_false, Bool.true_and, Bool.false_and] at e; have er := getD_at (d := []) hrow0; have e0 : decide ((i0 : Int) < 0) = false := (by simp); simp only [rvoteM, h13, h14, h15, cond_true, cond_false, Bool.not_true, Bool.not_false, hi0, e0, Int.toNat_natCast, er, ← e, cut1, h39]; try rfl); rw [e_]; exact ⟨_, _, _, rfl, hs5, rfl, hO43, (rinv_set him (by have q := him.get hrow0; have q3 : i ≤ row0.length := hil; have q5 := of_decide_eq_false h39; rw [h22] at hol; simp only [cond_true, cond_false, List.length_append, List.length_cons, List.length_nil, List.length_drop] at *; omega))⟩), (by have e := hI; rw [List.drop_eq_nil_of_le (Nat.le_of_not_lt (of_decide_eq_false h21))] at e; simp only [rvGo, h22, h22, cond_true, cond_false, Bool.not_true, Bool.not_false, Bool.true_and, Bool.false_and] at e; have er := getD_at (d := []) hrow0; have e0 : decide ((i0 : Int) < 0) = false := (by simp); simp only [rvoteM, h13, h14, h15, cond_true, cond_false, Bool.not_true, Bool.not_false, hi0, e0, Int.toNat_natCast, er, ← e])⟩)
              · skip
                refine wcCondT rfl ?_
                refine wcRegion ?_
                refine wlVal (opMove rfl) rfl ?_
                obtain ⟨G, hg45, hC, hB, hs44⟩ := Ow.freeze' (bl := [(b12, 28, x.cells)]) (r := []) hOout hC (Nat.le_refl _) hB (by have q := him.get hrow0; have q3 : i ≤ row0.length := hil; have q4 : (bif put then (1 : Nat) else 0) ≤ 1 := (by cases put <;> simp); (try simp only [List.length_append, List.length_cons, List.length_nil]); unfold maxL; omega)
                replace hs5 := hs5.mono hg45; replace hO7 := hO7.mono hg45; replace hv17 := hv17.mono hg45
                replace hB : Bxs G w w0.heap.size [(b12, 28, x.cells)] ⟨[bm, lm], [(bm, .cells ((.int .i64 m.crew.faults) :: ((.slice A9 m.crew.nodes.length cap10) :: ((.int .i64 m.mark.seq) :: (m.mark.dig.cells ++ ((.slice (some ⟨lm, 0, none⟩) m.l.length cap11) :: []))))).toArray 70 (0, 0)), (lm, (.cells (List.toArray cs3) 54 (0, 0)))]⟩ := hB
                have hs46 : Sl G (.slice (if outC = 1 then outA else Option.map (fun a => a.add (1 * 33)) outA) ((out.length - 1)) ((outC - 1))) (List.drop 1 out) := Sl.drop hs44 (l := 1) (by have q := of_decide_eq_true h39; omega)
                refine wlVal (opSliceFrom (l := 1) slo54 rfl rfl (by have q := hs44.len; rw [q]; exact (by have q := of_decide_eq_true h39; omega))) rfl ?_
                refine wlVal (opAssign rfl) rfl ?_
                refine wlThen ?_
                refine wcSeq ?_
                refine wcRegion ?_
                refine wlVal (opMove rfl) rfl ?_
                refine wlVal (opNilCheck rfl) rfl ?_
                refine wlVal (opFieldAddr rfl fo70_2) rfl ?_
                refine wlVal (opLoadOne (v := (.slice (some ⟨lm, 0, none⟩) m.l.length cap11)) rfl (hC.hcell 0 rfl (o := 35) (by simp [Mark.cells, Do.cells, Word.cells])) one68) rfl ?_
                refine wlVal (opMove rfl) rfl ?_
                refine wlVal (opMove rfl) rfl ?_
                refine wlVal (opIndexAddr rfl rfl slo68 (List.getElem?_eq_some_iff.1 hrow0).1) rfl ?_
                obtain ⟨hC, hB⟩ := unhold hC hB (i := 1) rfl
                replace hB : Bxs G w w0.heap.size ([] ++ (Option.toList (some (lm, 54, cs3)) ++ [(b12, 28, x.cells)])) ⟨[bm, lm], [(bm, .cells ((.int .i64 m.crew.faults) :: ((.slice A9 m.crew.nodes.length cap10) :: ((.int .i64 m.mark.seq) :: (m.mark.dig.cells ++ ((.slice (some ⟨lm, 0, none⟩) m.l.length cap11) :: []))))).toArray 70 (0, 0))]⟩ := hB
                refine wlStoreOw (α := (List Mark)) (bl := []) (r := [(b12, 28, x.cells)]) (vs := [(.slice (if outC = 1 then outA else Option.map (fun a => a.add (1 * 33)) outA) ((out.length - 1)) ((outC - 1)))]) (off := 0) (y := ((List.drop 1 out))) hC hB hO7 hrow0 rfl (by show _ = _ * 1 + 0; omega) rfl sz54 rfl rfl rfl (Nat.le_refl _) (fun row h => by obtain ⟨_, rfl, _⟩ := h; exact ⟨_, rfl, hs46⟩) rfl ?_; intro cs47 w hC hB hO48
                obtain ⟨hC, hB⟩ := hold hC hB (i := 0) rfl
                replace hC : Cx w0 G0 G w ⟨[bm, lm], [(lm, (.cells (List.toArray cs47) 54 (0, 0))), (bm, .cells ((.int .i64 m.crew.faults) :: ((.slice A9 m.crew.nodes.length cap10) :: ((.int .i64 m.mark.seq) :: (m.mark.dig.cells ++ ((.slice (some ⟨lm, 0, none⟩) m.l.length cap11) :: []))))).toArray 70 (0, 0))]⟩ := hC
                replace hB : Bxs G w w0.heap.size [(b12, 28, x.cells)] ⟨[bm, lm], [(lm, (.cells (List.toArray cs47) 54 (0, 0))), (bm, .cells ((.int .i64 m.crew.faults) :: ((.slice A9 m.crew.nodes.length cap10) :: ((.int .i64 m.mark.seq) :: (m.mark.dig.cells ++ ((.slice (some ⟨lm, 0, none⟩) m.l.length cap11) :: []))))).toArray 70 (0, 0))]⟩ := hB
                replace hC := hC.permH (List.perm_middle (l₁ := [(bm, Obj.cells ((.int .i64 m.crew.faults) :: ((.slice A9 m.crew.nodes.length cap10) :: ((.int .i64 m.mark.seq) :: (m.mark.dig.cells ++ ((.slice (some ⟨lm, 0, none⟩) m.l.length cap11) :: []))))).toArray 70 (0, 0))]) (l₂ := [])).symm
                replace hB := hB.permH (List.perm_middle (l₁ := [(bm, Obj.cells ((.int .i64 m.crew.faults) :: ((.slice A9 m.crew.nodes.length cap10) :: ((.int .i64 m.mark.seq) :: (m.mark.dig.cells ++ ((.slice (some ⟨lm, 0, none⟩) m.l.length cap11) :: []))))).toArray 70 (0, 0))]) (l₂ := [])).symm
                replace hC : Cx w0 G0 G w ⟨[bm, lm], [(bm, .cells ((.int .i64 m.crew.faults) :: ((.slice A9 m.crew.nodes.length cap10) :: ((.int .i64 m.mark.seq) :: (m.mark.dig.cells ++ ((.slice (some ⟨lm, 0, none⟩) m.l.length cap11) :: []))))).toArray 70 (0, 0)), (lm, (.cells (List.toArray cs47) 54 (0, 0)))]⟩ := hC
                replace hB : Bxs G w w0.heap.size [(b12, 28, x.cells)] ⟨[bm, lm], [(bm, .cells ((.int .i64 m.crew.faults) :: ((.slice A9 m.crew.nodes.length cap10) :: ((.int .i64 m.mark.seq) :: (m.mark.dig.cells ++ ((.slice (some ⟨lm, 0, none⟩) m.l.length cap11) :: []))))).toArray 70 (0, 0)), (lm, (.cells (List.toArray cs47) 54 (0, 0)))]⟩ := hB
                refine wlThen ?_
                refine wcSeq ?_
                refine wcRegion ?_
                refine wlVal (opAssign rfl) rfl ?_
                refine wlThen ?_
                refine wcRet ?_
                exact fun ac_ ha => hQ _ _ _ (results1 ha rfl rfl) ha.df (endM hC [(bm, .cells ((.int .i64 m.crew.faults) :: ((.slice A9 m.crew.nodes.length cap10) :: ((.int .i64 m.mark.seq) :: (m.mark.dig.cells ++ ((.slice (some ⟨lm, 0, none⟩) m.l.length cap11) :: []))))).toArray 70 (0, 0)), (lm, (.cells (List.toArray cs47) 54 (0, 0)))] (.cons₂ _ (.cons₂ _ .slnil)) rfl ⟨_, _, rfl, (by have e_ : (rvoteM m n x).1 = (RSt.mk m.crew m.mark ((List.set m.l i0 ((List.drop 1 out))))) := (by have e := hI; rw [List.drop_eq_nil_of_le (Nat.le_of_not_lt (of_decide_eq_false h21))] at e; simp only [rvGo, h22, h22, cond_true, cond_false, Bool.not_true, Bool.not_false, Bool.true_and, Bool.false_and] at e; have er := getD_at (d := []) hrow0; have e0 : decide ((i0 : Int) < 0) = false := (by simp); simp only [rvoteM, h13, h14, h15, cond_true, cond_false, Bool.not_true, Bool.not_false, hi0, e0, Int.toNat_natCast, er, ← e, cut1, h39]; try rfl); rw [e_]; exact ⟨_, _, _, rfl, hs5, rfl, hO48, (rinv_set him (by have q := him.get hrow0; have q3 : i ≤ row0.length := hil; have q5 := of_decide_eq_true h39; rw [h22] at hol; simp only [cond_true, cond_false, List.length_append, List.length_cons, List.length_nil, List.length_drop] at *; omega))⟩), (by have e := hI; rw [List.drop_eq_nil_of_le (Nat.le_of_not_lt (of_decide_eq_false h21))] at e; simp only [rvGo, h22, h22, cond_true, cond_false, Bool.not_true, Bool.not_false, Bool.true_and, Bool.false_and] at e; have er := getD_at (d := []) hrow0; have e0 : decide ((i0 : Int) < 0) = false := (by simp); simp only [rvoteM, h13, h14, h15, cond_true, cond_false, Bool.not_true, Bool.not_false, hi0, e0, Int.toNat_natCast, er, ← e])⟩)
          · skip
            refine wcCondT rfl ?_
            refine wcSkip ?_
            refine wcOf ?_
            refine wcSeq ?_
            refine wcBlock ?_
            refine wcSeq ?_
            refine wcRegion ?_
            refine wlVal (opMove rfl) rfl ?_
            refine wlVal (opNilCheck rfl) rfl ?_
            refine wlVal (opFieldAddr rfl fo70_2) rfl ?_
            refine wlVal (opLoadOne (v := (.slice (some ⟨lm, 0, none⟩) m.l.length cap11)) rfl (hC.hcell 0 rfl (o := 35) (by simp [Mark.cells, Do.cells, Word.cells])) one68) rfl ?_
            refine wlVal (opMove rfl) rfl ?_
            refine wlVal (opIndexAddr rfl rfl slo68 (List.getElem?_eq_some_iff.1 hrow0).1) rfl ?_
            refine wlVal (opLoadOne (v := (.slice A19 row0.length cap20)) rfl (hr18 _ (hC.heldAt 1 rfl)) one54) rfl ?_
            refine wlVal (opMove rfl) rfl ?_
            obtain ⟨x49, hx50⟩ : ∃ y_, row0[i]? = some y_ := ⟨_, List.getElem?_eq_getElem (of_decide_eq_true h21)⟩
            obtain ⟨b51, o52, row53, hA56, hr54, hi55⟩ := hv17.elem hx50; subst hA56
            obtain rfl := hi55
            refine wlVal (opIndexAddr rfl rfl slo54 (of_decide_eq_true h21)) rfl ?_
            refine wlVal (opLoadRow (cs := x49.cells) rfl (RowG.range hC.holds hr54) row28 (by simp [Mark.cells, Do.cells, Word.cells])) rfl ?_
            refine wlAlloc hC hB zero28 rfl ?_; intro b57 w hk hC hB
            replace hB : Bxs G w w0.heap.size ([(b57, 28, ((.int .i64 0) :: (Dig.zero.cells ++ []))), (b12, 28, x.cells)] ++ (Option.toList outO ++ [])) ⟨[bm, lm], [(bm, .cells ((.int .i64 m.crew.faults) :: ((.slice A9 m.crew.nodes.length cap10) :: ((.int .i64 m.mark.seq) :: (m.mark.dig.cells ++ ((.slice (some ⟨lm, 0, none⟩) m.l.length cap11) :: []))))).toArray 70 (0, 0)), (lm, (.cells (List.toArray cs3) 54 (0, 0)))]⟩ := hB
            refine wlStore 0 (vs := x49.cells) (cs := ((.int .i64 0) :: (Dig.zero.cells ++ []))) (cs' := x49.cells) hC hB rfl rfl rfl sz28 rfl (by simp [Mark.cells, Do.cells, Word.cells]) (by simp [Mark.cells, Do.cells, Word.cells, Value.oneCell']) (by simp [Mark.cells, Do.cells, Word.cells]) (by simp [Mark.cells, Do.cells, Word.cells]) rfl ?_; intro w hC hB
            replace hB : Bxs G w w0.heap.size ([(b57, 28, x49.cells), (b12, 28, x.cells)] ++ (Option.toList outO ++ [])) ⟨[bm, lm], [(bm, .cells ((.int .i64 m.crew.faults) :: ((.slice A9 m.crew.nodes.length cap10) :: ((.int .i64 m.mark.seq) :: (m.mark.dig.cells ++ ((.slice (some ⟨lm, 0, none⟩) m.l.length cap11) :: []))))).toArray 70 (0, 0)), (lm, (.cells (List.toArray cs3) 54 (0, 0)))]⟩ := hB
            refine wlThen ?_
            refine wcSeq ?_
            refine wcSeq ?_
            refine wcRegion ?_
            refine wlVal (opFieldAddr rfl fo28_0) rfl ?_
            refine wlVal (opLoadOne (v := (.int .i64 x49.seq)) rfl (hB.cell (i := 0) rfl (by simp [Mark.cells, Do.cells, Word.cells])) one3) rfl ?_
            refine wlVal (opFieldAddr rfl fo28_0) rfl ?_
            refine wlVal (opLoadOne (v := (.int .i64 x.seq)) rfl (hB.cell (i := 1) rfl (by simp [Mark.cells, Do.cells, Word.cells])) one3) rfl ?_
            refine wlVal (opEql rfl rfl) rfl ?_
            refine wlThen ?_
            cases h58 : x49.seq == x.seq
            · skip
              refine wcCondF rfl ?_
              refine wcSkip ?_
              refine wcOf ?_
              refine wcSeq ?_
              refine wcSeq ?_
              refine wcRegion ?_
              refine wlVal (opMove rfl) rfl ?_
              refine wlVal (opNot rfl) rfl ?_
              refine wlVal (opMove rfl) rfl ?_
              cases h59 : put
              · skip
                refine wlOn rfl rfl ?_
                refine wlVal (opFieldAddr rfl fo28_0) rfl ?_
                refine wlOn rfl rfl ?_
                refine wlVal (opLoadOne (v := (.int .i64 x.seq)) rfl (hB.cell (i := 1) rfl (by simp [Mark.cells, Do.cells, Word.cells])) one3) rfl ?_
                refine wlOn rfl rfl ?_
                refine wlVal (opFieldAddr rfl fo28_0) rfl ?_
                refine wlOn rfl rfl ?_
                refine wlVal (opLoadOne (v := (.int .i64 x49.seq)) rfl (hB.cell (i := 0) rfl (by simp [Mark.cells, Do.cells, Word.cells])) one3) rfl ?_
                refine wlOn rfl rfl ?_
                refine wlVal (opLss rfl rfl) rfl ?_
                refine wlVal (opPickT rfl rfl) rfl ?_
                refine wlThen ?_
                cases h60 : decide (x.seq < x49.seq)
                · skip
                  refine wcCondF rfl ?_
                  refine wcSkip ?_
                  refine wcOf ?_
                  refine wcRegion ?_
                  refine wlVal (opMove rfl) rfl ?_
                  refine wlVal (opLoadRow (cs := x49.cells) rfl (hB.range (i := 0) (m := 33) rfl (by simp [Mark.cells, Do.cells, Word.cells])) row28 (by simp [Mark.cells, Do.cells, Word.cells])) rfl ?_
                  refine wlBuildSlice (α := Mark) (ps := [(0, .tmp 77)]) (xs := [x49]) (rows := [x49.cells]) elo54 rfl rfl hC hB rfl rfl rfl ⟨rfl, trivial⟩ rfl ?_; intro b61 G w hk hC hB hs62
                  replace hs5 := hs5.mono hk.gle; replace hO7 := hO7.mono hk.gle; replace hOout := hOout.mono hk.gle; replace hv17 := hv17.mono hk.gle; replace hr54 := hr54.mono hk.gle
                  refine wlAppend (α := Mark) (bl := [(b57, 28, x49.cells), (b12, 28, x.cells)]) (o := outO) (r := []) elo54 hC hB rfl rfl hOout hs62 (by have q := him.get hrow0; have q3 : i ≤ row0.length := hil; have q4 : (bif put then (1 : Nat) else 0) ≤ 1 := (by cases put <;> simp); (try simp only [List.length_append, List.length_cons, List.length_nil]); omega) rfl rfl ?_; intro A63 cap64 o65 w hC hB hO66
                  refine wlVal (opAssign rfl) rfl ?_
                  refine wlNil ?_
                  refine wcOf ?_
                  refine wcRegion ?_
                  refine wlVal (opMove rfl) rfl ?_
                  refine wlVal (opIncr rfl rfl (by have q := him.get hrow0; have q2 := of_decide_eq_true h21; omega)) rfl ?_
                  refine wlVal (opAssign rfl) rfl ?_
                  refine wlRound ?_
                  exact (IH0 (i + 1, false, A63, cap64, o65, (out ++ [x49])) _ _ ⟨hC, hB.tail, hs5, hO7, hO66, (of_decide_eq_true h21), (by simp only [List.length_append, List.length_cons, List.length_nil, h59, cond_true, cond_false] at *; omega), (by rw [← hI, drop_get hx50]; simp only [rvGo, h58, h59, h60, cond_true, cond_false, Bool.not_true, Bool.not_false, Bool.true_and, Bool.false_and])⟩ (by have := of_decide_eq_true h21; show row0.length - (i + 1) < row0.length - i; omega)).sub (fun _ ha => ((((((ha.start.cons ha (t := 0) rfl).cons ha (t := 5) rfl).cons ha (t := 7) rfl).cons ha (t := 8) rfl).cons ha (t := 9) rfl).cons ha (t := 10) rfl))
                · skip
                  refine wcCondT rfl ?_
                  refine wcSeq ?_
                  refine wcRegion ?_
                  refine wlVal (opMove rfl) rfl ?_
                  refine wlVal (opLoadRow (cs := x.cells) rfl (hB.range (i := 1) (m := 33) rfl (by simp [Mark.cells, Do.cells, Word.cells])) row28 (by simp [Mark.cells, Do.cells, Word.cells])) rfl ?_
                  refine wlBuildSlice (α := Mark) (ps := [(0, .tmp 73)]) (xs := [x]) (rows := [x.cells]) elo54 rfl rfl hC hB rfl rfl rfl ⟨rfl, trivial⟩ rfl ?_; intro b67 G w hk hC hB hs68
                  replace hs5 := hs5.mono hk.gle; replace hO7 := hO7.mono hk.gle; replace hOout := hOout.mono hk.gle; replace hv17 := hv17.mono hk.gle; replace hr54 := hr54.mono hk.gle
                  refine wlAppend (α := Mark) (bl := [(b57, 28, x49.cells), (b12, 28, x.cells)]) (o := outO) (r := []) elo54 hC hB rfl rfl hOout hs68 (by have q := him.get hrow0; have q3 : i ≤ row0.length := hil; have q4 : (bif put then (1 : Nat) else 0) ≤ 1 := (by cases put <;> simp); (try simp only [List.length_append, List.length_cons, List.length_nil]); omega) rfl rfl ?_; intro A69 cap70 o71 w hC hB hO72
                  refine wlVal (opAssign rfl) rfl ?_
                  refine wlThen ?_
                  refine wcRegion ?_
                  refine wlVal (opAssign rfl) rfl ?_
                  refine wlThen ?_
                  refine wcRegion ?_
                  refine wlVal (opMove rfl) rfl ?_
                  refine wlVal (opLoadRow (cs := x49.cells) rfl (hB.range (i := 0) (m := 33) rfl (by simp [Mark.cells, Do.cells, Word.cells])) row28 (by simp [Mark.cells, Do.cells, Word.cells])) rfl ?_
                  refine wlBuildSlice (α := Mark) (ps := [(0, .tmp 77)]) (xs := [x49]) (rows := [x49.cells]) elo54 rfl rfl hC hB rfl rfl rfl ⟨rfl, trivial⟩ rfl ?_; intro b73 G w hk hC hB hs74
                  replace hs5 := hs5.mono hk.gle; replace hO7 := hO7.mono hk.gle; replace hv17 := hv17.mono hk.gle; replace hr54 := hr54.mono hk.gle; replace hs68 := hs68.mono hk.gle; replace hO72 := hO72.mono hk.gle
                  refine wlAppend (α := Mark) (bl := [(b57, 28, x49.cells), (b12, 28, x.cells)]) (o := o71) (r := []) elo54 hC hB rfl rfl hO72 hs74 (by have q := him.get hrow0; have q3 : i ≤ row0.length := hil; have q4 : (bif put then (1 : Nat) else 0) ≤ 1 := (by cases put <;> simp); (try simp only [List.length_append, List.length_cons, List.length_nil]); omega) rfl rfl ?_; intro A75 cap76 o77 w hC hB hO78
                  refine wlVal (opAssign rfl) rfl ?_
                  refine wlNil ?_
                  refine wcOf ?_
                  refine wcRegion ?_
                  refine wlVal (opMove rfl) rfl ?_
                  refine wlVal (opIncr rfl rfl (by have q := him.get hrow0; have q2 := of_decide_eq_true h21; omega)) rfl ?_
                  refine wlVal (opAssign rfl) rfl ?_
                  refine wlRound ?_
                  exact (IH0 (i + 1, true, A75, cap76, o77, ((out ++ [x]) ++ [x49])) _ _ ⟨hC, hB.tail, hs5, hO7, hO78, (of_decide_eq_true h21), (by simp only [List.length_append, List.length_cons, List.length_nil, h59, cond_true, cond_false] at *; omega), (by rw [← hI, drop_get hx50]; simp only [rvGo, h58, h59, h60, cond_true, cond_false, Bool.not_true, Bool.not_false, Bool.true_and, Bool.false_and])⟩ (by have := of_decide_eq_true h21; show row0.length - (i + 1) < row0.length - i; omega)).sub (fun _ ha => ((((((ha.start.cons ha (t := 0) rfl).cons ha (t := 5) rfl).cons ha (t := 7) rfl).cons ha (t := 8) rfl).cons ha (t := 9) rfl).cons ha (t := 10) rfl))
              · skip
                refine wlOff rfl rfl rfl rfl ?_
                refine wlOff rfl rfl rfl rfl ?_
                refine wlOff rfl rfl rfl rfl ?_
                refine wlOff rfl rfl rfl rfl ?_
                refine wlOff rfl rfl rfl rfl ?_
                refine wlVal (opPickF rfl rfl) rfl ?_
                refine wlThen ?_
                refine wcCondF rfl ?_
                refine wcSkip ?_
                refine wcOf ?_
                refine wcRegion ?_
                refine wlVal (opMove rfl) rfl ?_
                refine wlVal (opLoadRow (cs := x49.cells) rfl (hB.range (i := 0) (m := 33) rfl (by simp [Mark.cells, Do.cells, Word.cells])) row28 (by simp [Mark.cells, Do.cells, Word.cells])) rfl ?_
                refine wlBuildSlice (α := Mark) (ps := [(0, .tmp 77)]) (xs := [x49]) (rows := [x49.cells]) elo54 rfl rfl hC hB rfl rfl rfl ⟨rfl, trivial⟩ rfl ?_; intro b79 G w hk hC hB hs80
                replace hs5 := hs5.mono hk.gle; replace hO7 := hO7.mono hk.gle; replace hOout := hOout.mono hk.gle; replace hv17 := hv17.mono hk.gle; replace hr54 := hr54.mono hk.gle
                refine wlAppend (α := Mark) (bl := [(b57, 28, x49.cells), (b12, 28, x.cells)]) (o := outO) (r := []) elo54 hC hB rfl rfl hOout hs80 (by have q := him.get hrow0; have q3 : i ≤ row0.length := hil; have q4 : (bif put then (1 : Nat) else 0) ≤ 1 := (by cases put <;> simp); (try simp only [List.length_append, List.length_cons, List.length_nil]); omega) rfl rfl ?_; intro A81 cap82 o83 w hC hB hO84
                refine wlVal (opAssign rfl) rfl ?_
                refine wlNil ?_
                refine wcOf ?_
                refine wcRegion ?_
                refine wlVal (opMove rfl) rfl ?_
                refine wlVal (opIncr rfl rfl (by have q := him.get hrow0; have q2 := of_decide_eq_true h21; omega)) rfl ?_
                refine wlVal (opAssign rfl) rfl ?_
                refine wlRound ?_
                exact (IH0 (i + 1, true, A81, cap82, o83, (out ++ [x49])) _ _ ⟨hC, hB.tail, hs5, hO7, hO84, (of_decide_eq_true h21), (by simp only [List.length_append, List.length_cons, List.length_nil, h59, cond_true, cond_false] at *; omega), (by rw [← hI, drop_get hx50]; simp only [rvGo, h58, h59, cond_true, cond_false, Bool.not_true, Bool.not_false, Bool.true_and, Bool.false_and])⟩ (by have := of_decide_eq_true h21; show row0.length - (i + 1) < row0.length - i; omega)).sub (fun _ ha => ((((((ha.start.cons ha (t := 0) rfl).cons ha (t := 5) rfl).cons ha (t := 7) rfl).cons ha (t := 8) rfl).cons ha (t := 9) rfl).cons ha (t := 10) rfl))
            · skip
              refine wcCondT rfl ?_
              refine wcSeq ?_
              refine wcSeq ?_
              refine wcRegion ?_
              refine wlVal (opFieldAddr rfl fo28_1) rfl ?_
              refine wlVal (opLoadRow (cs := x49.dig.cells) rfl (hB.range (i := 0) (m := 32) rfl (by simp [Mark.cells, Do.cells, Word.cells])) row26 (by simp [Mark.cells, Do.cells, Word.cells])) rfl ?_
              refine wlVal (opFieldAddr rfl fo28_1) rfl ?_
              refine wlVal (opLoadRow (cs := x.dig.cells) rfl (hB.range (i := 1) (m := 32) rfl (by simp [Mark.cells, Do.cells, Word.cells])) row26 (by simp [Mark.cells, Do.cells, Word.cells])) rfl ?_
              refine wlVal (opNeRow (eq26 _ x49.dig x.dig) eg26 rfl rfl) rfl ?_
              refine wlThen ?_
              cases h85 : decide (x49.dig = x.dig)
              · skip
                refine wcCondT rfl ?_
                refine wcSeq ?_
                refine wcRegion ?_
                refine wlVal (opAssign rfl) rfl ?_
                refine wlThen ?_
                refine wcRet ?_
                exact fun ac_ ha => hQ _ _ _ (results1 ha rfl rfl) ha.df (endM hC [(bm, .cells ((.int .i64 m.crew.faults) :: ((.slice A9 m.crew.nodes.length cap10) :: ((.int .i64 m.mark.seq) :: (m.mark.dig.cells ++ ((.slice (some ⟨lm, 0, none⟩) m.l.length cap11) :: []))))).toArray 70 (0, 0)), (lm, (.cells (List.toArray cs3) 54 (0, 0)))] (.cons₂ _ (.cons₂ _ .slnil)) rfl ⟨_, _, rfl, (by have e_ : (rvoteM m n x).1 = m := (by have e := hI; rw [drop_get hx50] at e; simp only [rvGo, h58, h85, cond_true, cond_false, Bool.not_true, Bool.not_false, Bool.true_and, Bool.false_and] at e; have er := getD_at (d := []) hrow0; have e0 : decide ((i0 : Int) < 0) = false := (by simp); simp only [rvoteM, h13, h14, h15, cond_true, cond_false, Bool.not_true, Bool.not_false, hi0, e0, Int.toNat_natCast, er, ← e, cut1]; try rfl); rw [e_]; exact ⟨_, _, _, rfl, hs5, rfl, hO7, him⟩), (by have e := hI; rw [drop_get hx50] at e; simp only [rvGo, h58, h85, cond_true, cond_false, Bool.not_true, Bool.not_false, Bool.true_and, Bool.false_and] at e; have er := getD_at (d := []) hrow0; have e0 : decide ((i0 : Int) < 0) = false := (by simp); simp only [rvoteM, h13, h14, h15, cond_true, cond_false, Bool.not_true, Bool.not_false, hi0, e0, Int.toNat_natCast, er, ← e])⟩)
              · skip
                refine wcCondF rfl ?_
                refine wcSkip ?_
                refine wcOf ?_
                refine wcSeq ?_
                refine wcRegion ?_
                refine wlVal (opAssign rfl) rfl ?_
                refine wlThen ?_
                refine wcRet ?_
                exact fun ac_ ha => hQ _ _ _ (results1 ha rfl rfl) ha.df (endM hC [(bm, .cells ((.int .i64 m.crew.faults) :: ((.slice A9 m.crew.nodes.length cap10) :: ((.int .i64 m.mark.seq) :: (m.mark.dig.cells ++ ((.slice (some ⟨lm, 0, none⟩) m.l.length cap11) :: []))))).toArray 70 (0, 0)), (lm, (.cells (List.toArray cs3) 54 (0, 0)))] (.cons₂ _ (.cons₂ _ .slnil)) rfl ⟨_, _, rfl, (by have e_ : (rvoteM m n x).1 = m := (by have e := hI; rw [drop_get hx50] at e; simp only [rvGo, h58, h85, cond_true, cond_false, Bool.not_true, Bool.not_false, Bool.true_and, Bool.false_and] at e; have er := getD_at (d := []) hrow0; have e0 : decide ((i0 : Int) < 0) = false := (by simp); simp only [rvoteM, h13, h14, h15, cond_true, cond_false, Bool.not_true, Bool.not_false, hi0, e0, Int.toNat_natCast, er, ← e, cut1]; try rfl); rw [e_]; exact ⟨_, _, _, rfl, hs5, rfl, hO7, him⟩), (by have e := hI; rw [drop_get hx50] at e; simp only [rvGo, h58, h85, cond_true, cond_false, Bool.not_true, Bool.not_false, Bool.true_and, Bool.false_and] at e; have er := getD_at (d := []) hrow0; have e0 : decide ((i0 : Int) < 0) = false := (by simp); simp only [rvoteM, h13, h14, h15, cond_true, cond_false, Bool.not_true, Bool.not_false, hi0, e0, Int.toNat_natCast, er, ← e])⟩)
      · skip
        refine wlOff rfl rfl rfl rfl ?_
        refine wlOff rfl rfl rfl rfl ?_
        refine wlOff rfl rfl rfl rfl ?_
        refine wlOff rfl rfl rfl rfl ?_
        refine wlVal (opPickT rfl rfl) rfl ?_
        refine wlThen ?_
        refine wcCondT rfl ?_
        refine wcSeq ?_
        refine wcRegion ?_
        refine wlVal (opAssign rfl) rfl ?_
        refine wlThen ?_
        refine wcRet ?_
        exact fun ac_ ha => hQ _ _ _ (results1 ha rfl rfl) ha.df (endM hC [(bm, .cells ((.int .i64 m.crew.faults) :: ((.slice A9 m.crew.nodes.length cap10) :: ((.int .i64 m.mark.seq) :: (m.mark.dig.cells ++ ((.slice (some ⟨lm, 0, none⟩) m.l.length cap11) :: []))))).toArray 70 (0, 0)), (lm, (.cells (List.toArray cs3) 54 (0, 0)))] (.cons₂ _ (.cons₂ _ .slnil)) rfl ⟨_, _, rfl, (by have e_ : (rvoteM m n x).1 = m := (by simp only [rvoteM, h13, h14, cond_true, cond_false, Bool.not_true, Bool.not_false]; try rfl); rw [e_]; exact ⟨_, _, _, rfl, hs5, rfl, hO7, him⟩), (by simp only [rvoteM, h13, h14, cond_true, cond_false, Bool.not_true, Bool.not_false])⟩)
  · skip
    refine wcCondT rfl ?_
    refine wcSeq ?_
    refine wcRegion ?_
    refine wlVal (opAssign rfl) rfl ?_
    refine wlThen ?_
    refine wcRet ?_
    exact fun ac_ ha => hQ _ _ _ (results1 ha rfl rfl) ha.df (endM hC [(bm, .cells ((.int .i64 m.crew.faults) :: ((.slice A9 m.crew.nodes.length cap10) :: ((.int .i64 m.mark.seq) :: (m.mark.dig.cells ++ ((.slice (some ⟨lm, 0, none⟩) m.l.length cap11) :: []))))).toArray 70 (0, 0)), (lm, (.cells (List.toArray cs3) 54 (0, 0)))] (.cons₂ _ (.cons₂ _ .slnil)) rfl ⟨_, _, rfl, (by have e_ : (rvoteM m n x).1 = m := (by simp only [rvoteM, h13, cond_true, cond_false, Bool.not_true, Bool.not_false]; try rfl); rw [e_]; exact ⟨_, _, _, rfl, hs5, rfl, hO7, him⟩), (by simp only [rvoteM, h13, cond_true, cond_false, Bool.not_true, Bool.not_false])⟩)

end Go.Proofs.Ytbmanooiphghmaa
