/- What functions of the pick seat return, part 20. No condition. -/
import Derived.Test.YtbhkoipmojdkhaaPkG19
set_option linter.all false
namespace Go.Proofs.Ytbhkoipmojdkhaa
open Go Go.Gx Go.RowKit
theorem any_take_true {l : List Change} {k j : Nat} {y : Change} {n : Int} (hj : j < k) (hy : l[j]? = some y) (h : (y.node == n) = true) : List.any ((l.take k).map (·.node)) (fun z => z == n) = true := by
  rw [List.any_eq_true]
  refine ⟨y.node, ?_, h⟩
  rw [List.mem_map]
  exact ⟨y, List.mem_of_getElem? (by rw [List.getElem?_take, if_pos hj]; exact hy), rfl⟩
theorem co31 : callOk Try.prog 31 = true := by kernel_rfl
theorem co33 : callOk Try.prog 33 = true := by kernel_rfl
theorem co30 : callOk Try.prog 30 = true := by kernel_rfl
theorem rselect_ret (G0 : Gh) (w0 : World) (hw : Holds G0 w0) (csc : List Value) (c : Crew) (hc : Rp.Is G0 csc c) (vl : Value) (l : List Change) (hl : Sl G0 vl l) :
  RetG Try.prog 11 #[.agg csc.toArray, vl] G0 w0 (fun G v => ∃ v1, v = (.tuple #[(.agg ((selI (rhasB c) c l).1).cells.toArray), v1, (.int .i64 ((selI (rhasB c) c l).2.2))]) ∧ Sl G v1 ((selI (rhasB c) c l).2.1)) := by
 have hC := Cx.refl hw
 have hB : Bxs G0 w0 w0.heap.size [] := Bxs.nil _ _ _
 obtain ⟨v1, rfl, hs2⟩ := Crew.opIs hc
 obtain ⟨A3, cap4, rfl⟩ := hs2.form
 obtain ⟨A5, cap6, rfl⟩ := hl.form
 refine callsOf Try.func11 rfl _ Try.ntmps11 rfl _ (argsCons (argsCons argsNil (t := 0) rfl) (t := 1) rfl) ?_; intro Q0 hQ
 refine wcSeq (wcRegion ?_)
 refine wlBox (cs := [(.int .i64 c.faults), (.slice A3 c.nodes.length cap4)]) hC hB rfl rfl rfl ?_; intro b7 w hk hC hB
 refine wlAlloc hC hB zero30 rfl ?_; intro b8 w hk hC hB
 refine wlVal (opAssign rfl) rfl ?_
 refine wlVal (opAssign rfl) rfl ?_
 refine wlThen (wcSeq (wcSeq (wcRegion ?_)))
 refine wlVal (opLoadRow (cs := [(.int .i64 c.faults), (.slice A3 c.nodes.length cap4)]) rfl (hB.range (i := 1) (m := 2) rfl rfl) row24 rfl) rfl ?_
 refine wlCallS hC hB rfl co29 rfl rfl (rcheck_ret _ _ hC.holds _ c (Crew.mkIs (x := c) hs2)) ?_; intro w hk hC hB
 refine wlVal (opNeq rfl rfl) rfl ?_
 refine wlThen ?_
 cases h9 : ((check c)) != 0
 ·
  skip
  refine wcCondF rfl ?_
  refine wcSkip ?_
  refine wcOf ?_
  refine wcSeq (wcSeq (wcRegion ?_))
  refine wlVal (opAssign rfl) rfl ?_
  refine wlThen ?_
  refine wcBlock ?_
  refine WC.sub (wrInd (ι := Nat) (fun k => l.length - k) (fun k G w => Cx w0 G0 G w ∧ Bxs G w w0.heap.size [(b8, 30, ((.int .i64 0) :: (Dig.zero.cells ++ []))), (b7, 24, [(.int .i64 c.faults), (.slice A3 c.nodes.length cap4)])] ∧ Sl G (.slice A3 c.nodes.length cap4) c.nodes ∧ Sl G (.slice A5 l.length cap6) l ∧ badB (rhasB c) ((l.take k).map (·.node)) (l.drop k) = badB (rhasB c) [] l) (fun k => ((((Env.nil.put 1 (.slice A5 l.length cap6)).put 2 (.pointer (some ⟨b7, 0, none⟩))).put 4 (.pointer (some ⟨b8, 0, none⟩))).put 7 (.int .i64 (((k : Nat) : Int))))) ?_ (0) _ _ ⟨hC, hB, hs2, hl, (by simp)⟩) (fun _ ha => ((((ha.start.cons ha (t := 1) rfl).cons ha (t := 2) rfl).cons ha (t := 4) rfl).cons ha (t := 7) rfl))
  rintro k G w N0 IH0 ⟨hC, hB, hs2, hl, hI⟩
  show WC _ _ _ _ ((((Env.nil.put 1 (.slice A5 l.length cap6)).put 2 (.pointer (some ⟨b7, 0, none⟩))).put 4 (.pointer (some ⟨b8, 0, none⟩))).put 7 (.int .i64 (((k : Nat) : Int)))) w
  refine wcSeq (wcSeq (wcRegion ?_))
  refine wlVal (opMove rfl) rfl ?_
  refine wlVal (opMove rfl) rfl ?_
  refine wlVal (opLen rfl isl25) rfl ?_
  refine wlVal (opLssN rfl rfl) rfl ?_
  refine wlThen ?_
  cases h10 : decide (k < l.length)
  ·
   skip
   refine wcCondF rfl ?_
   refine wcExit ?_
   refine wcOf ?_
   refine wcSeq (wcRegion ?_)
   refine wlVal (opLoadRow (cs := [(.int .i64 c.faults), (.slice A3 c.nodes.length cap4)]) rfl (hB.range (i := 1) (m := 2) rfl rfl) row24 rfl) rfl ?_
   refine wlVal (opMove rfl) rfl ?_
   refine wlCallS hC hB rfl co31 rfl rfl (lowmark_ret _ _ hC.holds _ c (Crew.mkIs (x := c) hs2) _ l hl) ?_; intro w hk hC hB
   refine wlVal (opMove rfl) rfl ?_
   refine wlVal (opExtract rfl rfl) rfl ?_
   refine wlVal (opExtract rfl rfl) rfl ?_
   refine wlAlloc hC hB zero30 rfl ?_; intro b11 w hk hC hB
   refine wlStore 0 (vs := (((lowI (Council.mk (most c) (some_ c) l)).1)).cells) (cs := ((.int .i64 0) :: (Dig.zero.cells ++ []))) (cs' := (((lowI (Council.mk (most c) (some_ c) l)).1)).cells) hC hB rfl rfl rfl sz30 rfl (by simp [Mark.cells, Stand.cells]) (by simp [Mark.cells, Stand.cells, Value.oneCell']) (by simp [Mark.cells, Stand.cells]) (by simp [Mark.cells, Stand.cells]) rfl ?_; intro w hC hB
   refine wlVal (opAssign rfl) rfl ?_
   refine wlThen (wcSeq (wcSeq (wcRegion ?_)))
   refine wlVal (opMove rfl) rfl ?_
   refine wlVal (opLen rfl isl25) rfl ?_
   refine wlVal (opLoadRow (cs := [(.int .i64 c.faults), (.slice A3 c.nodes.length cap4)]) rfl (hB.range (i := 2) (m := 2) rfl rfl) row24 rfl) rfl ?_
   refine wlCallS hC hB rfl co32 rfl rfl (rmost_ret _ _ hC.holds _ c (Crew.mkIs (x := c) hs2)) ?_; intro w hk hC hB
   refine wlVal (opLss rfl rfl) rfl ?_
   refine wlVal (opMove rfl) rfl ?_
   cases h12 : decide (((l.length : Nat) : Int) < (most c))
   ·
    skip
    refine wlOn rfl rfl ?_
    refine wlVal (opMove rfl) rfl ?_
    refine wlOn rfl rfl ?_
    refine wlVal (opNot rfl) rfl ?_
    refine wlVal (opPickF rfl rfl) rfl ?_
    refine wlThen ?_
    cases h13 : ((lowI (Council.mk (most c) (some_ c) l)).2)
    ·
     skip
     refine wcCondT rfl ?_
     refine wcSeq (wcRegion ?_)
     refine wlVal (opBuild (ps := []) (cs := ((.int .i64 0) :: (Dig.zero.cells ++ []))) so30 zero30 rfl rfl (by simp [buildCells, Value.cells])) rfl ?_
     refine wlStore 1 (vs := ((.int .i64 0) :: (Dig.zero.cells ++ []))) (cs := ((.int .i64 0) :: (Dig.zero.cells ++ []))) (cs' := ((.int .i64 0) :: (Dig.zero.cells ++ []))) hC hB rfl rfl rfl sz30 rfl (by simp [Mark.cells, Stand.cells]) (by simp [Mark.cells, Stand.cells, Value.oneCell']) (by simp [Mark.cells, Stand.cells]) (by simp [Mark.cells, Stand.cells]) rfl ?_; intro w hC hB
     refine wlVal (opAssign rfl) rfl ?_
     refine wlVal (opAssign rfl) rfl ?_
     refine wlThen ?_
     refine wcRet ?_
     exact fun ac_ ha => hQ _ _ _ (results3 ha rfl ⟨_, _, ((.int .i64 0) :: (Dig.zero.cells ++ [])), rfl, row30, (by simp [Mark.cells, Stand.cells]), hB.range (i := 1) (m := 33) rfl (by simp [Mark.cells, Stand.cells]), rfl⟩ rfl rfl) ha.df (endG hC (by have e : selI (rhasB c) c l = ((Mark.mk 0 Dig.zero), [], 210) := (by have eb := hI; rw [List.drop_eq_nil_of_le (Nat.le_of_not_lt (of_decide_eq_false h10))] at eb; simp only [badB] at eb; simp only [selI, h9, ← eb, h12, h13, cond_true, cond_false, Bool.false_or, Bool.not_true, Bool.not_false]); rw [e]; exact ⟨_, rfl, (Sl.nil_ _)⟩))
    ·
     skip
     refine wcCondF rfl ?_
     refine wcSkip ?_
     refine wcOf ?_
     refine wcSeq (wcRegion ?_)
     refine wlVal (opAssign rfl) rfl ?_
     refine wlThen (wcSeq (wcRegion ?_))
     refine wlVal (opAssign rfl) rfl ?_
     refine wlThen (wcSeq (wcSeq (wcRegion ?_)))
     refine wlVal (opFieldAddr rfl fo30_0) rfl ?_
     refine wlVal (opLoadOne (v := (.int .i64 (((lowI (Council.mk (most c) (some_ c) l)).1).seq))) rfl (hB.cell (i := 0) rfl (by simp [Mark.cells, Stand.cells])) one3) rfl ?_
     refine wlVal (opAdd rfl rfl) rfl ?_
     refine wlVal (opAssign rfl) rfl ?_
     refine wlThen ?_
     refine wcBlock ?_
     refine WC.sub (wrInd (ι := Int × Nat × (Option Addr) × Nat × (Option Bx) × (List Mark) × Nat) (fun i => match i with | (n, m, outA, outC, outO, out, f) => f) (fun i G w => match i with | (n, m, outA, outC, outO, out, f) => Cx w0 G0 G w ∧ Bxs G w w0.heap.size ([(b11, 30, (((lowI (Council.mk (most c) (some_ c) l)).1)).cells), (b8, 30, ((.int .i64 0) :: (Dig.zero.cells ++ []))), (b7, 24, [(.int .i64 c.faults), (.slice A3 c.nodes.length cap4)])] ++ (Option.toList outO ++ [])) ∧ Sl G (.slice A3 c.nodes.length cap4) c.nodes ∧ Sl G (.slice A5 l.length cap6) l ∧ Ow G outO 30 (.slice outA out.length outC) out ∧ f ≤ 8 ∧ n = (lowI (Council.mk (most c) (some_ c) l)).1.seq + 9 - f ∧ out.length + f = 8 ∧ m ≤ out.length ∧ pickGo (Council.mk (most c) (some_ c) l) (lowI (Council.mk (most c) (some_ c) l)).1 f n out m = pickGo (Council.mk (most c) (some_ c) l) (lowI (Council.mk (most c) (some_ c) l)).1 8 ((lowI (Council.mk (most c) (some_ c) l)).1.seq + 1) [] 0) (fun i => match i with | (n, m, outA, outC, outO, out, f) => (((((((Env.nil.put 1 (.slice A5 l.length cap6)).put 2 (.pointer (some ⟨b7, 0, none⟩))).put 4 (.pointer (some ⟨b8, 0, none⟩))).put 9 (.pointer (some ⟨b11, 0, none⟩))).put 11 (.slice outA out.length outC)).put 12 (.int .i64 (((m : Nat) : Int)))).put 13 (.int .i64 n))) ?_ (IntKind.wrap .i64 (((lowI (Council.mk (most c) (some_ c) l)).1).seq + 1), 0, none, 0, none, [], 8) _ _ ⟨hC, hB, hs2, hl, (Ow.nil_ _ 30), (Nat.le_refl _), (by have hlo := lowI_rng h13; rw [IntWalk.i64_in _ (by omega)]; omega), rfl, (Nat.le_refl _), (by have hlo := lowI_rng h13; rw [IntWalk.i64_in _ (by omega)])⟩) (fun _ ha => (((((((ha.start.cons ha (t := 1) rfl).cons ha (t := 2) rfl).cons ha (t := 4) rfl).cons ha (t := 9) rfl).cons ha (t := 11) rfl).cons ha (t := 12) rfl).cons ha (t := 13) rfl))
     rintro ⟨n, m, outA, outC, outO, out, f⟩ G w N2 IH2 ⟨hC, hB, hs2, hl, hOout, hf, hn, ho, hm2, hJ⟩
     show WC _ _ _ _ (((((((Env.nil.put 1 (.slice A5 l.length cap6)).put 2 (.pointer (some ⟨b7, 0, none⟩))).put 4 (.pointer (some ⟨b8, 0, none⟩))).put 9 (.pointer (some ⟨b11, 0, none⟩))).put 11 (.slice outA out.length outC)).put 12 (.int .i64 (((m : Nat) : Int)))).put 13 (.int .i64 n)) w
     refine wcSeq (wcSeq (wcRegion ?_))
     refine wlVal (opMove rfl) rfl ?_
     refine wlVal (opFieldAddr rfl fo30_0) rfl ?_
     refine wlVal (opLoadOne (v := (.int .i64 (((lowI (Council.mk (most c) (some_ c) l)).1).seq))) rfl (hB.cell (i := 0) rfl (by simp [Mark.cells, Stand.cells])) one3) rfl ?_
     refine wlVal (opAdd rfl rfl) rfl ?_
     refine wlVal (opLeq rfl rfl) rfl ?_
     refine wlThen ?_
     cases h14 : decide (n ≤ IntKind.wrap .i64 (((lowI (Council.mk (most c) (some_ c) l)).1).seq + 8))
     ·
      skip
      refine wcCondF rfl ?_
      refine wcExit ?_
      refine wcOf ?_
      refine wcSeq ?_
      refine wcDraw fmix (by kernel_rfl) (by kernel_rfl) (vAt [(fun _ v_ => v_ = (.agg (((lowI (Council.mk (most c) (some_ c) l)).1)).cells.toArray)), (fun _ v_ => v_ = (.slice outA out.length outC)), (fun _ v_ => v_ = (.int .i64 (((m : Nat) : Int)))), (fun _ v_ => v_ = (.slice outA m outC)), (fun _ _ => True), (fun _ v_ => v_ = (.slice outA m outC)), (fun _ v_ => v_ = (.int .i64 0))]) (fun done _ G' w => Cx w0 G0 G' w ∧ Bxs G' w w0.heap.size ([(b11, 30, (((lowI (Council.mk (most c) (some_ c) l)).1)).cells), (b8, 30, (bif done 4 then (((lowI (Council.mk (most c) (some_ c) l)).1)).cells else ((.int .i64 0) :: (Dig.zero.cells ++ [])))), (b7, 24, [(.int .i64 c.faults), (.slice A3 c.nodes.length cap4)])] ++ (Option.toList outO ++ [])) ∧ GLe G G') G (vAt_mono ⟨fun _ _ _ _ h => h, fun _ _ _ _ h => h, fun _ _ _ _ h => h, fun _ _ _ _ h => h, fun _ _ _ _ h => h, fun _ _ _ _ h => h, fun _ _ _ _ h => h, trivial⟩) (fun _ _ => ⟨hC.drew, by simpa using hB.drew, fun _ _ h => h⟩) ?_ ?_
      ·
       refine dsNone (j := 1) rfl ?_ ?_
       ·
        intro done G w ac_ hd hp hn ⟨hC, hB, hg⟩ hM
        have hBx := hB
        try simp only [hn 4 _ rfl rfl, cond_false] at hB
        have f9 : ac_.tmps[9]? = some (.pointer (some ⟨b11, 0, none⟩)) := hM.old0 rfl rfl
        have hF := (hM.fr.add f9)
        exact OpVal.draw hF (opLoadRow (cs := (((lowI (Council.mk (most c) (some_ c) l)).1)).cells) rfl (hB.range (i := 0) (m := 33) rfl (by simp [Mark.cells, Stand.cells])) row30 (by simp [Mark.cells, Stand.cells])) ⟨G, fun _ _ h => h, ⟨hC, hBx, hg⟩, rfl⟩
       refine dsNone (j := 2) rfl ?_ ?_
       ·
        intro done G w ac_ hd hp hn ⟨hC, hB, hg⟩ hM
        have f11 : ac_.tmps[11]? = some (.slice outA out.length outC) := hM.old0 rfl rfl
        have hF := (hM.fr.add f11)
        exact OpVal.draw hF (opMove rfl) ⟨G, fun _ _ h => h, ⟨hC, hB, hg⟩, rfl⟩
       refine dsNone (j := 3) rfl ?_ ?_
       ·
        intro done G w ac_ hd hp hn ⟨hC, hB, hg⟩ hM
        have f12 : ac_.tmps[12]? = some (.int .i64 (((m : Nat) : Int))) := hM.old0 rfl rfl
        have hF := (hM.fr.add f12)
        exact OpVal.draw hF (opMove rfl) ⟨G, fun _ _ h => h, ⟨hC, hB, hg⟩, rfl⟩
       refine dsNone (j := 4) rfl ?_ ?_
       ·
        intro done G w ac_ hd hp hn ⟨hC, hB, hg⟩ hM
        replace hOout := hOout.mono hg
        have f99 := hM.eqv (s := 99) 1 rfl (hp 1 rfl) rfl rfl
        have f100 := hM.eqv (s := 100) 2 rfl (hp 2 rfl) rfl rfl
        have hF := ((hM.fr.add f99).add f100)
        exact OpVal.draw hF (opSliceTo slo31 rfl rfl (Nat.le_trans hm2 (by have := hOout.capLe; simpa using this))) ⟨G, fun _ _ h => h, ⟨hC, hB, hg⟩, rfl⟩
       refine dsNone (j := 5) rfl ?_ ?_
       ·
        intro done G w ac_ hd hp hn ⟨hC, hB, hg⟩ hM
        have f4 : ac_.tmps[4]? = some (.pointer (some ⟨b8, 0, none⟩)) := hM.old0 rfl rfl
        have f98 := hM.eqv (s := 98) 0 rfl (hp 0 rfl) rfl rfl
        have hF := ((hM.fr.add f4).add f98)
        try simp only [hd, cond_false] at hB
        exact drawStore hF 1 (vs := (((lowI (Council.mk (most c) (some_ c) l)).1)).cells) (cs := ((.int .i64 0) :: (Dig.zero.cells ++ []))) (cs' := (((lowI (Council.mk (most c) (some_ c) l)).1)).cells) hC hB rfl rfl rfl sz30 rfl (by simp [Mark.cells, Stand.cells]) (by simp [Mark.cells, Stand.cells, Value.oneCell']) (by simp [Mark.cells, Stand.cells]) (by simp [Mark.cells, Stand.cells]) (fun w' hC hB => ⟨G, fun _ _ h => h, ⟨hC, by simpa [Done.set] using hB, hg⟩, trivial⟩)
       refine dsNone (j := 6) rfl ?_ ?_
       ·
        intro done G w ac_ hd hp hn ⟨hC, hB, hg⟩ hM
        have f101 := hM.eqv (s := 101) 3 rfl (hp 3 rfl) rfl rfl
        have hF := (hM.fr.add f101)
        exact OpVal.draw hF (opAssign rfl) ⟨G, fun _ _ h => h, ⟨hC, hB, hg⟩, rfl⟩
       refine dsNone (j := 7) rfl ?_ ?_
       ·
        intro done G w ac_ hd hp hn ⟨hC, hB, hg⟩ hM
        have hF := hM.fr
        exact OpVal.draw hF (opAssign rfl) ⟨G, fun _ _ h => h, ⟨hC, hB, hg⟩, rfl⟩
       exact dsNil
      ·
       intro done G w ac_ hall ⟨hC, hB, hg⟩ hM
       replace hs2 := hs2.mono hg
       replace hl := hl.mono hg
       replace hOout := hOout.mono hg
       try simp only [hall 4 (by decide), cond_true] at hB
       have f4 : ac_.tmps[4]? = some (.pointer (some ⟨b8, 0, none⟩)) := hM.old0 rfl rfl
       have f5 := hM.eqv (s := 5) 5 rfl (hall 5 (by decide)) rfl rfl
       have f6 := hM.eqv (s := 6) 6 rfl (hall 6 (by decide)) rfl rfl
       refine ⟨(((Env.nil.put 4 (.pointer (some ⟨b8, 0, none⟩))).put 5 (.slice outA m outC)).put 6 (.int .i64 0)), (((hM.fr.add f4).add f5).add f6), ?_⟩
       clear hM hall
       refine wcOf ?_
       refine wcRet ?_
       obtain ⟨G, hg16, hC, hB, hs15⟩ := Ow.freeze' (bl := [(b11, 30, (((lowI (Council.mk (most c) (some_ c) l)).1)).cells), (b8, 30, (((lowI (Council.mk (most c) (some_ c) l)).1)).cells), (b7, 24, [(.int .i64 c.faults), (.slice A3 c.nodes.length cap4)])]) (r := []) (Ow.take hOout hm2) hC (Nat.le_refl _) hB (by simp [maxL]; omega)
       replace hs2 := hs2.mono hg16; replace hl := hl.mono hg16
       exact fun ac_ ha => hQ _ _ _ (results3 ha rfl ⟨_, _, (((lowI (Council.mk (most c) (some_ c) l)).1)).cells, rfl, row30, (by simp [Mark.cells, Stand.cells]), hB.range (i := 1) (m := 33) rfl (by simp [Mark.cells, Stand.cells]), rfl⟩ rfl rfl) ha.df (endG hC (by have e : selI (rhasB c) c l = (((lowI (Council.mk (most c) (some_ c) l)).1), (out.take m), 0) := (by have eb := hI; rw [List.drop_eq_nil_of_le (Nat.le_of_not_lt (of_decide_eq_false h10))] at eb; simp only [badB] at eb; simp only [selI, h9, ← eb, h12, h13, cond_true, cond_false, Bool.false_or, Bool.not_true, Bool.not_false]; have hlo := lowI_rng h13; have hf0 : f = 0 := (by have q := of_decide_eq_false h14; rw [IntWalk.i64_in _ (by omega)] at q; omega); subst hf0; rw [← hJ]; rfl); rw [e]; exact ⟨_, rfl, hs15⟩))
     ·
      skip
      refine wcCondT rfl ?_
      refine wcSkip ?_
      refine wcOf ?_
      refine wcSeq ?_
      refine wcBlock (wcSeq (wcRegion ?_))
      refine wlVal (opLoadRow (cs := [(.int .i64 c.faults), (.slice A3 c.nodes.length cap4)]) rfl (hB.range (i := 2) (m := 2) rfl rfl) row24 rfl) rfl ?_
      refine wlVal (opMove rfl) rfl ?_
      refine wlVal (opMove rfl) rfl ?_
      refine wlCallS hC hB rfl co33 rfl rfl (rat_ret _ _ hC.holds _ c (Crew.mkIs (x := c) hs2) _ l hl n) ?_; intro w hk hC hB
      refine wlVal (opMove rfl) rfl ?_
      refine wlVal (opExtract rfl rfl) rfl ?_
      refine wlVal (opExtract rfl rfl) rfl ?_
      refine wlAlloc hC hB zero30 rfl ?_; intro b17 w hk hC hB
      replace hB : Bxs G w w0.heap.size ([(b17, 30, ((.int .i64 0) :: (Dig.zero.cells ++ []))), (b11, 30, (((lowI (Council.mk (most c) (some_ c) l)).1)).cells), (b8, 30, ((.int .i64 0) :: (Dig.zero.cells ++ []))), (b7, 24, [(.int .i64 c.faults), (.slice A3 c.nodes.length cap4)])] ++ (Option.toList outO ++ [])) := hB
      refine wlStore 0 (vs := (((atI (Council.mk (most c) (some_ c) l) n).1)).cells) (cs := ((.int .i64 0) :: (Dig.zero.cells ++ []))) (cs' := (((atI (Council.mk (most c) (some_ c) l) n).1)).cells) hC hB rfl rfl rfl sz30 rfl (by simp [Mark.cells, Stand.cells]) (by simp [Mark.cells, Stand.cells, Value.oneCell']) (by simp [Mark.cells, Stand.cells]) (by simp [Mark.cells, Stand.cells]) rfl ?_; intro w hC hB
      replace hB : Bxs G w w0.heap.size ([(b17, 30, (((atI (Council.mk (most c) (some_ c) l) n).1)).cells), (b11, 30, (((lowI (Council.mk (most c) (some_ c) l)).1)).cells), (b8, 30, ((.int .i64 0) :: (Dig.zero.cells ++ []))), (b7, 24, [(.int .i64 c.faults), (.slice A3 c.nodes.length cap4)])] ++ (Option.toList outO ++ [])) := hB
      refine wlVal (opAssign rfl) rfl ?_
      refine wlThen (wcSeq (wcSeq (wcRegion ?_)))
      refine wlVal (opMove rfl) rfl ?_
      refine wlVal (opNot rfl) rfl ?_
      refine wlThen ?_
      cases h18 : ((atI (Council.mk (most c) (some_ c) l) n).2)
      ·
       skip
       refine wcCondT rfl ?_
       refine wcSeq (wcRegion ?_)
       refine wlVal (opBuild (ps := []) (cs := ((.int .i64 0) :: (Dig.zero.cells ++ []))) so30 zero30 rfl rfl (by simp [buildCells, Value.cells])) rfl ?_
       refine wlStore 2 (vs := ((.int .i64 0) :: (Dig.zero.cells ++ []))) (cs := ((.int .i64 0) :: (Dig.zero.cells ++ []))) (cs' := ((.int .i64 0) :: (Dig.zero.cells ++ []))) hC hB rfl rfl rfl sz30 rfl (by simp [Mark.cells, Stand.cells]) (by simp [Mark.cells, Stand.cells, Value.oneCell']) (by simp [Mark.cells, Stand.cells]) (by simp [Mark.cells, Stand.cells]) rfl ?_; intro w hC hB
       replace hB : Bxs G w w0.heap.size ([(b17, 30, (((atI (Council.mk (most c) (some_ c) l) n).1)).cells), (b11, 30, (((lowI (Council.mk (most c) (some_ c) l)).1)).cells), (b8, 30, ((.int .i64 0) :: (Dig.zero.cells ++ []))), (b7, 24, [(.int .i64 c.faults), (.slice A3 c.nodes.length cap4)])] ++ (Option.toList outO ++ [])) := hB
       refine wlVal (opAssign rfl) rfl ?_
       refine wlVal (opAssign rfl) rfl ?_
       refine wlThen ?_
       refine wcRet ?_
       exact fun ac_ ha => hQ _ _ _ (results3 ha rfl ⟨_, _, ((.int .i64 0) :: (Dig.zero.cells ++ [])), rfl, row30, (by simp [Mark.cells, Stand.cells]), hB.range (i := 2) (m := 33) rfl (by simp [Mark.cells, Stand.cells]), rfl⟩ rfl rfl) ha.df (endG hC (by have e : selI (rhasB c) c l = ((Mark.mk 0 Dig.zero), [], 210) := (by have eb := hI; rw [List.drop_eq_nil_of_le (Nat.le_of_not_lt (of_decide_eq_false h10))] at eb; simp only [badB] at eb; simp only [selI, h9, ← eb, h12, h13, cond_true, cond_false, Bool.false_or, Bool.not_true, Bool.not_false]; have hlo := lowI_rng h13; have hfp : 0 < f := (by have q := of_decide_eq_true h14; rw [IntWalk.i64_in _ (by omega)] at q; omega); rw [← hJ, pickGo_step hfp]; simp only [h18, Bool.not_false, cond_true]); rw [e]; exact ⟨_, rfl, (Sl.nil_ _)⟩))
      ·
       skip
       refine wcCondF rfl ?_
       refine wcSkip ?_
       refine wcOf ?_
       refine wcSeq (wcRegion ?_)
       refine wlVal (opMove rfl) rfl ?_
       refine wlVal (opLoadRow (cs := (((atI (Council.mk (most c) (some_ c) l) n).1)).cells) rfl (hB.range (i := 0) (m := 33) rfl (by simp [Mark.cells, Stand.cells])) row30 (by simp [Mark.cells, Stand.cells])) rfl ?_
       refine wlBuildSlice (α := Mark) (ps := [(0, .tmp 89)]) (xs := [((atI (Council.mk (most c) (some_ c) l) n).1)]) (rows := [(((atI (Council.mk (most c) (some_ c) l) n).1)).cells]) elo31 rfl rfl hC hB rfl rfl rfl ⟨rfl, trivial⟩ rfl ?_; intro b19 G w hk hC hB hs20
       replace hs2 := hs2.mono hk.gle; replace hl := hl.mono hk.gle; replace hOout := hOout.mono hk.gle
       refine wlAppend (α := Mark) (bl := [(b17, 30, (((atI (Council.mk (most c) (some_ c) l) n).1)).cells), (b11, 30, (((lowI (Council.mk (most c) (some_ c) l)).1)).cells), (b8, 30, ((.int .i64 0) :: (Dig.zero.cells ++ []))), (b7, 24, [(.int .i64 c.faults), (.slice A3 c.nodes.length cap4)])]) (o := outO) (r := []) elo31 hC hB rfl rfl hOout hs20 (by simp; omega) rfl rfl ?_; intro A21 cap22 o23 w hC hB hO24
       refine wlVal (opAssign rfl) rfl ?_
       refine wlThen (wcSeq (wcRegion ?_))
       refine wlVal (opFieldAddr rfl fo30_1) rfl ?_
       refine wlVal (opLoadRow (cs := (((atI (Council.mk (most c) (some_ c) l) n).1).dig).cells) rfl (hB.range (i := 0) (m := 32) rfl (by simp [Mark.cells, Stand.cells])) row28 (by simp [Mark.cells, Stand.cells])) rfl ?_
       refine wlVal (opBuildArr (ps := []) (cs := Dig.zero.cells) ar28 zero28 rfl rfl (by first | rfl | simp [buildA, Value.cells])) rfl ?_
       refine wlVal (opNeRow (eq28 _ (((atI (Council.mk (most c) (some_ c) l) n).1).dig) Dig.zero) eg28 rfl rfl) rfl ?_
       refine wlThen ?_
       cases h25 : decide (((atI (Council.mk (most c) (some_ c) l) n).1).dig = Dig.zero)
       ·
        skip
        refine wcCondT rfl ?_
        refine wcRegion ?_
        refine wlVal (opMove rfl) rfl ?_
        refine wlVal (opLen rfl isl31) rfl ?_
        refine wlVal (opAssign rfl) rfl ?_
        refine wlNil ?_
        refine wcOf ?_
        refine wcRegion ?_
        refine wlVal (opMove rfl) rfl ?_
        refine wlVal (opAdd rfl rfl) rfl ?_
        refine wlVal (opAssign rfl) rfl ?_
        refine wlRound ?_
        have hlo := lowI_rng h13; have hfp : 0 < f := (by have q := of_decide_eq_true h14; rw [IntWalk.i64_in _ (by omega)] at q; omega)
        have hw1 : IntKind.wrap .i64 (n + 1) = n + 1 := IntWalk.i64_in _ (by omega)
        exact (IH2 (IntKind.wrap .i64 (n + 1), ((out ++ [((atI (Council.mk (most c) (some_ c) l) n).1)])).length, A21, cap22, o23, (out ++ [((atI (Council.mk (most c) (some_ c) l) n).1)]), (f - 1)) _ _ ⟨hC, hB.tail, hs2, hl, hO24, (by omega), (by rw [hw1]; omega), (by simp; omega), (by simp; try omega), (by rw [← hJ, pickGo_step hfp, hw1]; simp only [h18, h25, Bool.not_true, Bool.not_false, cond_true, cond_false, List.length_append, List.length_cons, List.length_nil])⟩ (by show f - 1 < f; omega)).sub (fun _ ha => (((((((ha.start.cons ha (t := 1) rfl).cons ha (t := 2) rfl).cons ha (t := 4) rfl).cons ha (t := 9) rfl).cons ha (t := 11) rfl).cons ha (t := 12) rfl).cons ha (t := 13) rfl))
       ·
        skip
        refine wcCondF rfl ?_
        refine wcSkip ?_
        refine wcOf ?_
        refine wcRegion ?_
        refine wlVal (opMove rfl) rfl ?_
        refine wlVal (opAdd rfl rfl) rfl ?_
        refine wlVal (opAssign rfl) rfl ?_
        refine wlRound ?_
        have hlo := lowI_rng h13; have hfp : 0 < f := (by have q := of_decide_eq_true h14; rw [IntWalk.i64_in _ (by omega)] at q; omega)
        have hw1 : IntKind.wrap .i64 (n + 1) = n + 1 := IntWalk.i64_in _ (by omega)
        exact (IH2 (IntKind.wrap .i64 (n + 1), m, A21, cap22, o23, (out ++ [((atI (Council.mk (most c) (some_ c) l) n).1)]), (f - 1)) _ _ ⟨hC, hB.tail, hs2, hl, hO24, (by omega), (by rw [hw1]; omega), (by simp; omega), (by simp; try omega), (by rw [← hJ, pickGo_step hfp, hw1]; simp only [h18, h25, Bool.not_true, Bool.not_false, cond_true, cond_false, List.length_append, List.length_cons, List.length_nil])⟩ (by show f - 1 < f; omega)).sub (fun _ ha => (((((((ha.start.cons ha (t := 1) rfl).cons ha (t := 2) rfl).cons ha (t := 4) rfl).cons ha (t := 9) rfl).cons ha (t := 11) rfl).cons ha (t := 12) rfl).cons ha (t := 13) rfl))
   ·
    skip
    refine wlOff rfl rfl rfl rfl ?_
    refine wlOff rfl rfl rfl rfl ?_
    refine wlVal (opPickT rfl rfl) rfl ?_
    refine wlThen ?_
    refine wcCondT rfl ?_
    refine wcSeq (wcRegion ?_)
    refine wlVal (opBuild (ps := []) (cs := ((.int .i64 0) :: (Dig.zero.cells ++ []))) so30 zero30 rfl rfl (by simp [buildCells, Value.cells])) rfl ?_
    refine wlStore 1 (vs := ((.int .i64 0) :: (Dig.zero.cells ++ []))) (cs := ((.int .i64 0) :: (Dig.zero.cells ++ []))) (cs' := ((.int .i64 0) :: (Dig.zero.cells ++ []))) hC hB rfl rfl rfl sz30 rfl (by simp [Mark.cells, Stand.cells]) (by simp [Mark.cells, Stand.cells, Value.oneCell']) (by simp [Mark.cells, Stand.cells]) (by simp [Mark.cells, Stand.cells]) rfl ?_; intro w hC hB
    refine wlVal (opAssign rfl) rfl ?_
    refine wlVal (opAssign rfl) rfl ?_
    refine wlThen ?_
    refine wcRet ?_
    exact fun ac_ ha => hQ _ _ _ (results3 ha rfl ⟨_, _, ((.int .i64 0) :: (Dig.zero.cells ++ [])), rfl, row30, (by simp [Mark.cells, Stand.cells]), hB.range (i := 1) (m := 33) rfl (by simp [Mark.cells, Stand.cells]), rfl⟩ rfl rfl) ha.df (endG hC (by have e : selI (rhasB c) c l = ((Mark.mk 0 Dig.zero), [], 210) := (by have eb := hI; rw [List.drop_eq_nil_of_le (Nat.le_of_not_lt (of_decide_eq_false h10))] at eb; simp only [badB] at eb; simp only [selI, h9, ← eb, h12, cond_true, cond_false, Bool.true_or]); rw [e]; exact ⟨_, rfl, (Sl.nil_ _)⟩))
  ·
   skip
   refine wcCondT rfl ?_
   refine wcSkip ?_
   refine wcOf ?_
   refine wcSeq ?_
   refine wcBlock (wcSeq (wcSeq ?_))
   obtain ⟨x26, hx27⟩ : ∃ y_, l[k]? = some y_ := ⟨_, List.getElem?_eq_getElem (of_decide_eq_true h10)⟩
   obtain ⟨b28, o29, row30, hA33, hr31, hi32⟩ := hl.elem hx27; subst hA33
   obtain ⟨v34, v36, v38, rfl, hs35, hs37, hs39⟩ := Change.opIs hi32
   obtain ⟨A40, cap41, rfl⟩ := hs35.form
   obtain ⟨A42, cap43, rfl⟩ := hs37.form
   obtain ⟨A44, cap45, rfl⟩ := hs39.form
   refine wcDraw fmix (by kernel_rfl) (by kernel_rfl) (vAt [(fun _ v_ => v_ = (.agg [(.int .i64 c.faults), (.slice A3 c.nodes.length cap4)].toArray)), (fun _ v_ => v_ = (.slice (some ⟨b28, o29, none⟩) l.length cap6)), (fun _ v_ => v_ = (.int .i64 (((k : Nat) : Int)))), (fun _ v_ => v_ = (.pointer (some ⟨b28, o29 + k * 6, none⟩))), (fun _ v_ => v_ = (.pointer (some ⟨b28, o29 + k * 6, none⟩))), (fun _ v_ => v_ = (.int .i64 x26.node)), (fun _ v_ => v_ = (.bool ((rhasB c x26.node)))), (fun _ v_ => v_ = (.bool (!((rhasB c x26.node)))))]) (fun _ _ G' w => Cx w0 G0 G' w ∧ Bxs G' w w0.heap.size [(b8, 30, ((.int .i64 0) :: (Dig.zero.cells ++ []))), (b7, 24, [(.int .i64 c.faults), (.slice A3 c.nodes.length cap4)])] ∧ GLe G G') G (vAt_mono ⟨fun _ _ _ _ h => h, fun _ _ _ _ h => h, fun _ _ _ _ h => h, fun _ _ _ _ h => h, fun _ _ _ _ h => h, fun _ _ _ _ h => h, fun _ _ _ _ h => h, fun _ _ _ _ h => h, trivial⟩) (fun _ _ => ⟨hC.drew, hB.drew, fun _ _ h => h⟩) ?_ ?_
   ·
    refine dsNone (j := 1) rfl ?_ ?_
    ·
     intro done G w ac_ hd hp hn ⟨hC, hB, hg⟩ hM
     have f2 : ac_.tmps[2]? = some (.pointer (some ⟨b7, 0, none⟩)) := hM.old0 rfl rfl
     have hF := (hM.fr.add f2)
     exact OpVal.draw hF (opLoadRow (cs := [(.int .i64 c.faults), (.slice A3 c.nodes.length cap4)]) rfl (hB.range (i := 1) (m := 2) rfl rfl) row24 rfl) ⟨G, fun _ _ h => h, ⟨hC, hB, hg⟩, rfl⟩
    refine dsNone (j := 2) rfl ?_ ?_
    ·
     intro done G w ac_ hd hp hn ⟨hC, hB, hg⟩ hM
     have f1 : ac_.tmps[1]? = some (.slice (some ⟨b28, o29, none⟩) l.length cap6) := hM.old0 rfl rfl
     have hF := (hM.fr.add f1)
     exact OpVal.draw hF (opMove rfl) ⟨G, fun _ _ h => h, ⟨hC, hB, hg⟩, rfl⟩
    refine dsNone (j := 3) rfl ?_ ?_
    ·
     intro done G w ac_ hd hp hn ⟨hC, hB, hg⟩ hM
     have f7 : ac_.tmps[7]? = some (.int .i64 (((k : Nat) : Int))) := hM.old0 rfl rfl
     have hF := (hM.fr.add f7)
     exact OpVal.draw hF (opMove rfl) ⟨G, fun _ _ h => h, ⟨hC, hB, hg⟩, rfl⟩
    refine dsNone (j := 4) rfl ?_ ?_
    ·
     intro done G w ac_ hd hp hn ⟨hC, hB, hg⟩ hM
     have f27 := hM.eqv (s := 27) 1 rfl (hp 1 rfl) rfl rfl
     have f28 := hM.eqv (s := 28) 2 rfl (hp 2 rfl) rfl rfl
     have hF := ((hM.fr.add f27).add f28)
     exact OpVal.draw hF (opIndexAddr rfl rfl slo25 (of_decide_eq_true h10)) ⟨G, fun _ _ h => h, ⟨hC, hB, hg⟩, rfl⟩
    refine dsNone (j := 5) rfl ?_ ?_
    ·
     intro done G w ac_ hd hp hn ⟨hC, hB, hg⟩ hM
     have f29 := hM.eqv (s := 29) 3 rfl (hp 3 rfl) rfl rfl
     have hF := (hM.fr.add f29)
     exact OpVal.draw hF (opFieldAddr rfl fo49_0) ⟨G, fun _ _ h => h, ⟨hC, hB, hg⟩, rfl⟩
    refine dsNone (j := 6) rfl ?_ ?_
    ·
     intro done G w ac_ hd hp hn ⟨hC, hB, hg⟩ hM
     replace hr31 := hr31.mono hg
     have f30 := hM.eqv (s := 30) 4 rfl (hp 4 rfl) rfl rfl
     have hF := (hM.fr.add f30)
     exact OpVal.draw hF (opLoadOne (v := (.int .i64 x26.node)) rfl (RowG.cell0 hC.holds hr31 rfl) one3) ⟨G, fun _ _ h => h, ⟨hC, hB, hg⟩, rfl⟩
    refine dsNone (j := 7) rfl ?_ ?_
    ·
     intro done G w ac_ hd hp hn ⟨hC, hB, hg⟩ hM
     replace hs2 := hs2.mono hg
     have f26 := hM.eqv (s := 26) 0 rfl (hp 0 rfl) rfl rfl
     have f31 := hM.eqv (s := 31) 5 rfl (hp 5 rfl) rfl rfl
     have hF := ((hM.fr.add f26).add f31)
     exact drawCallS hF rfl co30 rfl (rhas_ret _ _ hC.holds _ c (Crew.mkIs (x := c) hs2) x26.node) (fun w' hk => ⟨G, fun _ _ h => h, ⟨hC.trans hk, hB.ext hk, hg⟩, rfl⟩)
    refine dsNone (j := 8) rfl ?_ ?_
    ·
     intro done G w ac_ hd hp hn ⟨hC, hB, hg⟩ hM
     have f32 := hM.eqv (s := 32) 6 rfl (hp 6 rfl) rfl rfl
     have hF := (hM.fr.add f32)
     exact OpVal.draw hF (opNot rfl) ⟨G, fun _ _ h => h, ⟨hC, hB, hg⟩, rfl⟩
    exact dsNil
   ·
    intro done G w ac_ hall ⟨hC, hB, hg⟩ hM
    replace hs2 := hs2.mono hg
    replace hl := hl.mono hg
    replace hs35 := hs35.mono hg
    replace hs37 := hs37.mono hg
    replace hs39 := hs39.mono hg
    replace hr31 := hr31.mono hg
    have f1 : ac_.tmps[1]? = some (.slice (some ⟨b28, o29, none⟩) l.length cap6) := hM.old0 rfl rfl
    have f2 : ac_.tmps[2]? = some (.pointer (some ⟨b7, 0, none⟩)) := hM.old0 rfl rfl
    have f4 : ac_.tmps[4]? = some (.pointer (some ⟨b8, 0, none⟩)) := hM.old0 rfl rfl
    have f7 : ac_.tmps[7]? = some (.int .i64 (((k : Nat) : Int))) := hM.old0 rfl rfl
    have f33 := hM.eqv (s := 33) 7 rfl (hall 7 (by decide)) rfl rfl
    refine ⟨(((((Env.nil.put 1 (.slice (some ⟨b28, o29, none⟩) l.length cap6)).put 2 (.pointer (some ⟨b7, 0, none⟩))).put 4 (.pointer (some ⟨b8, 0, none⟩))).put 7 (.int .i64 (((k : Nat) : Int)))).put 33 (.bool (!((rhasB c x26.node))))), (((((hM.fr.add f1).add f2).add f4).add f7).add f33), ?_⟩
    clear hM hall
    refine wcOf ?_
    cases h46 : (rhasB c x26.node)
    ·
     skip
     refine wcCondT rfl ?_
     refine wcSeq (wcRegion ?_)
     refine wlVal (opBuild (ps := []) (cs := ((.int .i64 0) :: (Dig.zero.cells ++ []))) so30 zero30 rfl rfl (by simp [buildCells, Value.cells])) rfl ?_
     refine wlStore 0 (vs := ((.int .i64 0) :: (Dig.zero.cells ++ []))) (cs := ((.int .i64 0) :: (Dig.zero.cells ++ []))) (cs' := ((.int .i64 0) :: (Dig.zero.cells ++ []))) hC hB rfl rfl rfl sz30 rfl (by simp [Mark.cells, Stand.cells]) (by simp [Mark.cells, Stand.cells, Value.oneCell']) (by simp [Mark.cells, Stand.cells]) (by simp [Mark.cells, Stand.cells]) rfl ?_; intro w hC hB
     refine wlVal (opAssign rfl) rfl ?_
     refine wlVal (opAssign rfl) rfl ?_
     refine wlThen ?_
     refine wcRet ?_
     exact fun ac_ ha => hQ _ _ _ (results3 ha rfl ⟨_, _, ((.int .i64 0) :: (Dig.zero.cells ++ [])), rfl, row30, (by simp [Mark.cells, Stand.cells]), hB.range (i := 0) (m := 33) rfl (by simp [Mark.cells, Stand.cells]), rfl⟩ rfl rfl) ha.df (endG hC (by have e : selI (rhasB c) c l = ((Mark.mk 0 Dig.zero), [], 2) := (by have eb := hI; rw [drop_get hx27] at eb; simp only [badB, h46, Bool.not_false, Bool.true_or, cond_true] at eb; simp only [selI, h9, ← eb, cond_true, cond_false]); rw [e]; exact ⟨_, rfl, (Sl.nil_ _)⟩))
    ·
     skip
     refine wcCondF rfl ?_
     refine wcSkip ?_
     refine wcOf ?_
     refine wcSeq (wcRegion ?_)
     refine wlVal (opAssign rfl) rfl ?_
     refine wlThen ?_
     refine wcBlock ?_
     refine WC.sub (wrInd (ι := Nat) (fun j => k - j) (fun j G w => Cx w0 G0 G w ∧ Bxs G w w0.heap.size [(b8, 30, ((.int .i64 0) :: (Dig.zero.cells ++ []))), (b7, 24, [(.int .i64 c.faults), (.slice A3 c.nodes.length cap4)])] ∧ Sl G (.slice A3 c.nodes.length cap4) c.nodes ∧ Sl G (.slice (some ⟨b28, o29, none⟩) l.length cap6) l ∧ Sl G (.slice A40 x26.marks.length cap41) x26.marks ∧ Sl G (.slice A42 x26.p.length cap43) x26.p ∧ Sl G (.slice A44 x26.q.length cap45) x26.q ∧ RowG G b28 (o29 + k * 6) [(.int .i64 x26.node), (.int .i64 x26.view), (.int .i64 x26.low), (.slice A40 x26.marks.length cap41), (.slice A42 x26.p.length cap43), (.slice A44 x26.q.length cap45)] ∧ j ≤ k ∧ List.any ((l.take j).map (·.node)) (fun y => y == x26.node) = false) (fun j => (((((Env.nil.put 1 (.slice (some ⟨b28, o29, none⟩) l.length cap6)).put 2 (.pointer (some ⟨b7, 0, none⟩))).put 4 (.pointer (some ⟨b8, 0, none⟩))).put 7 (.int .i64 (((k : Nat) : Int)))).put 8 (.int .i64 (((j : Nat) : Int))))) ?_ (0) _ _ ⟨hC, hB, hs2, hl, hs35, hs37, hs39, hr31, (Nat.zero_le _), (by simp)⟩) (fun _ ha => (((((ha.start.cons ha (t := 1) rfl).cons ha (t := 2) rfl).cons ha (t := 4) rfl).cons ha (t := 7) rfl).cons ha (t := 8) rfl))
     rintro j G w N1 IH1 ⟨hC, hB, hs2, hl, hs35, hs37, hs39, hr31, hjk, hN⟩
     show WC _ _ _ _ (((((Env.nil.put 1 (.slice (some ⟨b28, o29, none⟩) l.length cap6)).put 2 (.pointer (some ⟨b7, 0, none⟩))).put 4 (.pointer (some ⟨b8, 0, none⟩))).put 7 (.int .i64 (((k : Nat) : Int)))).put 8 (.int .i64 (((j : Nat) : Int)))) w
     refine wcSeq (wcSeq (wcRegion ?_))
     refine wlVal (opMove rfl) rfl ?_
     refine wlVal (opMove rfl) rfl ?_
     refine wlVal (opLssN rfl rfl) rfl ?_
     refine wlThen ?_
     cases h47 : decide (j < k)
     ·
      skip
      refine wcCondF rfl ?_
      refine wcExit ?_
      refine wcOf ?_
      refine wcRegion ?_
      refine wlVal (opMove rfl) rfl ?_
      refine wlVal (opIncr rfl rfl (incr_ok (of_decide_eq_true h10) hl.le)) rfl ?_
      refine wlVal (opAssign rfl) rfl ?_
      refine wlRound ?_
      exact (IH0 (k + 1) _ _ ⟨hC, hB, hs2, hl, (by have hjk2 : j = k := (by have q := of_decide_eq_false h47; omega); rw [hjk2] at hN; rw [← hI, drop_get hx27]; simp only [badB, h46, hN, Bool.not_true, Bool.false_or, cond_false]; simp [List.take_add_one, hx27])⟩ (by have := of_decide_eq_true h10; show l.length - (k + 1) < l.length - k; omega)).sub (fun _ ha => ((((ha.start.cons ha (t := 1) rfl).cons ha (t := 2) rfl).cons ha (t := 4) rfl).cons ha (t := 7) rfl))
     ·
      skip
      refine wcCondT rfl ?_
      refine wcSkip ?_
      refine wcOf ?_
      refine wcSeq ?_
      refine wcBlock (wcSeq ?_)
      obtain ⟨x48, hx49⟩ : ∃ y_, l[j]? = some y_ := ⟨_, List.getElem?_eq_getElem (by have q1 := of_decide_eq_true h47; have q2 := of_decide_eq_true h10; omega)⟩
      obtain ⟨row52, hr53, hi54⟩ := Sl.elem' hl hx49
      obtain ⟨v56, v58, v60, rfl, hs57, hs59, hs61⟩ := Change.opIs hi54
      obtain ⟨A62, cap63, rfl⟩ := hs57.form
      obtain ⟨A64, cap65, rfl⟩ := hs59.form
      obtain ⟨A66, cap67, rfl⟩ := hs61.form
      refine wcDraw fmix (by kernel_rfl) (by kernel_rfl) (vAt [(fun _ v_ => v_ = (.slice (some ⟨b28, o29, none⟩) l.length cap6)), (fun _ v_ => v_ = (.int .i64 (((j : Nat) : Int)))), (fun _ v_ => v_ = (.pointer (some ⟨b28, o29 + j * 6, none⟩))), (fun _ v_ => v_ = (.pointer (some ⟨b28, o29 + j * 6, none⟩))), (fun _ v_ => v_ = (.int .i64 x48.node)), (fun _ v_ => v_ = (.slice (some ⟨b28, o29, none⟩) l.length cap6)), (fun _ v_ => v_ = (.int .i64 (((k : Nat) : Int)))), (fun _ v_ => v_ = (.pointer (some ⟨b28, o29 + k * 6, none⟩))), (fun _ v_ => v_ = (.pointer (some ⟨b28, o29 + k * 6, none⟩))), (fun _ v_ => v_ = (.int .i64 x26.node)), (fun _ v_ => v_ = (.bool (x48.node == x26.node)))]) (fun _ _ G' w => Cx w0 G0 G' w ∧ Bxs G' w w0.heap.size [(b8, 30, ((.int .i64 0) :: (Dig.zero.cells ++ []))), (b7, 24, [(.int .i64 c.faults), (.slice A3 c.nodes.length cap4)])] ∧ GLe G G') G (vAt_mono ⟨fun _ _ _ _ h => h, fun _ _ _ _ h => h, fun _ _ _ _ h => h, fun _ _ _ _ h => h, fun _ _ _ _ h => h, fun _ _ _ _ h => h, fun _ _ _ _ h => h, fun _ _ _ _ h => h, fun _ _ _ _ h => h, fun _ _ _ _ h => h, fun _ _ _ _ h => h, trivial⟩) (fun _ _ => ⟨hC.drew, hB.drew, fun _ _ h => h⟩) ?_ ?_
      ·
       refine dsNone (j := 1) rfl ?_ ?_
       ·
        intro done G w ac_ hd hp hn ⟨hC, hB, hg⟩ hM
        have f1 : ac_.tmps[1]? = some (.slice (some ⟨b28, o29, none⟩) l.length cap6) := hM.old0 rfl rfl
        have hF := (hM.fr.add f1)
        exact OpVal.draw hF (opMove rfl) ⟨G, fun _ _ h => h, ⟨hC, hB, hg⟩, rfl⟩
       refine dsNone (j := 2) rfl ?_ ?_
       ·
        intro done G w ac_ hd hp hn ⟨hC, hB, hg⟩ hM
        have f8 : ac_.tmps[8]? = some (.int .i64 (((j : Nat) : Int))) := hM.old0 rfl rfl
        have hF := (hM.fr.add f8)
        exact OpVal.draw hF (opMove rfl) ⟨G, fun _ _ h => h, ⟨hC, hB, hg⟩, rfl⟩
       refine dsNone (j := 3) rfl ?_ ?_
       ·
        intro done G w ac_ hd hp hn ⟨hC, hB, hg⟩ hM
        have f40 := hM.eqv (s := 40) 0 rfl (hp 0 rfl) rfl rfl
        have f41 := hM.eqv (s := 41) 1 rfl (hp 1 rfl) rfl rfl
        have hF := ((hM.fr.add f40).add f41)
        exact OpVal.draw hF (opIndexAddr rfl rfl slo25 (by have q1 := of_decide_eq_true h47; have q2 := of_decide_eq_true h10; omega)) ⟨G, fun _ _ h => h, ⟨hC, hB, hg⟩, rfl⟩
       refine dsNone (j := 4) rfl ?_ ?_
       ·
        intro done G w ac_ hd hp hn ⟨hC, hB, hg⟩ hM
        have f42 := hM.eqv (s := 42) 2 rfl (hp 2 rfl) rfl rfl
        have hF := (hM.fr.add f42)
        exact OpVal.draw hF (opFieldAddr rfl fo49_0) ⟨G, fun _ _ h => h, ⟨hC, hB, hg⟩, rfl⟩
       refine dsNone (j := 5) rfl ?_ ?_
       ·
        intro done G w ac_ hd hp hn ⟨hC, hB, hg⟩ hM
        replace hr53 := hr53.mono hg
        have f43 := hM.eqv (s := 43) 3 rfl (hp 3 rfl) rfl rfl
        have hF := (hM.fr.add f43)
        exact OpVal.draw hF (opLoadOne (v := (.int .i64 x48.node)) rfl (RowG.cell0 hC.holds hr53 rfl) one3) ⟨G, fun _ _ h => h, ⟨hC, hB, hg⟩, rfl⟩
       refine dsNone (j := 6) rfl ?_ ?_
       ·
        intro done G w ac_ hd hp hn ⟨hC, hB, hg⟩ hM
        have f1 : ac_.tmps[1]? = some (.slice (some ⟨b28, o29, none⟩) l.length cap6) := hM.old0 rfl rfl
        have hF := (hM.fr.add f1)
        exact OpVal.draw hF (opMove rfl) ⟨G, fun _ _ h => h, ⟨hC, hB, hg⟩, rfl⟩
       refine dsNone (j := 7) rfl ?_ ?_
       ·
        intro done G w ac_ hd hp hn ⟨hC, hB, hg⟩ hM
        have f7 : ac_.tmps[7]? = some (.int .i64 (((k : Nat) : Int))) := hM.old0 rfl rfl
        have hF := (hM.fr.add f7)
        exact OpVal.draw hF (opMove rfl) ⟨G, fun _ _ h => h, ⟨hC, hB, hg⟩, rfl⟩
       refine dsNone (j := 8) rfl ?_ ?_
       ·
        intro done G w ac_ hd hp hn ⟨hC, hB, hg⟩ hM
        have f45 := hM.eqv (s := 45) 5 rfl (hp 5 rfl) rfl rfl
        have f46 := hM.eqv (s := 46) 6 rfl (hp 6 rfl) rfl rfl
        have hF := ((hM.fr.add f45).add f46)
        exact OpVal.draw hF (opIndexAddr rfl rfl slo25 (of_decide_eq_true h10)) ⟨G, fun _ _ h => h, ⟨hC, hB, hg⟩, rfl⟩
       refine dsNone (j := 9) rfl ?_ ?_
       ·
        intro done G w ac_ hd hp hn ⟨hC, hB, hg⟩ hM
        have f47 := hM.eqv (s := 47) 7 rfl (hp 7 rfl) rfl rfl
        have hF := (hM.fr.add f47)
        exact OpVal.draw hF (opFieldAddr rfl fo49_0) ⟨G, fun _ _ h => h, ⟨hC, hB, hg⟩, rfl⟩
       refine dsNone (j := 10) rfl ?_ ?_
       ·
        intro done G w ac_ hd hp hn ⟨hC, hB, hg⟩ hM
        replace hr31 := hr31.mono hg
        have f48 := hM.eqv (s := 48) 8 rfl (hp 8 rfl) rfl rfl
        have hF := (hM.fr.add f48)
        exact OpVal.draw hF (opLoadOne (v := (.int .i64 x26.node)) rfl (RowG.cell0 hC.holds hr31 rfl) one3) ⟨G, fun _ _ h => h, ⟨hC, hB, hg⟩, rfl⟩
       refine dsNone (j := 11) rfl ?_ ?_
       ·
        intro done G w ac_ hd hp hn ⟨hC, hB, hg⟩ hM
        have f44 := hM.eqv (s := 44) 4 rfl (hp 4 rfl) rfl rfl
        have f49 := hM.eqv (s := 49) 9 rfl (hp 9 rfl) rfl rfl
        have hF := ((hM.fr.add f44).add f49)
        exact OpVal.draw hF (opEql rfl rfl) ⟨G, fun _ _ h => h, ⟨hC, hB, hg⟩, rfl⟩
       exact dsNil
      ·
       intro done G w ac_ hall ⟨hC, hB, hg⟩ hM
       replace hs2 := hs2.mono hg
       replace hl := hl.mono hg
       replace hs35 := hs35.mono hg
       replace hs37 := hs37.mono hg
       replace hs39 := hs39.mono hg
       replace hr31 := hr31.mono hg
       have f1 : ac_.tmps[1]? = some (.slice (some ⟨b28, o29, none⟩) l.length cap6) := hM.old0 rfl rfl
       have f2 : ac_.tmps[2]? = some (.pointer (some ⟨b7, 0, none⟩)) := hM.old0 rfl rfl
       have f4 : ac_.tmps[4]? = some (.pointer (some ⟨b8, 0, none⟩)) := hM.old0 rfl rfl
       have f7 : ac_.tmps[7]? = some (.int .i64 (((k : Nat) : Int))) := hM.old0 rfl rfl
       have f8 : ac_.tmps[8]? = some (.int .i64 (((j : Nat) : Int))) := hM.old0 rfl rfl
       have f50 := hM.eqv (s := 50) 10 rfl (hall 10 (by decide)) rfl rfl
       refine ⟨((((((Env.nil.put 1 (.slice (some ⟨b28, o29, none⟩) l.length cap6)).put 2 (.pointer (some ⟨b7, 0, none⟩))).put 4 (.pointer (some ⟨b8, 0, none⟩))).put 7 (.int .i64 (((k : Nat) : Int)))).put 8 (.int .i64 (((j : Nat) : Int)))).put 50 (.bool (x48.node == x26.node))), ((((((hM.fr.add f1).add f2).add f4).add f7).add f8).add f50), ?_⟩
       clear hM hall
       refine wcOf ?_
       cases h68 : x48.node == x26.node
       ·
        skip
        refine wcCondF rfl ?_
        refine wcSkip ?_
        refine wcOf ?_
        refine wcRegion ?_
        refine wlVal (opMove rfl) rfl ?_
        refine wlVal (opIncr rfl rfl (by have q1 := of_decide_eq_true h47; have q2 := of_decide_eq_true h10; have := hl.le; unfold maxL at this; omega)) rfl ?_
        refine wlVal (opAssign rfl) rfl ?_
        refine wlRound ?_
        exact (IH1 (j + 1) _ _ ⟨hC, hB, hs2, hl, hs35, hs37, hs39, hr31, (of_decide_eq_true h47), (by rw [List.take_add_one, hx49]; simp only [Option.toList_some, List.map_append, List.any_append, hN, List.map_cons, List.map_nil, List.any_cons, List.any_nil, h68, Bool.or_false])⟩ (by have := of_decide_eq_true h47; show k - (j + 1) < k - j; omega)).sub (fun _ ha => (((((ha.start.cons ha (t := 1) rfl).cons ha (t := 2) rfl).cons ha (t := 4) rfl).cons ha (t := 7) rfl).cons ha (t := 8) rfl))
       ·
        skip
        refine wcCondT rfl ?_
        refine wcSeq (wcRegion ?_)
        refine wlVal (opBuild (ps := []) (cs := ((.int .i64 0) :: (Dig.zero.cells ++ []))) so30 zero30 rfl rfl (by simp [buildCells, Value.cells])) rfl ?_
        refine wlStore 0 (vs := ((.int .i64 0) :: (Dig.zero.cells ++ []))) (cs := ((.int .i64 0) :: (Dig.zero.cells ++ []))) (cs' := ((.int .i64 0) :: (Dig.zero.cells ++ []))) hC hB rfl rfl rfl sz30 rfl (by simp [Mark.cells, Stand.cells]) (by simp [Mark.cells, Stand.cells, Value.oneCell']) (by simp [Mark.cells, Stand.cells]) (by simp [Mark.cells, Stand.cells]) rfl ?_; intro w hC hB
        refine wlVal (opAssign rfl) rfl ?_
        refine wlVal (opAssign rfl) rfl ?_
        refine wlThen ?_
        refine wcRet ?_
        exact fun ac_ ha => hQ _ _ _ (results3 ha rfl ⟨_, _, ((.int .i64 0) :: (Dig.zero.cells ++ [])), rfl, row30, (by simp [Mark.cells, Stand.cells]), hB.range (i := 0) (m := 33) rfl (by simp [Mark.cells, Stand.cells]), rfl⟩ rfl rfl) ha.df (endG hC (by have e : selI (rhasB c) c l = ((Mark.mk 0 Dig.zero), [], 2) := (by have eb := hI; rw [drop_get hx27] at eb; simp only [badB, h46, any_take_true (of_decide_eq_true h47) hx49 h68, Bool.not_true, Bool.false_or, cond_true] at eb; simp only [selI, h9, ← eb, cond_true, cond_false]); rw [e]; exact ⟨_, rfl, (Sl.nil_ _)⟩))
 ·
  skip
  refine wcCondT rfl ?_
  refine wcSeq (wcRegion ?_)
  refine wlVal (opBuild (ps := []) (cs := ((.int .i64 0) :: (Dig.zero.cells ++ []))) so30 zero30 rfl rfl (by simp [buildCells, Value.cells])) rfl ?_
  refine wlStore 0 (vs := ((.int .i64 0) :: (Dig.zero.cells ++ []))) (cs := ((.int .i64 0) :: (Dig.zero.cells ++ []))) (cs' := ((.int .i64 0) :: (Dig.zero.cells ++ []))) hC hB rfl rfl rfl sz30 rfl (by simp [Mark.cells, Stand.cells]) (by simp [Mark.cells, Stand.cells, Value.oneCell']) (by simp [Mark.cells, Stand.cells]) (by simp [Mark.cells, Stand.cells]) rfl ?_; intro w hC hB
  refine wlVal (opAssign rfl) rfl ?_
  refine wlVal (opAssign rfl) rfl ?_
  refine wlThen ?_
  refine wcRet ?_
  exact fun ac_ ha => hQ _ _ _ (results3 ha rfl ⟨_, _, ((.int .i64 0) :: (Dig.zero.cells ++ [])), rfl, row30, (by simp [Mark.cells, Stand.cells]), hB.range (i := 0) (m := 33) rfl (by simp [Mark.cells, Stand.cells]), rfl⟩ rfl rfl) ha.df (endG hC (by have e : selI (rhasB c) c l = ((Mark.mk 0 Dig.zero), [], 110) := (by simp only [selI, h9, cond_true]); rw [e]; exact ⟨_, rfl, (Sl.nil_ _)⟩))

end Go.Proofs.Ytbhkoipmojdkhaa
