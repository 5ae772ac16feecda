/- What functions of the pick seat return, part 17. No condition. -/
import Derived.Test.YtbhkoipmojdkhaaPkG16
set_option linter.all false
namespace Go.Proofs.Ytbhkoipmojdkhaa
open Go Go.Gx Go.RowKit
def cpyI (x : Change) : Change := ⟨x.node, x.view, x.low, x.marks.take (min x.marks.length 40), x.p.take (min x.p.length 40), x.q.take (min x.q.length 40)⟩
def copiedI (l : List Change) : List Change := (l.take 9).map cpyI
theorem copied_end {l out : List Change} {k : Nat} (hI : out = (l.take k).map cpyI) (h9 : k ≤ 9) (h : decide (k < l.length) = false ∨ decide (k < 9) = false) : copiedI l = out := by
  subst hI
  unfold copiedI
  rcases h with h | h
  · have := of_decide_eq_false h
    rw [List.take_of_length_le (by omega), List.take_of_length_le (by omega)]
  · have := of_decide_eq_false h
    rw [show k = 9 by omega]
theorem sz31 : (Try.prog.info? 31).map (·.size) = some 1 := by kernel_rfl
theorem elo25 : elemOk Try.prog 25 49 6 96 = true := by kernel_rfl
theorem copied_ret (G0 : Gh) (w0 : World) (hw : Holds G0 w0) (vl : Value) (l : List Change) (hl : Sl G0 vl l) :
  RetG Try.prog 9 #[vl] G0 w0 (fun G v => ∃ v0, v = v0 ∧ Sl G v0 ((copiedI l))) := by
 have hC := Cx.refl hw
 have hB : Bxs G0 w0 w0.heap.size [] := Bxs.nil _ _ _
 obtain ⟨A1, cap2, rfl⟩ := hl.form
 refine callsOf Try.func9 rfl _ Try.ntmps9 rfl _ (argsCons argsNil (t := 0) rfl) ?_; intro Q0 hQ
 refine wcSeq (wcRegion ?_)
 refine wlVal (opAssign rfl) rfl ?_
 refine wlThen (wcSeq (wcRegion ?_))
 refine wlVal (opAssign rfl) rfl ?_
 refine wlThen (wcSeq (wcSeq (wcRegion ?_)))
 refine wlVal (opAssign rfl) rfl ?_
 refine wlThen ?_
 refine wcBlock ?_
 refine WC.sub (wrInd (ι := Nat × (Option Addr) × Nat × (Option Bx) × (List Change)) (fun i => match i with | (k, outA, outC, outO, out) => l.length - k) (fun i G w => match i with | (k, outA, outC, outO, out) => Cx w0 G0 G w ∧ Bxs G w w0.heap.size ([] ++ (Option.toList outO ++ [])) ∧ Sl G (.slice A1 l.length cap2) l ∧ Ow G outO 49 (.slice outA out.length outC) out ∧ k ≤ 9 ∧ out = (l.take k).map cpyI) (fun i => match i with | (k, outA, outC, outO, out) => (((Env.nil.put 0 (.slice A1 l.length cap2)).put 3 (.slice outA out.length outC)).put 4 (.int .i64 (((k : Nat) : Int))))) ?_ (0, none, 0, none, []) _ _ ⟨hC, hB, hl, (Ow.nil_ _ 49), (Nat.zero_le _), (by simp)⟩) (fun _ ha => (((ha.start.cons ha (t := 0) rfl).cons ha (t := 3) rfl).cons ha (t := 4) rfl))
 rintro ⟨k, outA, outC, outO, out⟩ G w N0 IH0 ⟨hC, hB, hl, hOout, hk9, hI⟩
 show WC _ _ _ _ (((Env.nil.put 0 (.slice A1 l.length cap2)).put 3 (.slice outA out.length outC)).put 4 (.int .i64 (((k : Nat) : Int)))) w
 refine wcSeq (wcSeq (wcRegion ?_))
 refine wlVal (opMove rfl) rfl ?_
 refine wlVal (opMove rfl) rfl ?_
 refine wlVal (opLen rfl isl25) rfl ?_
 refine wlVal (opLssN rfl rfl) rfl ?_
 refine wlVal (opMove rfl) rfl ?_
 cases h3 : decide (k < l.length)
 ·
  skip
  refine wlOff rfl rfl rfl rfl ?_
  refine wlOff rfl rfl rfl rfl ?_
  refine wlVal (opPickF rfl rfl) rfl ?_
  refine wlThen ?_
  refine wcCondF rfl ?_
  refine wcExit ?_
  refine wcOf ?_
  refine wcSeq (wcRegion ?_)
  refine wlVal (opMove rfl) rfl ?_
  refine wlVal (opAssign rfl) rfl ?_
  refine wlThen ?_
  refine wcRet ?_
  obtain ⟨G, hg5, hC, hB, hs4⟩ := Ow.freeze' (bl := []) (r := []) hOout hC (Nat.le_refl _) hB (by rw [hI]; simp [maxL]; omega)
  replace hl := hl.mono hg5
  exact fun ac_ ha => hQ _ _ _ (results1 ha rfl rfl) ha.df (endG hC (by rw [copied_end hI hk9 (by first | exact .inl h3 | exact .inr rfl)]; exact ⟨_, rfl, hs4⟩))
 ·
  skip
  refine wlOn rfl rfl ?_
  refine wlVal (opMove rfl) rfl ?_
  refine wlOn rfl rfl ?_
  refine wlVal (opLssN (b := 9) rfl rfl) rfl ?_
  refine wlVal (opPickT rfl rfl) rfl ?_
  refine wlThen ?_
  cases h6 : decide (k < 9)
  ·
   skip
   refine wcCondF rfl ?_
   refine wcExit ?_
   refine wcOf ?_
   refine wcSeq (wcRegion ?_)
   refine wlVal (opMove rfl) rfl ?_
   refine wlVal (opAssign rfl) rfl ?_
   refine wlThen ?_
   refine wcRet ?_
   obtain ⟨G, hg8, hC, hB, hs7⟩ := Ow.freeze' (bl := []) (r := []) hOout hC (Nat.le_refl _) hB (by rw [hI]; simp [maxL]; omega)
   replace hl := hl.mono hg8
   exact fun ac_ ha => hQ _ _ _ (results1 ha rfl rfl) ha.df (endG hC (by rw [copied_end hI hk9 (by first | exact .inl h3 | exact .inr h6)]; exact ⟨_, rfl, hs7⟩))
  ·
   skip
   refine wcCondT rfl ?_
   refine wcSkip ?_
   refine wcOf ?_
   refine wcSeq ?_
   refine wcBlock (wcSeq (wcRegion ?_))
   refine wlVal (opMove rfl) rfl ?_
   refine wlVal (opMove rfl) rfl ?_
   obtain ⟨x9, hx10⟩ : ∃ y_, l[k]? = some y_ := ⟨_, List.getElem?_eq_getElem (of_decide_eq_true h3)⟩
   obtain ⟨b11, o12, row13, hA16, hr14, hi15⟩ := hl.elem hx10; subst hA16
   obtain ⟨v17, v19, v21, rfl, hs18, hs20, hs22⟩ := Change.opIs hi15
   obtain ⟨A23, cap24, rfl⟩ := hs18.form
   obtain ⟨A25, cap26, rfl⟩ := hs20.form
   obtain ⟨A27, cap28, rfl⟩ := hs22.form
   refine wlVal (opIndexAddr rfl rfl slo25 (of_decide_eq_true h3)) rfl ?_
   refine wlVal (opLoadRow (cs := [(.int .i64 x9.node), (.int .i64 x9.view), (.int .i64 x9.low), (.slice A23 x9.marks.length cap24), (.slice A25 x9.p.length cap26), (.slice A27 x9.q.length cap28)]) rfl (RowG.range hC.holds hr14) row49 rfl) rfl ?_
   refine wlAlloc hC hB zero49 rfl ?_; intro b29 w hk hC hB
   replace hB : Bxs G w w0.heap.size ([(b29, 49, [(.int .i64 0), (.int .i64 0), (.int .i64 0), (.slice none 0 0), (.slice none 0 0), (.slice none 0 0)])] ++ (Option.toList outO ++ [])) := hB
   refine wlStore 0 (vs := [(.int .i64 x9.node), (.int .i64 x9.view), (.int .i64 x9.low), (.slice A23 x9.marks.length cap24), (.slice A25 x9.p.length cap26), (.slice A27 x9.q.length cap28)]) (cs := [(.int .i64 0), (.int .i64 0), (.int .i64 0), (.slice none 0 0), (.slice none 0 0), (.slice none 0 0)]) (cs' := [(.int .i64 x9.node), (.int .i64 x9.view), (.int .i64 x9.low), (.slice A23 x9.marks.length cap24), (.slice A25 x9.p.length cap26), (.slice A27 x9.q.length cap28)]) hC hB rfl rfl rfl sz49 rfl rfl rfl (by simp [Mark.cells, Stand.cells]) rfl rfl ?_; intro w hC hB
   replace hB : Bxs G w w0.heap.size ([(b29, 49, [(.int .i64 x9.node), (.int .i64 x9.view), (.int .i64 x9.low), (.slice A23 x9.marks.length cap24), (.slice A25 x9.p.length cap26), (.slice A27 x9.q.length cap28)])] ++ (Option.toList outO ++ [])) := hB
   refine wlThen (wcSeq (wcRegion ?_))
   refine wlVal (opAssign rfl) rfl ?_
   refine wlThen (wcSeq (wcRegion ?_))
   refine wlVal (opAssign rfl) rfl ?_
   refine wlVal (opAssign rfl) rfl ?_
   refine wlThen (wcSeq (wcRegion ?_))
   refine wlVal (opMove rfl) rfl ?_
   refine wlVal (opFieldAddr rfl fo49_3) rfl ?_
   refine wlVal (opLoadOne (v := (.slice A23 x9.marks.length cap24)) rfl (hB.cell (i := 0) rfl rfl) one31) rfl ?_
   refine wlVal (opFieldAddr rfl fo49_3) rfl ?_
   refine wlVal (opLoadOne (v := (.slice A23 x9.marks.length cap24)) rfl (hB.cell (i := 0) rfl rfl) one31) rfl ?_
   refine wlVal (opLen rfl isl31) rfl ?_
   refine wlVal (opMinN rfl rfl) rfl ?_
   have hs30 := Sl.take hs18 (h := min x9.marks.length 40) (Nat.min_le_left _ _)
   refine wlVal (opSliceTo slo31 rfl rfl (Sl.capOf hs18 (Nat.min_le_left _ _))) rfl ?_
   refine wlAppend (α := Mark) (bl := [(b29, 49, [(.int .i64 x9.node), (.int .i64 x9.view), (.int .i64 x9.low), (.slice A23 x9.marks.length cap24), (.slice A25 x9.p.length cap26), (.slice A27 x9.q.length cap28)])]) (o := none) (r := (Option.toList outO ++ [])) elo31 hC hB rfl rfl (Ow.nil_ _ 30) hs30 (by simp; omega) rfl rfl ?_; intro A31 cap32 o33 w hC hB hO34
   refine wlVal (opFieldAddr rfl fo49_3) rfl ?_
   refine wlStore 0 (vs := [(.slice A31 ((([] ++ (x9.marks.take (min x9.marks.length 40)))).length) cap32)]) (cs := [(.int .i64 x9.node), (.int .i64 x9.view), (.int .i64 x9.low), (.slice A23 x9.marks.length cap24), (.slice A25 x9.p.length cap26), (.slice A27 x9.q.length cap28)]) (cs' := [(.int .i64 x9.node), (.int .i64 x9.view), (.int .i64 x9.low), (.slice A31 ((([] ++ (x9.marks.take (min x9.marks.length 40)))).length) cap32), (.slice A25 x9.p.length cap26), (.slice A27 x9.q.length cap28)]) hC hB rfl rfl rfl sz31 rfl rfl rfl (by simp [Mark.cells, Stand.cells]) rfl rfl ?_; intro w hC hB
   replace hB : Bxs G w w0.heap.size ([(b29, 49, [(.int .i64 x9.node), (.int .i64 x9.view), (.int .i64 x9.low), (.slice A31 ((([] ++ (x9.marks.take (min x9.marks.length 40)))).length) cap32), (.slice A25 x9.p.length cap26), (.slice A27 x9.q.length cap28)])] ++ (Option.toList o33 ++ (Option.toList outO ++ []))) := hB
   refine wlThen (wcSeq (wcRegion ?_))
   refine wlVal (opMove rfl) rfl ?_
   refine wlVal (opFieldAddr rfl fo49_4) rfl ?_
   refine wlVal (opLoadOne (v := (.slice A25 x9.p.length cap26)) rfl (hB.cell (i := 0) rfl rfl) one47) rfl ?_
   refine wlVal (opFieldAddr rfl fo49_4) rfl ?_
   refine wlVal (opLoadOne (v := (.slice A25 x9.p.length cap26)) rfl (hB.cell (i := 0) rfl rfl) one47) rfl ?_
   refine wlVal (opLen rfl isl47) rfl ?_
   refine wlVal (opMinN rfl rfl) rfl ?_
   have hs35 := Sl.take hs20 (h := min x9.p.length 40) (Nat.min_le_left _ _)
   refine wlVal (opSliceTo slo47 rfl rfl (Sl.capOf hs20 (Nat.min_le_left _ _))) rfl ?_
   refine wlAppend (α := Stand) (bl := [(b29, 49, [(.int .i64 x9.node), (.int .i64 x9.view), (.int .i64 x9.low), (.slice A31 ((([] ++ (x9.marks.take (min x9.marks.length 40)))).length) cap32), (.slice A25 x9.p.length cap26), (.slice A27 x9.q.length cap28)])]) (o := none) (r := (Option.toList o33 ++ (Option.toList outO ++ []))) elo47 hC hB rfl rfl (Ow.nil_ _ 58) hs35 (by simp; omega) rfl rfl ?_; intro A36 cap37 o38 w hC hB hO39
   refine wlVal (opFieldAddr rfl fo49_4) rfl ?_
   refine wlStore 0 (vs := [(.slice A36 ((([] ++ (x9.p.take (min x9.p.length 40)))).length) cap37)]) (cs := [(.int .i64 x9.node), (.int .i64 x9.view), (.int .i64 x9.low), (.slice A31 ((([] ++ (x9.marks.take (min x9.marks.length 40)))).length) cap32), (.slice A25 x9.p.length cap26), (.slice A27 x9.q.length cap28)]) (cs' := [(.int .i64 x9.node), (.int .i64 x9.view), (.int .i64 x9.low), (.slice A31 ((([] ++ (x9.marks.take (min x9.marks.length 40)))).length) cap32), (.slice A36 ((([] ++ (x9.p.take (min x9.p.length 40)))).length) cap37), (.slice A27 x9.q.length cap28)]) hC hB rfl rfl rfl sz47 rfl rfl rfl (by simp [Mark.cells, Stand.cells]) rfl rfl ?_; intro w hC hB
   replace hB : Bxs G w w0.heap.size ([(b29, 49, [(.int .i64 x9.node), (.int .i64 x9.view), (.int .i64 x9.low), (.slice A31 ((([] ++ (x9.marks.take (min x9.marks.length 40)))).length) cap32), (.slice A36 ((([] ++ (x9.p.take (min x9.p.length 40)))).length) cap37), (.slice A27 x9.q.length cap28)])] ++ (Option.toList o38 ++ (Option.toList o33 ++ (Option.toList outO ++ [])))) := hB
   refine wlThen (wcSeq (wcRegion ?_))
   refine wlVal (opMove rfl) rfl ?_
   refine wlVal (opFieldAddr rfl fo49_5) rfl ?_
   refine wlVal (opLoadOne (v := (.slice A27 x9.q.length cap28)) rfl (hB.cell (i := 0) rfl rfl) one47) rfl ?_
   refine wlVal (opFieldAddr rfl fo49_5) rfl ?_
   refine wlVal (opLoadOne (v := (.slice A27 x9.q.length cap28)) rfl (hB.cell (i := 0) rfl rfl) one47) rfl ?_
   refine wlVal (opLen rfl isl47) rfl ?_
   refine wlVal (opMinN rfl rfl) rfl ?_
   have hs40 := Sl.take hs22 (h := min x9.q.length 40) (Nat.min_le_left _ _)
   refine wlVal (opSliceTo slo47 rfl rfl (Sl.capOf hs22 (Nat.min_le_left _ _))) rfl ?_
   refine wlAppend (α := Stand) (bl := [(b29, 49, [(.int .i64 x9.node), (.int .i64 x9.view), (.int .i64 x9.low), (.slice A31 ((([] ++ (x9.marks.take (min x9.marks.length 40)))).length) cap32), (.slice A36 ((([] ++ (x9.p.take (min x9.p.length 40)))).length) cap37), (.slice A27 x9.q.length cap28)])]) (o := none) (r := (Option.toList o38 ++ (Option.toList o33 ++ (Option.toList outO ++ [])))) elo47 hC hB rfl rfl (Ow.nil_ _ 58) hs40 (by simp; omega) rfl rfl ?_; intro A41 cap42 o43 w hC hB hO44
   refine wlVal (opFieldAddr rfl fo49_5) rfl ?_
   refine wlStore 0 (vs := [(.slice A41 ((([] ++ (x9.q.take (min x9.q.length 40)))).length) cap42)]) (cs := [(.int .i64 x9.node), (.int .i64 x9.view), (.int .i64 x9.low), (.slice A31 ((([] ++ (x9.marks.take (min x9.marks.length 40)))).length) cap32), (.slice A36 ((([] ++ (x9.p.take (min x9.p.length 40)))).length) cap37), (.slice A27 x9.q.length cap28)]) (cs' := [(.int .i64 x9.node), (.int .i64 x9.view), (.int .i64 x9.low), (.slice A31 ((([] ++ (x9.marks.take (min x9.marks.length 40)))).length) cap32), (.slice A36 ((([] ++ (x9.p.take (min x9.p.length 40)))).length) cap37), (.slice A41 ((([] ++ (x9.q.take (min x9.q.length 40)))).length) cap42)]) hC hB rfl rfl rfl sz47 rfl rfl rfl (by simp [Mark.cells, Stand.cells]) rfl rfl ?_; intro w hC hB
   replace hB : Bxs G w w0.heap.size ([(b29, 49, [(.int .i64 x9.node), (.int .i64 x9.view), (.int .i64 x9.low), (.slice A31 ((([] ++ (x9.marks.take (min x9.marks.length 40)))).length) cap32), (.slice A36 ((([] ++ (x9.p.take (min x9.p.length 40)))).length) cap37), (.slice A41 ((([] ++ (x9.q.take (min x9.q.length 40)))).length) cap42)])] ++ (Option.toList o43 ++ (Option.toList o38 ++ (Option.toList o33 ++ (Option.toList outO ++ []))))) := hB
   refine wlThen (wcRegion ?_)
   refine wlVal (opMove rfl) rfl ?_
   refine wlVal (opLoadRow (cs := [(.int .i64 x9.node), (.int .i64 x9.view), (.int .i64 x9.low), (.slice A31 ((([] ++ (x9.marks.take (min x9.marks.length 40)))).length) cap32), (.slice A36 ((([] ++ (x9.p.take (min x9.p.length 40)))).length) cap37), (.slice A41 ((([] ++ (x9.q.take (min x9.q.length 40)))).length) cap42)]) rfl (hB.range (i := 0) (m := 6) rfl rfl) row49 rfl) rfl ?_
   replace hB := Bxs.swapOwn1 (bl := [(b29, 49, [(.int .i64 x9.node), (.int .i64 x9.view), (.int .i64 x9.low), (.slice A31 ((([] ++ (x9.marks.take (min x9.marks.length 40)))).length) cap32), (.slice A36 ((([] ++ (x9.p.take (min x9.p.length 40)))).length) cap37), (.slice A41 ((([] ++ (x9.q.take (min x9.q.length 40)))).length) cap42)])]) (X := Option.toList o43) (A := Option.toList o38) (B := Option.toList o33) (r := (Option.toList outO ++ [])) hB
   replace hB := Bxs.swapOwn (bl := [(b29, 49, [(.int .i64 x9.node), (.int .i64 x9.view), (.int .i64 x9.low), (.slice A31 ((([] ++ (x9.marks.take (min x9.marks.length 40)))).length) cap32), (.slice A36 ((([] ++ (x9.p.take (min x9.p.length 40)))).length) cap37), (.slice A41 ((([] ++ (x9.q.take (min x9.q.length 40)))).length) cap42)])]) (A := Option.toList o43) (B := Option.toList o33) (r := (Option.toList o38 ++ (Option.toList outO ++ []))) hB
   obtain ⟨G, hg46, hC, hB, hs45⟩ := Ow.freeze' (bl := [(b29, 49, [(.int .i64 x9.node), (.int .i64 x9.view), (.int .i64 x9.low), (.slice A31 ((([] ++ (x9.marks.take (min x9.marks.length 40)))).length) cap32), (.slice A36 ((([] ++ (x9.p.take (min x9.p.length 40)))).length) cap37), (.slice A41 ((([] ++ (x9.q.take (min x9.q.length 40)))).length) cap42)])]) (r := (Option.toList o43 ++ (Option.toList o38 ++ (Option.toList outO ++ [])))) hO34 hC (Nat.le_refl _) hB (by simp [maxL]; omega)
   replace hl := hl.mono hg46; replace hOout := hOout.mono hg46; replace hO39 := hO39.mono hg46; replace hO44 := hO44.mono hg46
   replace hB := Bxs.swapOwn (bl := [(b29, 49, [(.int .i64 x9.node), (.int .i64 x9.view), (.int .i64 x9.low), (.slice A31 ((([] ++ (x9.marks.take (min x9.marks.length 40)))).length) cap32), (.slice A36 ((([] ++ (x9.p.take (min x9.p.length 40)))).length) cap37), (.slice A41 ((([] ++ (x9.q.take (min x9.q.length 40)))).length) cap42)])]) (A := Option.toList o43) (B := Option.toList o38) (r := (Option.toList outO ++ [])) hB
   obtain ⟨G, hg48, hC, hB, hs47⟩ := Ow.freeze' (bl := [(b29, 49, [(.int .i64 x9.node), (.int .i64 x9.view), (.int .i64 x9.low), (.slice A31 ((([] ++ (x9.marks.take (min x9.marks.length 40)))).length) cap32), (.slice A36 ((([] ++ (x9.p.take (min x9.p.length 40)))).length) cap37), (.slice A41 ((([] ++ (x9.q.take (min x9.q.length 40)))).length) cap42)])]) (r := (Option.toList o43 ++ (Option.toList outO ++ []))) hO39 hC (Nat.le_refl _) hB (by simp [maxL]; omega)
   replace hl := hl.mono hg48; replace hOout := hOout.mono hg48; replace hO44 := hO44.mono hg48; replace hs45 := hs45.mono hg48
   obtain ⟨G, hg50, hC, hB, hs49⟩ := Ow.freeze' (bl := [(b29, 49, [(.int .i64 x9.node), (.int .i64 x9.view), (.int .i64 x9.low), (.slice A31 ((([] ++ (x9.marks.take (min x9.marks.length 40)))).length) cap32), (.slice A36 ((([] ++ (x9.p.take (min x9.p.length 40)))).length) cap37), (.slice A41 ((([] ++ (x9.q.take (min x9.q.length 40)))).length) cap42)])]) (r := (Option.toList outO ++ [])) hO44 hC (Nat.le_refl _) hB (by simp [maxL]; omega)
   replace hl := hl.mono hg50; replace hOout := hOout.mono hg50; replace hs45 := hs45.mono hg50; replace hs47 := hs47.mono hg50
   refine wlBuildSlice (α := Change) (ps := [(0, .tmp 54)]) (xs := [(Change.mk x9.node x9.view x9.low (([] ++ (x9.marks.take (min x9.marks.length 40)))) (([] ++ (x9.p.take (min x9.p.length 40)))) (([] ++ (x9.q.take (min x9.q.length 40)))))]) (rows := [[(.int .i64 x9.node), (.int .i64 x9.view), (.int .i64 x9.low), (.slice A31 ((([] ++ (x9.marks.take (min x9.marks.length 40)))).length) cap32), (.slice A36 ((([] ++ (x9.p.take (min x9.p.length 40)))).length) cap37), (.slice A41 ((([] ++ (x9.q.take (min x9.q.length 40)))).length) cap42)]]) elo25 rfl rfl hC hB rfl rfl rfl ⟨(Change.mkIs (x := (Change.mk x9.node x9.view x9.low (([] ++ (x9.marks.take (min x9.marks.length 40)))) (([] ++ (x9.p.take (min x9.p.length 40)))) (([] ++ (x9.q.take (min x9.q.length 40)))))) hs45 hs47 hs49), trivial⟩ rfl ?_; intro b51 G w hk hC hB hs52
   replace hl := hl.mono hk.gle; replace hOout := hOout.mono hk.gle
   refine wlAppend (α := Change) (bl := [(b29, 49, [(.int .i64 x9.node), (.int .i64 x9.view), (.int .i64 x9.low), (.slice A31 ((([] ++ (x9.marks.take (min x9.marks.length 40)))).length) cap32), (.slice A36 ((([] ++ (x9.p.take (min x9.p.length 40)))).length) cap37), (.slice A41 ((([] ++ (x9.q.take (min x9.q.length 40)))).length) cap42)])]) (o := outO) (r := []) elo25 hC hB rfl rfl hOout hs52 (by rw [hI]; simp; omega) rfl rfl ?_; intro A53 cap54 o55 w hC hB hO56
   refine wlVal (opAssign rfl) rfl ?_
   refine wlNil ?_
   refine wcOf ?_
   refine wcRegion ?_
   refine wlVal (opMove rfl) rfl ?_
   refine wlVal (opIncr rfl rfl (incr_ok (of_decide_eq_true h3) hl.le)) rfl ?_
   refine wlVal (opAssign rfl) rfl ?_
   refine wlRound ?_
   exact (IH0 (k + 1, A53, cap54, o55, (out ++ [(Change.mk x9.node x9.view x9.low (([] ++ (x9.marks.take (min x9.marks.length 40)))) (([] ++ (x9.p.take (min x9.p.length 40)))) (([] ++ (x9.q.take (min x9.q.length 40)))))])) _ _ ⟨hC, hB.tail, hl, hO56, (of_decide_eq_true h6), (by rw [List.take_add_one, hx10]; simp [hI, cpyI])⟩ (by have := of_decide_eq_true h3; show l.length - (k + 1) < l.length - k; omega)).sub (fun _ ha => (((ha.start.cons ha (t := 0) rfl).cons ha (t := 3) rfl).cons ha (t := 4) rfl))

end Go.Proofs.Ytbhkoipmojdkhaa
