/- What functions of the pick seat return, part 21. No condition. -/
import Derived.Test.YtbhkoipmojdkhaaPkG20
set_option linter.all false
namespace Go.Proofs.Ytbhkoipmojdkhaa
open Go Go.Gx Go.RowKit
theorem change_eq {x y : Change} (h1 : (x.node != y.node) = false) (h2 : (x.view != y.view) = false) (h3 : (x.low != y.low) = false) (h4 : decide (x.marks = y.marks) = true) (h5 : x.p = y.p) (h6 : x.q = y.q) : x = y := by
  cases x; cases y; simp at *; exact ⟨h1, h2, h3, h4, h5, h6⟩
theorem take_full {α : Type} {l l' : List α} {j : Nat} (hl : (((l.length : Nat) : Int) != ((l'.length : Nat) : Int)) = false) (hj : decide (j < l.length) = false) (h : l.take j = l'.take j) : l = l' := by
  have q1 := of_decide_eq_false hj
  have q2 : l.length = l'.length := by simp at hl; omega
  rwa [List.take_of_length_le (by omega), List.take_of_length_le (by omega)] at h
theorem ne_of_get {l l' : List Change} {k : Nat} {x y : Change} (hx : l[k]? = some x) (hy : l'[k]? = some y) (h : x ≠ y) : decide (l = l') = false := by
  simp; rintro rfl; exact h (Option.some.inj (hx.symm.trans hy))
theorem fo49_1 : fieldOk Try.prog 49 1 1 = true := by kernel_rfl
theorem co12 : callOk Try.prog 12 = true := by kernel_rfl
theorem same_ret (G0 : Gh) (w0 : World) (hw : Holds G0 w0) (vla : Value) (la : List Change) (hla : Sl G0 vla la) (vlb : Value) (lb : List Change) (hlb : Sl G0 vlb lb) :
  RetS Try.prog 13 #[vla, vlb] G0 w0 (.bool (decide (la = lb))) := by
 have hC := Cx.refl hw
 have hB : Bxs G0 w0 w0.heap.size [] := Bxs.nil _ _ _
 obtain ⟨A1, cap2, rfl⟩ := hla.form
 obtain ⟨A3, cap4, rfl⟩ := hlb.form
 refine callsOf Try.func13 rfl _ Try.ntmps13 rfl _ (argsCons (argsCons argsNil (t := 0) rfl) (t := 1) rfl) ?_; intro Q0 hQ
 refine wcSeq (wcRegion ?_)
 refine wlVal (opAssign rfl) rfl ?_
 refine wlThen (wcSeq (wcSeq (wcRegion ?_)))
 refine wlVal (opMove rfl) rfl ?_
 refine wlVal (opLen rfl isl25) rfl ?_
 refine wlVal (opMove rfl) rfl ?_
 refine wlVal (opLen rfl isl25) rfl ?_
 refine wlVal (opNeq rfl rfl) rfl ?_
 refine wlThen ?_
 cases h5 : (((la.length : Nat) : Int)) != (((lb.length : Nat) : Int))
 ·
  skip
  refine wcCondF rfl ?_
  refine wcSkip ?_
  refine wcOf ?_
  refine wcSeq (wcSeq (wcRegion ?_))
  refine wlVal (opAssign rfl) rfl ?_
  refine wlThen ?_
  refine wcBlock ?_
  refine WC.sub (wrInd (ι := Nat) (fun k => la.length - k) (fun k G w => Cx w0 G0 G w ∧ Bxs G w w0.heap.size [] ∧ Sl G (.slice A1 la.length cap2) la ∧ Sl G (.slice A3 lb.length cap4) lb ∧ la.take k = lb.take k) (fun k => (((Env.nil.put 0 (.slice A1 la.length cap2)).put 1 (.slice A3 lb.length cap4)).put 5 (.int .i64 (((k : Nat) : Int))))) ?_ (0) _ _ ⟨hC, hB, hla, hlb, rfl⟩) (fun _ ha => (((ha.start.cons ha (t := 0) rfl).cons ha (t := 1) rfl).cons ha (t := 5) rfl))
  rintro k G w N0 IH0 ⟨hC, hB, hla, hlb, hI⟩
  show WC _ _ _ _ (((Env.nil.put 0 (.slice A1 la.length cap2)).put 1 (.slice A3 lb.length cap4)).put 5 (.int .i64 (((k : Nat) : Int)))) w
  refine wcSeq (wcSeq (wcRegion ?_))
  refine wlVal (opMove rfl) rfl ?_
  refine wlVal (opMove rfl) rfl ?_
  refine wlVal (opLen rfl isl25) rfl ?_
  refine wlVal (opLssN rfl rfl) rfl ?_
  refine wlThen ?_
  cases h6 : decide (k < la.length)
  ·
   skip
   refine wcCondF rfl ?_
   refine wcExit ?_
   refine wcOf ?_
   refine wcSeq (wcRegion ?_)
   refine wlVal (opAssign rfl) rfl ?_
   refine wlThen ?_
   refine wcRet ?_
   exact fun ac_ ha => hQ _ _ _ (results1 ha rfl rfl) ha.df (endS hC hw (by rw [take_full h5 h6 hI]; simp))
  ·
   skip
   refine wcCondT rfl ?_
   refine wcSkip ?_
   refine wcOf ?_
   refine wcSeq ?_
   refine wcBlock (wcSeq ?_)
   obtain ⟨x7, hx8⟩ : ∃ y_, la[k]? = some y_ := ⟨_, List.getElem?_eq_getElem (of_decide_eq_true h6)⟩
   obtain ⟨b9, o10, row11, hA14, hr12, hi13⟩ := hla.elem hx8; subst hA14
   obtain ⟨v15, v17, v19, rfl, hs16, hs18, hs20⟩ := Change.opIs hi13
   obtain ⟨A21, cap22, rfl⟩ := hs16.form
   obtain ⟨A23, cap24, rfl⟩ := hs18.form
   obtain ⟨A25, cap26, rfl⟩ := hs20.form
   obtain ⟨x27, hx28⟩ : ∃ y_, lb[k]? = some y_ := ⟨_, List.getElem?_eq_getElem (by have q1 := of_decide_eq_true h6; have q2 := h5; simp at q2; omega)⟩
   obtain ⟨b29, o30, row31, hA34, hr32, hi33⟩ := hlb.elem hx28; subst hA34
   obtain ⟨v35, v37, v39, rfl, hs36, hs38, hs40⟩ := Change.opIs hi33
   obtain ⟨A41, cap42, rfl⟩ := hs36.form
   obtain ⟨A43, cap44, rfl⟩ := hs38.form
   obtain ⟨A45, cap46, rfl⟩ := hs40.form
   refine wcDraw fmix (by kernel_rfl) (by kernel_rfl) (vAt [(fun _ v_ => v_ = (.slice (some ⟨b9, o10, none⟩) la.length cap2)), (fun _ v_ => v_ = (.int .i64 (((k : Nat) : Int)))), (fun _ v_ => v_ = (.pointer (some ⟨b9, o10 + k * 6, none⟩))), (fun _ v_ => v_ = (.agg [(.int .i64 x7.node), (.int .i64 x7.view), (.int .i64 x7.low), (.slice A21 x7.marks.length cap22), (.slice A23 x7.p.length cap24), (.slice A25 x7.q.length cap26)].toArray)), (fun _ v_ => v_ = (.slice (some ⟨b29, o30, none⟩) lb.length cap4)), (fun _ v_ => v_ = (.int .i64 (((k : Nat) : Int)))), (fun _ v_ => v_ = (.pointer (some ⟨b29, o30 + k * 6, none⟩))), (fun _ v_ => v_ = (.agg [(.int .i64 x27.node), (.int .i64 x27.view), (.int .i64 x27.low), (.slice A41 x27.marks.length cap42), (.slice A43 x27.p.length cap44), (.slice A45 x27.q.length cap46)].toArray)), (fun _ _ => True), (fun _ _ => True), (fun _ _ => True), (fun _ _ => True)]) (fun done ac_ G' w => Cx w0 G0 G' w ∧ GLe G G' ∧ ∃ (B8 : Nat) (B9 : Nat), (done 8 = true → ac_.tmps[6]? = some (.pointer (some ⟨B8, 0, none⟩))) ∧ (done 9 = true → ac_.tmps[7]? = some (.pointer (some ⟨B9, 0, none⟩))) ∧ Bxs G' w w0.heap.size ((bif done 8 then [(B8, 49, (bif done 10 then [(.int .i64 x7.node), (.int .i64 x7.view), (.int .i64 x7.low), (.slice A21 x7.marks.length cap22), (.slice A23 x7.p.length cap24), (.slice A25 x7.q.length cap26)] else [(.int .i64 0), (.int .i64 0), (.int .i64 0), (.slice none 0 0), (.slice none 0 0), (.slice none 0 0)]))] else []) ++ ((bif done 9 then [(B9, 49, (bif done 11 then [(.int .i64 x27.node), (.int .i64 x27.view), (.int .i64 x27.low), (.slice A41 x27.marks.length cap42), (.slice A43 x27.p.length cap44), (.slice A45 x27.q.length cap46)] else [(.int .i64 0), (.int .i64 0), (.int .i64 0), (.slice none 0 0), (.slice none 0 0), (.slice none 0 0)]))] else []) ++ []))) G (vAt_mono ⟨fun _ _ _ _ h => h, fun _ _ _ _ h => h, fun _ _ _ _ h => h, fun _ _ _ _ h => h, fun _ _ _ _ h => h, fun _ _ _ _ h => h, fun _ _ _ _ h => h, fun _ _ _ _ h => h, fun _ _ _ _ h => h, fun _ _ _ _ h => h, fun _ _ _ _ h => h, fun _ _ _ _ h => h, trivial⟩) (fun _ _ => ⟨hC.drew, fun _ _ h => h, 0, 0, (fun h => by cases h), (fun h => by cases h), hB.drew⟩) ?_ ?_
   ·
    refine dsNone (j := 1) rfl ?_ ?_
    ·
     intro done G w ac_ hd hp hn ⟨hC, hg, B8, B9, hT8, hT9, hBx⟩ hM
     have hB := ((hBx.sub (List.sublist_append_right _ _)).sub (List.sublist_append_right _ _))
     have f0 : ac_.tmps[0]? = some (.slice (some ⟨b9, o10, none⟩) la.length cap2) := hM.old0 rfl rfl
     have hF := (hM.fr.add f0)
     exact OpVal.draw hF (opMove rfl) ⟨G, fun _ _ h => h, ⟨hC, hg, B8, B9, (fun h => (put_other rfl).trans (hT8 h)), (fun h => (put_other rfl).trans (hT9 h)), hBx⟩, rfl⟩
    refine dsNone (j := 2) rfl ?_ ?_
    ·
     intro done G w ac_ hd hp hn ⟨hC, hg, B8, B9, hT8, hT9, hBx⟩ hM
     have hB := ((hBx.sub (List.sublist_append_right _ _)).sub (List.sublist_append_right _ _))
     have f5 : ac_.tmps[5]? = some (.int .i64 (((k : Nat) : Int))) := hM.old0 rfl rfl
     have hF := (hM.fr.add f5)
     exact OpVal.draw hF (opMove rfl) ⟨G, fun _ _ h => h, ⟨hC, hg, B8, B9, (fun h => (put_other rfl).trans (hT8 h)), (fun h => (put_other rfl).trans (hT9 h)), hBx⟩, rfl⟩
    refine dsNone (j := 3) rfl ?_ ?_
    ·
     intro done G w ac_ hd hp hn ⟨hC, hg, B8, B9, hT8, hT9, hBx⟩ hM
     have hB := ((hBx.sub (List.sublist_append_right _ _)).sub (List.sublist_append_right _ _))
     have f21 := hM.eqv (s := 21) 0 rfl (hp 0 rfl) rfl rfl
     have f22 := hM.eqv (s := 22) 1 rfl (hp 1 rfl) rfl rfl
     have hF := ((hM.fr.add f21).add f22)
     exact OpVal.draw hF (opIndexAddr rfl rfl slo25 (of_decide_eq_true h6)) ⟨G, fun _ _ h => h, ⟨hC, hg, B8, B9, (fun h => (put_other rfl).trans (hT8 h)), (fun h => (put_other rfl).trans (hT9 h)), hBx⟩, rfl⟩
    refine dsNone (j := 4) rfl ?_ ?_
    ·
     intro done G w ac_ hd hp hn ⟨hC, hg, B8, B9, hT8, hT9, hBx⟩ hM
     have hB := ((hBx.sub (List.sublist_append_right _ _)).sub (List.sublist_append_right _ _))
     replace hr12 := hr12.mono hg
     have f23 := hM.eqv (s := 23) 2 rfl (hp 2 rfl) rfl rfl
     have hF := (hM.fr.add f23)
     exact OpVal.draw hF (opLoadRow (cs := [(.int .i64 x7.node), (.int .i64 x7.view), (.int .i64 x7.low), (.slice A21 x7.marks.length cap22), (.slice A23 x7.p.length cap24), (.slice A25 x7.q.length cap26)]) rfl (RowG.range hC.holds hr12) row49 rfl) ⟨G, fun _ _ h => h, ⟨hC, hg, B8, B9, (fun h => (put_other rfl).trans (hT8 h)), (fun h => (put_other rfl).trans (hT9 h)), hBx⟩, rfl⟩
    refine dsNone (j := 5) rfl ?_ ?_
    ·
     intro done G w ac_ hd hp hn ⟨hC, hg, B8, B9, hT8, hT9, hBx⟩ hM
     have hB := ((hBx.sub (List.sublist_append_right _ _)).sub (List.sublist_append_right _ _))
     have f1 : ac_.tmps[1]? = some (.slice (some ⟨b29, o30, none⟩) lb.length cap4) := hM.old0 rfl rfl
     have hF := (hM.fr.add f1)
     exact OpVal.draw hF (opMove rfl) ⟨G, fun _ _ h => h, ⟨hC, hg, B8, B9, (fun h => (put_other rfl).trans (hT8 h)), (fun h => (put_other rfl).trans (hT9 h)), hBx⟩, rfl⟩
    refine dsNone (j := 6) rfl ?_ ?_
    ·
     intro done G w ac_ hd hp hn ⟨hC, hg, B8, B9, hT8, hT9, hBx⟩ hM
     have hB := ((hBx.sub (List.sublist_append_right _ _)).sub (List.sublist_append_right _ _))
     have f5 : ac_.tmps[5]? = some (.int .i64 (((k : Nat) : Int))) := hM.old0 rfl rfl
     have hF := (hM.fr.add f5)
     exact OpVal.draw hF (opMove rfl) ⟨G, fun _ _ h => h, ⟨hC, hg, B8, B9, (fun h => (put_other rfl).trans (hT8 h)), (fun h => (put_other rfl).trans (hT9 h)), hBx⟩, rfl⟩
    refine dsNone (j := 7) rfl ?_ ?_
    ·
     intro done G w ac_ hd hp hn ⟨hC, hg, B8, B9, hT8, hT9, hBx⟩ hM
     have hB := ((hBx.sub (List.sublist_append_right _ _)).sub (List.sublist_append_right _ _))
     have f25 := hM.eqv (s := 25) 4 rfl (hp 4 rfl) rfl rfl
     have f26 := hM.eqv (s := 26) 5 rfl (hp 5 rfl) rfl rfl
     have hF := ((hM.fr.add f25).add f26)
     exact OpVal.draw hF (opIndexAddr rfl rfl slo25 (by have q1 := of_decide_eq_true h6; have q2 := h5; simp at q2; omega)) ⟨G, fun _ _ h => h, ⟨hC, hg, B8, B9, (fun h => (put_other rfl).trans (hT8 h)), (fun h => (put_other rfl).trans (hT9 h)), hBx⟩, rfl⟩
    refine dsNone (j := 8) rfl ?_ ?_
    ·
     intro done G w ac_ hd hp hn ⟨hC, hg, B8, B9, hT8, hT9, hBx⟩ hM
     have hB := ((hBx.sub (List.sublist_append_right _ _)).sub (List.sublist_append_right _ _))
     replace hr32 := hr32.mono hg
     have f27 := hM.eqv (s := 27) 6 rfl (hp 6 rfl) rfl rfl
     have hF := (hM.fr.add f27)
     exact OpVal.draw hF (opLoadRow (cs := [(.int .i64 x27.node), (.int .i64 x27.view), (.int .i64 x27.low), (.slice A41 x27.marks.length cap42), (.slice A43 x27.p.length cap44), (.slice A45 x27.q.length cap46)]) rfl (RowG.range hC.holds hr32) row49 rfl) ⟨G, fun _ _ h => h, ⟨hC, hg, B8, B9, (fun h => (put_other rfl).trans (hT8 h)), (fun h => (put_other rfl).trans (hT9 h)), hBx⟩, rfl⟩
    refine dsNone (j := 9) rfl ?_ ?_
    ·
     intro done G w ac_ hd hp hn ⟨hC, hg, B8, B9, hT8, hT9, hBx⟩ hM
     have hB := ((hBx.sub (List.sublist_append_right _ _)).sub (List.sublist_append_right _ _))
     have hF := hM.fr
     simp only [hd, hn 10 _ rfl rfl, cond_false, List.nil_append] at hBx
     exact drawAlloc (cs := [(.int .i64 0), (.int .i64 0), (.int .i64 0), (.slice none 0 0), (.slice none 0 0), (.slice none 0 0)]) hF hC hBx zero49 (fun b w' hC hB => ⟨G, fun _ _ h => h, ⟨hC, hg, b, B9, (fun _ => put_same hM.sz rfl), (fun h => (put_other rfl).trans (hT9 h)), by simpa [Done.set, hn 10 _ rfl rfl] using hB⟩, trivial⟩)
    refine dsNone (j := 10) rfl ?_ ?_
    ·
     intro done G w ac_ hd hp hn ⟨hC, hg, B8, B9, hT8, hT9, hBx⟩ hM
     have hB := ((hBx.sub (List.sublist_append_right _ _)).sub (List.sublist_append_right _ _))
     have hF := hM.fr
     simp only [hd, hn 11 _ rfl rfl, cond_false, List.nil_append] at hBx
     exact drawAlloc (cs := [(.int .i64 0), (.int .i64 0), (.int .i64 0), (.slice none 0 0), (.slice none 0 0), (.slice none 0 0)]) hF hC hBx zero49 (fun b w' hC hB => ⟨G, fun _ _ h => h, ⟨hC, hg, B8, b, (fun h => (put_other rfl).trans (hT8 h)), (fun _ => put_same hM.sz rfl), by simpa [Done.set, hn 11 _ rfl rfl] using (hB.perm List.perm_middle.symm)⟩, trivial⟩)
    refine dsNone (j := 11) rfl ?_ ?_
    ·
     intro done G w ac_ hd hp hn ⟨hC, hg, B8, B9, hT8, hT9, hBx⟩ hM
     have hB := ((hBx.sub (List.sublist_append_right _ _)).sub (List.sublist_append_right _ _))
     have f6 := hT8 (hp 8 rfl)
     have f24 := hM.eqv (s := 24) 3 rfl (hp 3 rfl) rfl rfl
     have hF := ((hM.fr.add f6).add f24)
     simp only [hp 8 rfl, hd, cond_true, cond_false] at hBx
     exact drawStoreX (X := []) (vs := [(.int .i64 x7.node), (.int .i64 x7.view), (.int .i64 x7.low), (.slice A21 x7.marks.length cap22), (.slice A23 x7.p.length cap24), (.slice A25 x7.q.length cap26)]) (cs := [(.int .i64 0), (.int .i64 0), (.int .i64 0), (.slice none 0 0), (.slice none 0 0), (.slice none 0 0)]) (cs' := [(.int .i64 x7.node), (.int .i64 x7.view), (.int .i64 x7.low), (.slice A21 x7.marks.length cap22), (.slice A23 x7.p.length cap24), (.slice A25 x7.q.length cap26)]) hF hC hBx rfl rfl sz49 rfl rfl rfl (by simp [Mark.cells, Stand.cells]) rfl (fun w' hC hB => ⟨G, fun _ _ h => h, ⟨hC, hg, B8, B9, (fun h => (hT8 h)), (fun h => (hT9 h)), by simpa [Done.set, hp 8 rfl] using hB⟩, trivial⟩)
    refine dsNone (j := 12) rfl ?_ ?_
    ·
     intro done G w ac_ hd hp hn ⟨hC, hg, B8, B9, hT8, hT9, hBx⟩ hM
     have hB := ((hBx.sub (List.sublist_append_right _ _)).sub (List.sublist_append_right _ _))
     have f7 := hT9 (hp 9 rfl)
     have f28 := hM.eqv (s := 28) 7 rfl (hp 7 rfl) rfl rfl
     have hF := ((hM.fr.add f7).add f28)
     simp only [hp 9 rfl, hd, cond_true, cond_false] at hBx
     exact drawStoreX (X := (bif done 8 then [(B8, 49, (bif done 10 then [(.int .i64 x7.node), (.int .i64 x7.view), (.int .i64 x7.low), (.slice A21 x7.marks.length cap22), (.slice A23 x7.p.length cap24), (.slice A25 x7.q.length cap26)] else [(.int .i64 0), (.int .i64 0), (.int .i64 0), (.slice none 0 0), (.slice none 0 0), (.slice none 0 0)]))] else [])) (vs := [(.int .i64 x27.node), (.int .i64 x27.view), (.int .i64 x27.low), (.slice A41 x27.marks.length cap42), (.slice A43 x27.p.length cap44), (.slice A45 x27.q.length cap46)]) (cs := [(.int .i64 0), (.int .i64 0), (.int .i64 0), (.slice none 0 0), (.slice none 0 0), (.slice none 0 0)]) (cs' := [(.int .i64 x27.node), (.int .i64 x27.view), (.int .i64 x27.low), (.slice A41 x27.marks.length cap42), (.slice A43 x27.p.length cap44), (.slice A45 x27.q.length cap46)]) hF hC hBx rfl rfl sz49 rfl rfl rfl (by simp [Mark.cells, Stand.cells]) rfl (fun w' hC hB => ⟨G, fun _ _ h => h, ⟨hC, hg, B8, B9, (fun h => (hT8 h)), (fun h => (hT9 h)), by simpa [Done.set, hp 9 rfl] using hB⟩, trivial⟩)
    exact dsNil
   ·
    intro done G w ac_ hall ⟨hC, hg, b47, b48, hT8, hT9, hB⟩ hM
    replace hla := hla.mono hg
    replace hlb := hlb.mono hg
    replace hs16 := hs16.mono hg
    replace hs18 := hs18.mono hg
    replace hs20 := hs20.mono hg
    replace hr12 := hr12.mono hg
    replace hs36 := hs36.mono hg
    replace hs38 := hs38.mono hg
    replace hs40 := hs40.mono hg
    replace hr32 := hr32.mono hg
    simp only [hall 8 (by decide), hall 10 (by decide), hall 9 (by decide), hall 11 (by decide), cond_true] at hB
    have f0 : ac_.tmps[0]? = some (.slice (some ⟨b9, o10, none⟩) la.length cap2) := hM.old0 rfl rfl
    have f1 : ac_.tmps[1]? = some (.slice (some ⟨b29, o30, none⟩) lb.length cap4) := hM.old0 rfl rfl
    have f5 : ac_.tmps[5]? = some (.int .i64 (((k : Nat) : Int))) := hM.old0 rfl rfl
    have f6 := hT8 (hall 8 (by decide))
    have f7 := hT9 (hall 9 (by decide))
    replace hB : Bxs G w w0.heap.size [(b47, 49, [(.int .i64 x7.node), (.int .i64 x7.view), (.int .i64 x7.low), (.slice A21 x7.marks.length cap22), (.slice A23 x7.p.length cap24), (.slice A25 x7.q.length cap26)]), (b48, 49, [(.int .i64 x27.node), (.int .i64 x27.view), (.int .i64 x27.low), (.slice A41 x27.marks.length cap42), (.slice A43 x27.p.length cap44), (.slice A45 x27.q.length cap46)])] := hB
    refine ⟨(((((Env.nil.put 0 (.slice (some ⟨b9, o10, none⟩) la.length cap2)).put 1 (.slice (some ⟨b29, o30, none⟩) lb.length cap4)).put 5 (.int .i64 (((k : Nat) : Int)))).put 6 (.pointer (some ⟨b47, 0, none⟩))).put 7 (.pointer (some ⟨b48, 0, none⟩))), (((((hM.fr.add f0).add f1).add f5).add f6).add f7), ?_⟩
    clear hM hall
    refine wcOf ?_
    refine wcSeq (wcSeq (wcRegion ?_))
    refine wlVal (opFieldAddr rfl fo49_0) rfl ?_
    refine wlVal (opLoadOne (v := (.int .i64 x7.node)) rfl (hB.cell (i := 0) rfl rfl) one3) rfl ?_
    refine wlVal (opFieldAddr rfl fo49_0) rfl ?_
    refine wlVal (opLoadOne (v := (.int .i64 x27.node)) rfl (hB.cell (i := 1) rfl rfl) one3) rfl ?_
    refine wlVal (opNeq rfl rfl) rfl ?_
    refine wlVal (opMove rfl) rfl ?_
    cases h49 : x7.node != x27.node
    ·
     skip
     refine wlOn rfl rfl ?_
     refine wlVal (opFieldAddr rfl fo49_1) rfl ?_
     refine wlOn rfl rfl ?_
     refine wlVal (opLoadOne (v := (.int .i64 x7.view)) rfl (hB.cell (i := 0) rfl rfl) one3) rfl ?_
     refine wlOn rfl rfl ?_
     refine wlVal (opFieldAddr rfl fo49_1) rfl ?_
     refine wlOn rfl rfl ?_
     refine wlVal (opLoadOne (v := (.int .i64 x27.view)) rfl (hB.cell (i := 1) rfl rfl) one3) rfl ?_
     refine wlOn rfl rfl ?_
     refine wlVal (opNeq rfl rfl) rfl ?_
     refine wlVal (opPickF rfl rfl) rfl ?_
     refine wlVal (opMove rfl) rfl ?_
     cases h50 : x7.view != x27.view
     ·
      skip
      refine wlOn rfl rfl ?_
      refine wlVal (opFieldAddr rfl fo49_2) rfl ?_
      refine wlOn rfl rfl ?_
      refine wlVal (opLoadOne (v := (.int .i64 x7.low)) rfl (hB.cell (i := 0) rfl rfl) one3) rfl ?_
      refine wlOn rfl rfl ?_
      refine wlVal (opFieldAddr rfl fo49_2) rfl ?_
      refine wlOn rfl rfl ?_
      refine wlVal (opLoadOne (v := (.int .i64 x27.low)) rfl (hB.cell (i := 1) rfl rfl) one3) rfl ?_
      refine wlOn rfl rfl ?_
      refine wlVal (opNeq rfl rfl) rfl ?_
      refine wlVal (opPickF rfl rfl) rfl ?_
      refine wlVal (opMove rfl) rfl ?_
      cases h51 : x7.low != x27.low
      ·
       skip
       refine wlOn rfl rfl ?_
       refine wlVal (opFieldAddr rfl fo49_3) rfl ?_
       refine wlOn rfl rfl ?_
       refine wlVal (opLoadOne (v := (.slice A21 x7.marks.length cap22)) rfl (hB.cell (i := 0) rfl rfl) one31) rfl ?_
       refine wlOn rfl rfl ?_
       refine wlVal (opFieldAddr rfl fo49_3) rfl ?_
       refine wlOn rfl rfl ?_
       refine wlVal (opLoadOne (v := (.slice A41 x27.marks.length cap42)) rfl (hB.cell (i := 1) rfl rfl) one31) rfl ?_
       refine wlOn rfl rfl ?_
       refine wlCallS hC hB rfl co12 rfl rfl (rsame_ret _ _ hC.holds _ x7.marks hs16 _ x27.marks hs36) ?_; intro w hk hC hB
       refine wlOn rfl rfl ?_
       refine wlVal (opNot rfl) rfl ?_
       refine wlVal (opPickF rfl rfl) rfl ?_
       refine wlVal (opMove rfl) rfl ?_
       cases h52 : (decide (x7.marks = x27.marks))
       ·
        skip
        refine wlOff rfl rfl rfl rfl ?_
        refine wlOff rfl rfl rfl rfl ?_
        refine wlOff rfl rfl rfl rfl ?_
        refine wlOff rfl rfl rfl rfl ?_
        refine wlOff rfl rfl rfl rfl ?_
        refine wlOff rfl rfl rfl rfl ?_
        refine wlOff rfl rfl rfl rfl ?_
        refine wlVal (opPickT rfl rfl) rfl ?_
        refine wlVal (opMove rfl) rfl ?_
        refine wlOff rfl rfl rfl rfl ?_
        refine wlOff rfl rfl rfl rfl ?_
        refine wlOff rfl rfl rfl rfl ?_
        refine wlOff rfl rfl rfl rfl ?_
        refine wlOff rfl rfl rfl rfl ?_
        refine wlOff rfl rfl rfl rfl ?_
        refine wlOff rfl rfl rfl rfl ?_
        refine wlVal (opPickT rfl rfl) rfl ?_
        refine wlThen ?_
        refine wcCondT rfl ?_
        refine wcSeq (wcRegion ?_)
        refine wlVal (opAssign rfl) rfl ?_
        refine wlThen ?_
        refine wcRet ?_
        exact fun ac_ ha => hQ _ _ _ (results1 ha rfl rfl) ha.df (endS hC hw (by rw [ne_of_get hx8 hx28 (by rintro rfl; simp at h52)]))
       ·
        skip
        refine wlOn rfl rfl ?_
        refine wlVal (opFieldAddr rfl fo49_4) rfl ?_
        refine wlOn rfl rfl ?_
        refine wlVal (opLoadOne (v := (.slice A23 x7.p.length cap24)) rfl (hB.cell (i := 0) rfl rfl) one47) rfl ?_
        refine wlOn rfl rfl ?_
        refine wlVal (opLen rfl isl47) rfl ?_
        refine wlOn rfl rfl ?_
        refine wlVal (opFieldAddr rfl fo49_4) rfl ?_
        refine wlOn rfl rfl ?_
        refine wlVal (opLoadOne (v := (.slice A43 x27.p.length cap44)) rfl (hB.cell (i := 1) rfl rfl) one47) rfl ?_
        refine wlOn rfl rfl ?_
        refine wlVal (opLen rfl isl47) rfl ?_
        refine wlOn rfl rfl ?_
        refine wlVal (opNeq rfl rfl) rfl ?_
        refine wlVal (opPickF rfl rfl) rfl ?_
        refine wlVal (opMove rfl) rfl ?_
        cases h53 : (((x7.p.length : Nat) : Int)) != (((x27.p.length : Nat) : Int))
        ·
         skip
         refine wlOn rfl rfl ?_
         refine wlVal (opFieldAddr rfl fo49_5) rfl ?_
         refine wlOn rfl rfl ?_
         refine wlVal (opLoadOne (v := (.slice A25 x7.q.length cap26)) rfl (hB.cell (i := 0) rfl rfl) one47) rfl ?_
         refine wlOn rfl rfl ?_
         refine wlVal (opLen rfl isl47) rfl ?_
         refine wlOn rfl rfl ?_
         refine wlVal (opFieldAddr rfl fo49_5) rfl ?_
         refine wlOn rfl rfl ?_
         refine wlVal (opLoadOne (v := (.slice A45 x27.q.length cap46)) rfl (hB.cell (i := 1) rfl rfl) one47) rfl ?_
         refine wlOn rfl rfl ?_
         refine wlVal (opLen rfl isl47) rfl ?_
         refine wlOn rfl rfl ?_
         refine wlVal (opNeq rfl rfl) rfl ?_
         refine wlVal (opPickF rfl rfl) rfl ?_
         refine wlThen ?_
         cases h54 : (((x7.q.length : Nat) : Int)) != (((x27.q.length : Nat) : Int))
         ·
          skip
          refine wcCondF rfl ?_
          refine wcSkip ?_
          refine wcOf ?_
          refine wcSeq (wcSeq (wcRegion ?_))
          refine wlVal (opAssign rfl) rfl ?_
          refine wlThen ?_
          refine wcBlock ?_
          refine WC.sub (wrInd (ι := Nat) (fun j => x7.p.length - j) (fun j G w => Cx w0 G0 G w ∧ Bxs G w w0.heap.size [(b47, 49, [(.int .i64 x7.node), (.int .i64 x7.view), (.int .i64 x7.low), (.slice A21 x7.marks.length cap22), (.slice A23 x7.p.length cap24), (.slice A25 x7.q.length cap26)]), (b48, 49, [(.int .i64 x27.node), (.int .i64 x27.view), (.int .i64 x27.low), (.slice A41 x27.marks.length cap42), (.slice A43 x27.p.length cap44), (.slice A45 x27.q.length cap46)])] ∧ Sl G (.slice (some ⟨b9, o10, none⟩) la.length cap2) la ∧ Sl G (.slice (some ⟨b29, o30, none⟩) lb.length cap4) lb ∧ Sl G (.slice A21 x7.marks.length cap22) x7.marks ∧ Sl G (.slice A23 x7.p.length cap24) x7.p ∧ Sl G (.slice A25 x7.q.length cap26) x7.q ∧ RowG G b9 (o10 + k * 6) [(.int .i64 x7.node), (.int .i64 x7.view), (.int .i64 x7.low), (.slice A21 x7.marks.length cap22), (.slice A23 x7.p.length cap24), (.slice A25 x7.q.length cap26)] ∧ Sl G (.slice A41 x27.marks.length cap42) x27.marks ∧ Sl G (.slice A43 x27.p.length cap44) x27.p ∧ Sl G (.slice A45 x27.q.length cap46) x27.q ∧ RowG G b29 (o30 + k * 6) [(.int .i64 x27.node), (.int .i64 x27.view), (.int .i64 x27.low), (.slice A41 x27.marks.length cap42), (.slice A43 x27.p.length cap44), (.slice A45 x27.q.length cap46)] ∧ x7.p.take j = x27.p.take j) (fun j => ((((((Env.nil.put 0 (.slice (some ⟨b9, o10, none⟩) la.length cap2)).put 1 (.slice (some ⟨b29, o30, none⟩) lb.length cap4)).put 5 (.int .i64 (((k : Nat) : Int)))).put 6 (.pointer (some ⟨b47, 0, none⟩))).put 7 (.pointer (some ⟨b48, 0, none⟩))).put 8 (.int .i64 (((j : Nat) : Int))))) ?_ (0) _ _ ⟨hC, hB, hla, hlb, hs16, hs18, hs20, hr12, hs36, hs38, hs40, hr32, rfl⟩) (fun _ ha => ((((((ha.start.cons ha (t := 0) rfl).cons ha (t := 1) rfl).cons ha (t := 5) rfl).cons ha (t := 6) rfl).cons ha (t := 7) rfl).cons ha (t := 8) rfl))
          rintro j G w N1 IH1 ⟨hC, hB, hla, hlb, hs16, hs18, hs20, hr12, hs36, hs38, hs40, hr32, hP⟩
          show WC _ _ _ _ ((((((Env.nil.put 0 (.slice (some ⟨b9, o10, none⟩) la.length cap2)).put 1 (.slice (some ⟨b29, o30, none⟩) lb.length cap4)).put 5 (.int .i64 (((k : Nat) : Int)))).put 6 (.pointer (some ⟨b47, 0, none⟩))).put 7 (.pointer (some ⟨b48, 0, none⟩))).put 8 (.int .i64 (((j : Nat) : Int)))) w
          refine wcSeq (wcSeq (wcRegion ?_))
          refine wlVal (opMove rfl) rfl ?_
          refine wlVal (opFieldAddr rfl fo49_4) rfl ?_
          refine wlVal (opLoadOne (v := (.slice A23 x7.p.length cap24)) rfl (hB.cell (i := 0) rfl rfl) one47) rfl ?_
          refine wlVal (opLen rfl isl47) rfl ?_
          refine wlVal (opLssN rfl rfl) rfl ?_
          refine wlThen ?_
          cases h55 : decide (j < x7.p.length)
          ·
           skip
           refine wcCondF rfl ?_
           refine wcExit ?_
           refine wcOf ?_
           refine wcSeq (wcRegion ?_)
           refine wlVal (opAssign rfl) rfl ?_
           refine wlThen ?_
           refine wcBlock ?_
           refine WC.sub (wrInd (ι := Nat) (fun i => x7.q.length - i) (fun i G w => Cx w0 G0 G w ∧ Bxs G w w0.heap.size [(b47, 49, [(.int .i64 x7.node), (.int .i64 x7.view), (.int .i64 x7.low), (.slice A21 x7.marks.length cap22), (.slice A23 x7.p.length cap24), (.slice A25 x7.q.length cap26)]), (b48, 49, [(.int .i64 x27.node), (.int .i64 x27.view), (.int .i64 x27.low), (.slice A41 x27.marks.length cap42), (.slice A43 x27.p.length cap44), (.slice A45 x27.q.length cap46)])] ∧ Sl G (.slice (some ⟨b9, o10, none⟩) la.length cap2) la ∧ Sl G (.slice (some ⟨b29, o30, none⟩) lb.length cap4) lb ∧ Sl G (.slice A21 x7.marks.length cap22) x7.marks ∧ Sl G (.slice A23 x7.p.length cap24) x7.p ∧ Sl G (.slice A25 x7.q.length cap26) x7.q ∧ RowG G b9 (o10 + k * 6) [(.int .i64 x7.node), (.int .i64 x7.view), (.int .i64 x7.low), (.slice A21 x7.marks.length cap22), (.slice A23 x7.p.length cap24), (.slice A25 x7.q.length cap26)] ∧ Sl G (.slice A41 x27.marks.length cap42) x27.marks ∧ Sl G (.slice A43 x27.p.length cap44) x27.p ∧ Sl G (.slice A45 x27.q.length cap46) x27.q ∧ RowG G b29 (o30 + k * 6) [(.int .i64 x27.node), (.int .i64 x27.view), (.int .i64 x27.low), (.slice A41 x27.marks.length cap42), (.slice A43 x27.p.length cap44), (.slice A45 x27.q.length cap46)] ∧ x7.q.take i = x27.q.take i) (fun i => ((((((Env.nil.put 0 (.slice (some ⟨b9, o10, none⟩) la.length cap2)).put 1 (.slice (some ⟨b29, o30, none⟩) lb.length cap4)).put 5 (.int .i64 (((k : Nat) : Int)))).put 6 (.pointer (some ⟨b47, 0, none⟩))).put 7 (.pointer (some ⟨b48, 0, none⟩))).put 9 (.int .i64 (((i : Nat) : Int))))) ?_ (0) _ _ ⟨hC, hB, hla, hlb, hs16, hs18, hs20, hr12, hs36, hs38, hs40, hr32, rfl⟩) (fun _ ha => ((((((ha.start.cons ha (t := 0) rfl).cons ha (t := 1) rfl).cons ha (t := 5) rfl).cons ha (t := 6) rfl).cons ha (t := 7) rfl).cons ha (t := 9) rfl))
           rintro i G w N2 IH2 ⟨hC, hB, hla, hlb, hs16, hs18, hs20, hr12, hs36, hs38, hs40, hr32, hQ2⟩
           show WC _ _ _ _ ((((((Env.nil.put 0 (.slice (some ⟨b9, o10, none⟩) la.length cap2)).put 1 (.slice (some ⟨b29, o30, none⟩) lb.length cap4)).put 5 (.int .i64 (((k : Nat) : Int)))).put 6 (.pointer (some ⟨b47, 0, none⟩))).put 7 (.pointer (some ⟨b48, 0, none⟩))).put 9 (.int .i64 (((i : Nat) : Int)))) w
           refine wcSeq (wcSeq (wcRegion ?_))
           refine wlVal (opMove rfl) rfl ?_
           refine wlVal (opFieldAddr rfl fo49_5) rfl ?_
           refine wlVal (opLoadOne (v := (.slice A25 x7.q.length cap26)) rfl (hB.cell (i := 0) rfl rfl) one47) rfl ?_
           refine wlVal (opLen rfl isl47) rfl ?_
           refine wlVal (opLssN rfl rfl) rfl ?_
           refine wlThen ?_
           cases h56 : decide (i < x7.q.length)
           ·
            skip
            refine wcCondF rfl ?_
            refine wcExit ?_
            refine wcOf ?_
            refine wcRegion ?_
            refine wlVal (opMove rfl) rfl ?_
            refine wlVal (opIncr rfl rfl (incr_ok (of_decide_eq_true h6) hla.le)) rfl ?_
            refine wlVal (opAssign rfl) rfl ?_
            refine wlRound ?_
            exact (IH0 (k + 1) _ _ ⟨hC, hB.tail.tail, hla, hlb, (by rw [List.take_add_one, List.take_add_one, hI, hx8, hx28, change_eq h49 h50 h51 h52 (take_full h53 h55 hP) (take_full h54 h56 hQ2)])⟩ (by have := of_decide_eq_true h6; show la.length - (k + 1) < la.length - k; omega)).sub (fun _ ha => (((ha.start.cons ha (t := 0) rfl).cons ha (t := 1) rfl).cons ha (t := 5) rfl))
           ·
            skip
            refine wcCondT rfl ?_
            refine wcSkip ?_
            refine wcOf ?_
            refine wcSeq ?_
            refine wcBlock (wcSeq ?_)
            obtain ⟨x57, hx58⟩ : ∃ y_, x7.q[i]? = some y_ := ⟨_, List.getElem?_eq_getElem (of_decide_eq_true h56)⟩
            obtain ⟨b59, o60, row61, hA64, hr62, hi63⟩ := hs20.elem hx58; subst hA64
            obtain rfl := hi63
            obtain ⟨x65, hx66⟩ : ∃ y_, x27.q[i]? = some y_ := ⟨_, List.getElem?_eq_getElem (by have q1 := of_decide_eq_true h56; have q2 := h54; simp at q2; omega)⟩
            obtain ⟨b67, o68, row69, hA72, hr70, hi71⟩ := hs40.elem hx66; subst hA72
            obtain rfl := hi71
            refine wcDraw fmix (by kernel_rfl) (by kernel_rfl) (vAt [(fun _ v_ => v_ = (.pointer (some ⟨b47, 5, none⟩))), (fun _ v_ => v_ = (.slice (some ⟨b59, o60, none⟩) x7.q.length cap26)), (fun _ v_ => v_ = (.int .i64 (((i : Nat) : Int)))), (fun _ v_ => v_ = (.pointer (some ⟨b59, o60 + i * 34, none⟩))), (fun _ v_ => v_ = (.agg x57.cells.toArray)), (fun _ v_ => v_ = (.pointer (some ⟨b48, 5, none⟩))), (fun _ v_ => v_ = (.slice (some ⟨b67, o68, none⟩) x27.q.length cap46)), (fun _ v_ => v_ = (.int .i64 (((i : Nat) : Int)))), (fun _ v_ => v_ = (.pointer (some ⟨b67, o68 + i * 34, none⟩))), (fun _ v_ => v_ = (.agg x65.cells.toArray)), (fun _ v_ => v_ = (.bool (!(decide (x57 = x65)))))]) (fun _ _ G' w => Cx w0 G0 G' w ∧ Bxs G' w w0.heap.size [(b47, 49, [(.int .i64 x7.node), (.int .i64 x7.view), (.int .i64 x7.low), (.slice A21 x7.marks.length cap22), (.slice A23 x7.p.length cap24), (.slice (some ⟨b59, o60, none⟩) x7.q.length cap26)]), (b48, 49, [(.int .i64 x27.node), (.int .i64 x27.view), (.int .i64 x27.low), (.slice A41 x27.marks.length cap42), (.slice A43 x27.p.length cap44), (.slice (some ⟨b67, o68, none⟩) x27.q.length cap46)])] ∧ GLe G G') G (vAt_mono ⟨fun _ _ _ _ h => h, fun _ _ _ _ h => h, fun _ _ _ _ h => h, fun _ _ _ _ h => h, fun _ _ _ _ h => h, fun _ _ _ _ h => h, fun _ _ _ _ h => h, fun _ _ _ _ h => h, fun _ _ _ _ h => h, fun _ _ _ _ h => h, fun _ _ _ _ h => h, trivial⟩) (fun _ _ => ⟨hC.drew, hB.drew, fun _ _ h => h⟩) ?_ ?_
            ·
             refine dsNone (j := 1) rfl ?_ ?_
             ·
              intro done G w ac_ hd hp hn ⟨hC, hB, hg⟩ hM
              have f6 : ac_.tmps[6]? = some (.pointer (some ⟨b47, 0, none⟩)) := hM.old0 rfl rfl
              have hF := (hM.fr.add f6)
              exact OpVal.draw hF (opFieldAddr rfl fo49_5) ⟨G, fun _ _ h => h, ⟨hC, hB, hg⟩, rfl⟩
             refine dsNone (j := 2) rfl ?_ ?_
             ·
              intro done G w ac_ hd hp hn ⟨hC, hB, hg⟩ hM
              have f99 := hM.eqv (s := 99) 0 rfl (hp 0 rfl) rfl rfl
              have hF := (hM.fr.add f99)
              exact OpVal.draw hF (opLoadOne (v := (.slice (some ⟨b59, o60, none⟩) x7.q.length cap26)) rfl (hB.cell (i := 0) rfl rfl) one47) ⟨G, fun _ _ h => h, ⟨hC, hB, hg⟩, rfl⟩
             refine dsNone (j := 3) rfl ?_ ?_
             ·
              intro done G w ac_ hd hp hn ⟨hC, hB, hg⟩ hM
              have f9 : ac_.tmps[9]? = some (.int .i64 (((i : Nat) : Int))) := hM.old0 rfl rfl
              have hF := (hM.fr.add f9)
              exact OpVal.draw hF (opMove rfl) ⟨G, fun _ _ h => h, ⟨hC, hB, hg⟩, rfl⟩
             refine dsNone (j := 4) rfl ?_ ?_
             ·
              intro done G w ac_ hd hp hn ⟨hC, hB, hg⟩ hM
              have f100 := hM.eqv (s := 100) 1 rfl (hp 1 rfl) rfl rfl
              have f101 := hM.eqv (s := 101) 2 rfl (hp 2 rfl) rfl rfl
              have hF := ((hM.fr.add f100).add f101)
              exact OpVal.draw hF (opIndexAddr rfl rfl slo47 (of_decide_eq_true h56)) ⟨G, fun _ _ h => h, ⟨hC, hB, hg⟩, rfl⟩
             refine dsNone (j := 5) rfl ?_ ?_
             ·
              intro done G w ac_ hd hp hn ⟨hC, hB, hg⟩ hM
              replace hr62 := hr62.mono hg
              have f102 := hM.eqv (s := 102) 3 rfl (hp 3 rfl) rfl rfl
              have hF := (hM.fr.add f102)
              exact OpVal.draw hF (opLoadRow (cs := x57.cells) rfl (RowG.range hC.holds hr62) row58 (by simp [Mark.cells, Stand.cells])) ⟨G, fun _ _ h => h, ⟨hC, hB, hg⟩, rfl⟩
             refine dsNone (j := 6) rfl ?_ ?_
             ·
              intro done G w ac_ hd hp hn ⟨hC, hB, hg⟩ hM
              have f7 : ac_.tmps[7]? = some (.pointer (some ⟨b48, 0, none⟩)) := hM.old0 rfl rfl
              have hF := (hM.fr.add f7)
              exact OpVal.draw hF (opFieldAddr rfl fo49_5) ⟨G, fun _ _ h => h, ⟨hC, hB, hg⟩, rfl⟩
             refine dsNone (j := 7) rfl ?_ ?_
             ·
              intro done G w ac_ hd hp hn ⟨hC, hB, hg⟩ hM
              have f104 := hM.eqv (s := 104) 5 rfl (hp 5 rfl) rfl rfl
              have hF := (hM.fr.add f104)
              exact OpVal.draw hF (opLoadOne (v := (.slice (some ⟨b67, o68, none⟩) x27.q.length cap46)) rfl (hB.cell (i := 1) rfl rfl) one47) ⟨G, fun _ _ h => h, ⟨hC, hB, hg⟩, rfl⟩
             refine dsNone (j := 8) rfl ?_ ?_
             ·
              intro done G w ac_ hd hp hn ⟨hC, hB, hg⟩ hM
              have f9 : ac_.tmps[9]? = some (.int .i64 (((i : Nat) : Int))) := hM.old0 rfl rfl
              have hF := (hM.fr.add f9)
              exact OpVal.draw hF (opMove rfl) ⟨G, fun _ _ h => h, ⟨hC, hB, hg⟩, rfl⟩
             refine dsNone (j := 9) rfl ?_ ?_
             ·
              intro done G w ac_ hd hp hn ⟨hC, hB, hg⟩ hM
              have f105 := hM.eqv (s := 105) 6 rfl (hp 6 rfl) rfl rfl
              have f106 := hM.eqv (s := 106) 7 rfl (hp 7 rfl) rfl rfl
              have hF := ((hM.fr.add f105).add f106)
              exact OpVal.draw hF (opIndexAddr rfl rfl slo47 (by have q1 := of_decide_eq_true h56; have q2 := h54; simp at q2; omega)) ⟨G, fun _ _ h => h, ⟨hC, hB, hg⟩, rfl⟩
             refine dsNone (j := 10) rfl ?_ ?_
             ·
              intro done G w ac_ hd hp hn ⟨hC, hB, hg⟩ hM
              replace hr70 := hr70.mono hg
              have f107 := hM.eqv (s := 107) 8 rfl (hp 8 rfl) rfl rfl
              have hF := (hM.fr.add f107)
              exact OpVal.draw hF (opLoadRow (cs := x65.cells) rfl (RowG.range hC.holds hr70) row58 (by simp [Mark.cells, Stand.cells])) ⟨G, fun _ _ h => h, ⟨hC, hB, hg⟩, rfl⟩
             refine dsNone (j := 11) rfl ?_ ?_
             ·
              intro done G w ac_ hd hp hn ⟨hC, hB, hg⟩ hM
              have f103 := hM.eqv (s := 103) 4 rfl (hp 4 rfl) rfl rfl
              have f108 := hM.eqv (s := 108) 9 rfl (hp 9 rfl) rfl rfl
              have hF := ((hM.fr.add f103).add f108)
              exact OpVal.draw hF (opNeRow (eq58 _ x57 x65) eg58 rfl rfl) ⟨G, fun _ _ h => h, ⟨hC, hB, hg⟩, rfl⟩
             exact dsNil
            ·
             intro done G w ac_ hall ⟨hC, hB, hg⟩ hM
             replace hla := hla.mono hg
             replace hlb := hlb.mono hg
             replace hs16 := hs16.mono hg
             replace hs18 := hs18.mono hg
             replace hs20 := hs20.mono hg
             replace hr12 := hr12.mono hg
             replace hs36 := hs36.mono hg
             replace hs38 := hs38.mono hg
             replace hs40 := hs40.mono hg
             replace hr32 := hr32.mono hg
             have f0 : ac_.tmps[0]? = some (.slice (some ⟨b9, o10, none⟩) la.length cap2) := hM.old0 rfl rfl
             have f1 : ac_.tmps[1]? = some (.slice (some ⟨b29, o30, none⟩) lb.length cap4) := hM.old0 rfl rfl
             have f5 : ac_.tmps[5]? = some (.int .i64 (((k : Nat) : Int))) := hM.old0 rfl rfl
             have f6 : ac_.tmps[6]? = some (.pointer (some ⟨b47, 0, none⟩)) := hM.old0 rfl rfl
             have f7 : ac_.tmps[7]? = some (.pointer (some ⟨b48, 0, none⟩)) := hM.old0 rfl rfl
             have f9 : ac_.tmps[9]? = some (.int .i64 (((i : Nat) : Int))) := hM.old0 rfl rfl
             have f109 := hM.eqv (s := 109) 10 rfl (hall 10 (by decide)) rfl rfl
             refine ⟨(((((((Env.nil.put 0 (.slice (some ⟨b9, o10, none⟩) la.length cap2)).put 1 (.slice (some ⟨b29, o30, none⟩) lb.length cap4)).put 5 (.int .i64 (((k : Nat) : Int)))).put 6 (.pointer (some ⟨b47, 0, none⟩))).put 7 (.pointer (some ⟨b48, 0, none⟩))).put 9 (.int .i64 (((i : Nat) : Int)))).put 109 (.bool (!(decide (x57 = x65))))), (((((((hM.fr.add f0).add f1).add f5).add f6).add f7).add f9).add f109), ?_⟩
             clear hM hall
             refine wcOf ?_
             cases h73 : decide (x57 = x65)
             ·
              skip
              refine wcCondT rfl ?_
              refine wcSeq (wcRegion ?_)
              refine wlVal (opAssign rfl) rfl ?_
              refine wlThen ?_
              refine wcRet ?_
              exact fun ac_ ha => hQ _ _ _ (results1 ha rfl rfl) ha.df (endS hC hw (by rw [ne_of_get hx8 hx28 (by rintro rfl; exact (of_decide_eq_false h73) (Option.some.inj (hx58.symm.trans hx66)))]))
             ·
              skip
              refine wcCondF rfl ?_
              refine wcSkip ?_
              refine wcOf ?_
              refine wcRegion ?_
              refine wlVal (opMove rfl) rfl ?_
              refine wlVal (opIncr rfl rfl (incr_ok (of_decide_eq_true h56) hs20.le)) rfl ?_
              refine wlVal (opAssign rfl) rfl ?_
              refine wlRound ?_
              exact (IH2 (i + 1) _ _ ⟨hC, hB, hla, hlb, hs16, hs18, hs20, hr12, hs36, hs38, hs40, hr32, (by rw [List.take_add_one, List.take_add_one, hQ2, hx58, hx66, of_decide_eq_true h73])⟩ (by have := of_decide_eq_true h6; have := of_decide_eq_true h56; simp; omega)).sub (fun _ ha => ((((((ha.start.cons ha (t := 0) rfl).cons ha (t := 1) rfl).cons ha (t := 5) rfl).cons ha (t := 6) rfl).cons ha (t := 7) rfl).cons ha (t := 9) rfl))
          ·
           skip
           refine wcCondT rfl ?_
           refine wcSkip ?_
           refine wcOf ?_
           refine wcSeq ?_
           refine wcBlock (wcSeq ?_)
           obtain ⟨x74, hx75⟩ : ∃ y_, x7.p[j]? = some y_ := ⟨_, List.getElem?_eq_getElem (of_decide_eq_true h55)⟩
           obtain ⟨b76, o77, row78, hA81, hr79, hi80⟩ := hs18.elem hx75; subst hA81
           obtain rfl := hi80
           obtain ⟨x82, hx83⟩ : ∃ y_, x27.p[j]? = some y_ := ⟨_, List.getElem?_eq_getElem (by have q1 := of_decide_eq_true h55; have q2 := h53; simp at q2; omega)⟩
           obtain ⟨b84, o85, row86, hA89, hr87, hi88⟩ := hs38.elem hx83; subst hA89
           obtain rfl := hi88
           refine wcDraw fmix (by kernel_rfl) (by kernel_rfl) (vAt [(fun _ v_ => v_ = (.pointer (some ⟨b47, 4, none⟩))), (fun _ v_ => v_ = (.slice (some ⟨b76, o77, none⟩) x7.p.length cap24)), (fun _ v_ => v_ = (.int .i64 (((j : Nat) : Int)))), (fun _ v_ => v_ = (.pointer (some ⟨b76, o77 + j * 34, none⟩))), (fun _ v_ => v_ = (.agg x74.cells.toArray)), (fun _ v_ => v_ = (.pointer (some ⟨b48, 4, none⟩))), (fun _ v_ => v_ = (.slice (some ⟨b84, o85, none⟩) x27.p.length cap44)), (fun _ v_ => v_ = (.int .i64 (((j : Nat) : Int)))), (fun _ v_ => v_ = (.pointer (some ⟨b84, o85 + j * 34, none⟩))), (fun _ v_ => v_ = (.agg x82.cells.toArray)), (fun _ v_ => v_ = (.bool (!(decide (x74 = x82)))))]) (fun _ _ G' w => Cx w0 G0 G' w ∧ Bxs G' w w0.heap.size [(b47, 49, [(.int .i64 x7.node), (.int .i64 x7.view), (.int .i64 x7.low), (.slice A21 x7.marks.length cap22), (.slice (some ⟨b76, o77, none⟩) x7.p.length cap24), (.slice A25 x7.q.length cap26)]), (b48, 49, [(.int .i64 x27.node), (.int .i64 x27.view), (.int .i64 x27.low), (.slice A41 x27.marks.length cap42), (.slice (some ⟨b84, o85, none⟩) x27.p.length cap44), (.slice A45 x27.q.length cap46)])] ∧ GLe G G') G (vAt_mono ⟨fun _ _ _ _ h => h, fun _ _ _ _ h => h, fun _ _ _ _ h => h, fun _ _ _ _ h => h, fun _ _ _ _ h => h, fun _ _ _ _ h => h, fun _ _ _ _ h => h, fun _ _ _ _ h => h, fun _ _ _ _ h => h, fun _ _ _ _ h => h, fun _ _ _ _ h => h, trivial⟩) (fun _ _ => ⟨hC.drew, hB.drew, fun _ _ h => h⟩) ?_ ?_
           ·
            refine dsNone (j := 1) rfl ?_ ?_
            ·
             intro done G w ac_ hd hp hn ⟨hC, hB, hg⟩ hM
             have f6 : ac_.tmps[6]? = some (.pointer (some ⟨b47, 0, none⟩)) := hM.old0 rfl rfl
             have hF := (hM.fr.add f6)
             exact OpVal.draw hF (opFieldAddr rfl fo49_4) ⟨G, fun _ _ h => h, ⟨hC, hB, hg⟩, rfl⟩
            refine dsNone (j := 2) rfl ?_ ?_
            ·
             intro done G w ac_ hd hp hn ⟨hC, hB, hg⟩ hM
             have f81 := hM.eqv (s := 81) 0 rfl (hp 0 rfl) rfl rfl
             have hF := (hM.fr.add f81)
             exact OpVal.draw hF (opLoadOne (v := (.slice (some ⟨b76, o77, none⟩) x7.p.length cap24)) rfl (hB.cell (i := 0) rfl rfl) one47) ⟨G, fun _ _ h => h, ⟨hC, hB, hg⟩, rfl⟩
            refine dsNone (j := 3) rfl ?_ ?_
            ·
             intro done G w ac_ hd hp hn ⟨hC, hB, hg⟩ hM
             have f8 : ac_.tmps[8]? = some (.int .i64 (((j : Nat) : Int))) := hM.old0 rfl rfl
             have hF := (hM.fr.add f8)
             exact OpVal.draw hF (opMove rfl) ⟨G, fun _ _ h => h, ⟨hC, hB, hg⟩, rfl⟩
            refine dsNone (j := 4) rfl ?_ ?_
            ·
             intro done G w ac_ hd hp hn ⟨hC, hB, hg⟩ hM
             have f82 := hM.eqv (s := 82) 1 rfl (hp 1 rfl) rfl rfl
             have f83 := hM.eqv (s := 83) 2 rfl (hp 2 rfl) rfl rfl
             have hF := ((hM.fr.add f82).add f83)
             exact OpVal.draw hF (opIndexAddr rfl rfl slo47 (of_decide_eq_true h55)) ⟨G, fun _ _ h => h, ⟨hC, hB, hg⟩, rfl⟩
            refine dsNone (j := 5) rfl ?_ ?_
            ·
             intro done G w ac_ hd hp hn ⟨hC, hB, hg⟩ hM
             replace hr79 := hr79.mono hg
             have f84 := hM.eqv (s := 84) 3 rfl (hp 3 rfl) rfl rfl
             have hF := (hM.fr.add f84)
             exact OpVal.draw hF (opLoadRow (cs := x74.cells) rfl (RowG.range hC.holds hr79) row58 (by simp [Mark.cells, Stand.cells])) ⟨G, fun _ _ h => h, ⟨hC, hB, hg⟩, rfl⟩
            refine dsNone (j := 6) rfl ?_ ?_
            ·
             intro done G w ac_ hd hp hn ⟨hC, hB, hg⟩ hM
             have f7 : ac_.tmps[7]? = some (.pointer (some ⟨b48, 0, none⟩)) := hM.old0 rfl rfl
             have hF := (hM.fr.add f7)
             exact OpVal.draw hF (opFieldAddr rfl fo49_4) ⟨G, fun _ _ h => h, ⟨hC, hB, hg⟩, rfl⟩
            refine dsNone (j := 7) rfl ?_ ?_
            ·
             intro done G w ac_ hd hp hn ⟨hC, hB, hg⟩ hM
             have f86 := hM.eqv (s := 86) 5 rfl (hp 5 rfl) rfl rfl
             have hF := (hM.fr.add f86)
             exact OpVal.draw hF (opLoadOne (v := (.slice (some ⟨b84, o85, none⟩) x27.p.length cap44)) rfl (hB.cell (i := 1) rfl rfl) one47) ⟨G, fun _ _ h => h, ⟨hC, hB, hg⟩, rfl⟩
            refine dsNone (j := 8) rfl ?_ ?_
            ·
             intro done G w ac_ hd hp hn ⟨hC, hB, hg⟩ hM
             have f8 : ac_.tmps[8]? = some (.int .i64 (((j : Nat) : Int))) := hM.old0 rfl rfl
             have hF := (hM.fr.add f8)
             exact OpVal.draw hF (opMove rfl) ⟨G, fun _ _ h => h, ⟨hC, hB, hg⟩, rfl⟩
            refine dsNone (j := 9) rfl ?_ ?_
            ·
             intro done G w ac_ hd hp hn ⟨hC, hB, hg⟩ hM
             have f87 := hM.eqv (s := 87) 6 rfl (hp 6 rfl) rfl rfl
             have f88 := hM.eqv (s := 88) 7 rfl (hp 7 rfl) rfl rfl
             have hF := ((hM.fr.add f87).add f88)
             exact OpVal.draw hF (opIndexAddr rfl rfl slo47 (by have q1 := of_decide_eq_true h55; have q2 := h53; simp at q2; omega)) ⟨G, fun _ _ h => h, ⟨hC, hB, hg⟩, rfl⟩
            refine dsNone (j := 10) rfl ?_ ?_
            ·
             intro done G w ac_ hd hp hn ⟨hC, hB, hg⟩ hM
             replace hr87 := hr87.mono hg
             have f89 := hM.eqv (s := 89) 8 rfl (hp 8 rfl) rfl rfl
             have hF := (hM.fr.add f89)
             exact OpVal.draw hF (opLoadRow (cs := x82.cells) rfl (RowG.range hC.holds hr87) row58 (by simp [Mark.cells, Stand.cells])) ⟨G, fun _ _ h => h, ⟨hC, hB, hg⟩, rfl⟩
            refine dsNone (j := 11) rfl ?_ ?_
            ·
             intro done G w ac_ hd hp hn ⟨hC, hB, hg⟩ hM
             have f85 := hM.eqv (s := 85) 4 rfl (hp 4 rfl) rfl rfl
             have f90 := hM.eqv (s := 90) 9 rfl (hp 9 rfl) rfl rfl
             have hF := ((hM.fr.add f85).add f90)
             exact OpVal.draw hF (opNeRow (eq58 _ x74 x82) eg58 rfl rfl) ⟨G, fun _ _ h => h, ⟨hC, hB, hg⟩, rfl⟩
            exact dsNil
           ·
            intro done G w ac_ hall ⟨hC, hB, hg⟩ hM
            replace hla := hla.mono hg
            replace hlb := hlb.mono hg
            replace hs16 := hs16.mono hg
            replace hs18 := hs18.mono hg
            replace hs20 := hs20.mono hg
            replace hr12 := hr12.mono hg
            replace hs36 := hs36.mono hg
            replace hs38 := hs38.mono hg
            replace hs40 := hs40.mono hg
            replace hr32 := hr32.mono hg
            have f0 : ac_.tmps[0]? = some (.slice (some ⟨b9, o10, none⟩) la.length cap2) := hM.old0 rfl rfl
            have f1 : ac_.tmps[1]? = some (.slice (some ⟨b29, o30, none⟩) lb.length cap4) := hM.old0 rfl rfl
            have f5 : ac_.tmps[5]? = some (.int .i64 (((k : Nat) : Int))) := hM.old0 rfl rfl
            have f6 : ac_.tmps[6]? = some (.pointer (some ⟨b47, 0, none⟩)) := hM.old0 rfl rfl
            have f7 : ac_.tmps[7]? = some (.pointer (some ⟨b48, 0, none⟩)) := hM.old0 rfl rfl
            have f8 : ac_.tmps[8]? = some (.int .i64 (((j : Nat) : Int))) := hM.old0 rfl rfl
            have f91 := hM.eqv (s := 91) 10 rfl (hall 10 (by decide)) rfl rfl
            refine ⟨(((((((Env.nil.put 0 (.slice (some ⟨b9, o10, none⟩) la.length cap2)).put 1 (.slice (some ⟨b29, o30, none⟩) lb.length cap4)).put 5 (.int .i64 (((k : Nat) : Int)))).put 6 (.pointer (some ⟨b47, 0, none⟩))).put 7 (.pointer (some ⟨b48, 0, none⟩))).put 8 (.int .i64 (((j : Nat) : Int)))).put 91 (.bool (!(decide (x74 = x82))))), (((((((hM.fr.add f0).add f1).add f5).add f6).add f7).add f8).add f91), ?_⟩
            clear hM hall
            refine wcOf ?_
            cases h90 : decide (x74 = x82)
            ·
             skip
             refine wcCondT rfl ?_
             refine wcSeq (wcRegion ?_)
             refine wlVal (opAssign rfl) rfl ?_
             refine wlThen ?_
             refine wcRet ?_
             exact fun ac_ ha => hQ _ _ _ (results1 ha rfl rfl) ha.df (endS hC hw (by rw [ne_of_get hx8 hx28 (by rintro rfl; exact (of_decide_eq_false h90) (Option.some.inj (hx75.symm.trans hx83)))]))
            ·
             skip
             refine wcCondF rfl ?_
             refine wcSkip ?_
             refine wcOf ?_
             refine wcRegion ?_
             refine wlVal (opMove rfl) rfl ?_
             refine wlVal (opIncr rfl rfl (incr_ok (of_decide_eq_true h55) hs18.le)) rfl ?_
             refine wlVal (opAssign rfl) rfl ?_
             refine wlRound ?_
             exact (IH1 (j + 1) _ _ ⟨hC, hB, hla, hlb, hs16, hs18, hs20, hr12, hs36, hs38, hs40, hr32, (by rw [List.take_add_one, List.take_add_one, hP, hx75, hx83, of_decide_eq_true h90])⟩ (by have := of_decide_eq_true h6; have := of_decide_eq_true h55; simp; omega)).sub (fun _ ha => ((((((ha.start.cons ha (t := 0) rfl).cons ha (t := 1) rfl).cons ha (t := 5) rfl).cons ha (t := 6) rfl).cons ha (t := 7) rfl).cons ha (t := 8) rfl))
         ·
          skip
          refine wcCondT rfl ?_
          refine wcSeq (wcRegion ?_)
          refine wlVal (opAssign rfl) rfl ?_
          refine wlThen ?_
          refine wcRet ?_
          exact fun ac_ ha => hQ _ _ _ (results1 ha rfl rfl) ha.df (endS hC hw (by rw [ne_of_get hx8 hx28 (by rintro rfl; simp at h54)]))
        ·
         skip
         refine wlOff rfl rfl rfl rfl ?_
         refine wlOff rfl rfl rfl rfl ?_
         refine wlOff rfl rfl rfl rfl ?_
         refine wlOff rfl rfl rfl rfl ?_
         refine wlOff rfl rfl rfl rfl ?_
         refine wlOff rfl rfl rfl rfl ?_
         refine wlOff rfl rfl rfl rfl ?_
         refine wlVal (opPickT rfl rfl) rfl ?_
         refine wlThen ?_
         refine wcCondT rfl ?_
         refine wcSeq (wcRegion ?_)
         refine wlVal (opAssign rfl) rfl ?_
         refine wlThen ?_
         refine wcRet ?_
         exact fun ac_ ha => hQ _ _ _ (results1 ha rfl rfl) ha.df (endS hC hw (by rw [ne_of_get hx8 hx28 (by rintro rfl; simp at h53)]))
      ·
       skip
       refine wlOff rfl rfl rfl rfl ?_
       refine wlOff rfl rfl rfl rfl ?_
       refine wlOff rfl rfl rfl rfl ?_
       refine wlOff rfl rfl rfl rfl ?_
       refine wlOff rfl rfl rfl rfl ?_
       refine wlOff rfl rfl rfl rfl ?_
       refine wlVal (opPickT rfl rfl) rfl ?_
       refine wlVal (opMove rfl) rfl ?_
       refine wlOff rfl rfl rfl rfl ?_
       refine wlOff rfl rfl rfl rfl ?_
       refine wlOff rfl rfl rfl rfl ?_
       refine wlOff rfl rfl rfl rfl ?_
       refine wlOff rfl rfl rfl rfl ?_
       refine wlOff rfl rfl rfl rfl ?_
       refine wlOff rfl rfl rfl rfl ?_
       refine wlVal (opPickT rfl rfl) rfl ?_
       refine wlVal (opMove rfl) rfl ?_
       refine wlOff rfl rfl rfl rfl ?_
       refine wlOff rfl rfl rfl rfl ?_
       refine wlOff rfl rfl rfl rfl ?_
       refine wlOff rfl rfl rfl rfl ?_
       refine wlOff rfl rfl rfl rfl ?_
       refine wlOff rfl rfl rfl rfl ?_
       refine wlOff rfl rfl rfl rfl ?_
       refine wlVal (opPickT rfl rfl) rfl ?_
       refine wlThen ?_
       refine wcCondT rfl ?_
       refine wcSeq (wcRegion ?_)
       refine wlVal (opAssign rfl) rfl ?_
       refine wlThen ?_
       refine wcRet ?_
       exact fun ac_ ha => hQ _ _ _ (results1 ha rfl rfl) ha.df (endS hC hw (by rw [ne_of_get hx8 hx28 (by rintro rfl; simp at h51)]))
     ·
      skip
      refine wlOff rfl rfl rfl rfl ?_
      refine wlOff rfl rfl rfl rfl ?_
      refine wlOff rfl rfl rfl rfl ?_
      refine wlOff rfl rfl rfl rfl ?_
      refine wlOff rfl rfl rfl rfl ?_
      refine wlVal (opPickT rfl rfl) rfl ?_
      refine wlVal (opMove rfl) rfl ?_
      refine wlOff rfl rfl rfl rfl ?_
      refine wlOff rfl rfl rfl rfl ?_
      refine wlOff rfl rfl rfl rfl ?_
      refine wlOff rfl rfl rfl rfl ?_
      refine wlOff rfl rfl rfl rfl ?_
      refine wlOff rfl rfl rfl rfl ?_
      refine wlVal (opPickT rfl rfl) rfl ?_
      refine wlVal (opMove rfl) rfl ?_
      refine wlOff rfl rfl rfl rfl ?_
      refine wlOff rfl rfl rfl rfl ?_
      refine wlOff rfl rfl rfl rfl ?_
      refine wlOff rfl rfl rfl rfl ?_
      refine wlOff rfl rfl rfl rfl ?_
      refine wlOff rfl rfl rfl rfl ?_
      refine wlOff rfl rfl rfl rfl ?_
      refine wlVal (opPickT rfl rfl) rfl ?_
      refine wlVal (opMove rfl) rfl ?_
      refine wlOff rfl rfl rfl rfl ?_
      refine wlOff rfl rfl rfl rfl ?_
      refine wlOff rfl rfl rfl rfl ?_
      refine wlOff rfl rfl rfl rfl ?_
      refine wlOff rfl rfl rfl rfl ?_
      refine wlOff rfl rfl rfl rfl ?_
      refine wlOff rfl rfl rfl rfl ?_
      refine wlVal (opPickT rfl rfl) rfl ?_
      refine wlThen ?_
      refine wcCondT rfl ?_
      refine wcSeq (wcRegion ?_)
      refine wlVal (opAssign rfl) rfl ?_
      refine wlThen ?_
      refine wcRet ?_
      exact fun ac_ ha => hQ _ _ _ (results1 ha rfl rfl) ha.df (endS hC hw (by rw [ne_of_get hx8 hx28 (by rintro rfl; simp at h50)]))
    ·
     skip
     refine wlOff rfl rfl rfl rfl ?_
     refine wlOff rfl rfl rfl rfl ?_
     refine wlOff rfl rfl rfl rfl ?_
     refine wlOff rfl rfl rfl rfl ?_
     refine wlOff rfl rfl rfl rfl ?_
     refine wlVal (opPickT rfl rfl) rfl ?_
     refine wlVal (opMove rfl) rfl ?_
     refine wlOff rfl rfl rfl rfl ?_
     refine wlOff rfl rfl rfl rfl ?_
     refine wlOff rfl rfl rfl rfl ?_
     refine wlOff rfl rfl rfl rfl ?_
     refine wlOff rfl rfl rfl rfl ?_
     refine wlVal (opPickT rfl rfl) rfl ?_
     refine wlVal (opMove rfl) rfl ?_
     refine wlOff rfl rfl rfl rfl ?_
     refine wlOff rfl rfl rfl rfl ?_
     refine wlOff rfl rfl rfl rfl ?_
     refine wlOff rfl rfl rfl rfl ?_
     refine wlOff rfl rfl rfl rfl ?_
     refine wlOff rfl rfl rfl rfl ?_
     refine wlVal (opPickT rfl rfl) rfl ?_
     refine wlVal (opMove rfl) rfl ?_
     refine wlOff rfl rfl rfl rfl ?_
     refine wlOff rfl rfl rfl rfl ?_
     refine wlOff rfl rfl rfl rfl ?_
     refine wlOff rfl rfl rfl rfl ?_
     refine wlOff rfl rfl rfl rfl ?_
     refine wlOff rfl rfl rfl rfl ?_
     refine wlOff rfl rfl rfl rfl ?_
     refine wlVal (opPickT rfl rfl) rfl ?_
     refine wlVal (opMove rfl) rfl ?_
     refine wlOff rfl rfl rfl rfl ?_
     refine wlOff rfl rfl rfl rfl ?_
     refine wlOff rfl rfl rfl rfl ?_
     refine wlOff rfl rfl rfl rfl ?_
     refine wlOff rfl rfl rfl rfl ?_
     refine wlOff rfl rfl rfl rfl ?_
     refine wlOff rfl rfl rfl rfl ?_
     refine wlVal (opPickT rfl rfl) rfl ?_
     refine wlThen ?_
     refine wcCondT rfl ?_
     refine wcSeq (wcRegion ?_)
     refine wlVal (opAssign rfl) rfl ?_
     refine wlThen ?_
     refine wcRet ?_
     exact fun ac_ ha => hQ _ _ _ (results1 ha rfl rfl) ha.df (endS hC hw (by rw [ne_of_get hx8 hx28 (by rintro rfl; simp at h49)]))
 ·
  skip
  refine wcCondT rfl ?_
  refine wcSeq (wcRegion ?_)
  refine wlVal (opAssign rfl) rfl ?_
  refine wlThen ?_
  refine wcRet ?_
  exact fun ac_ ha => hQ _ _ _ (results1 ha rfl rfl) ha.df (endS hC hw (by simp at h5; symm; simp; rintro rfl; exact h5 rfl))

end Go.Proofs.Ytbhkoipmojdkhaa
