/- What functions of the marks seat return, part 12. No condition. -/
import Derived.Test.YtbmanooiphghmaaMkG11
set_option linter.all false
namespace Go.Proofs.Ytbmanooiphghmaa
open Go Go.Gx Go.RowKit
theorem newE_ne {c : Crew} {low : Mark} (h : newOk c low = false) (h0 : newE c low = 0) : False := by
  unfold newOk at h; unfold newE at h0
  cases h1 : check c != 0 with
  | true => rw [h1] at h0; cases h0
  | false =>
    rw [h1] at h0 h
    cases h2 : mayB low.seq with
    | true => rw [h2] at h; cases h
    | false => rw [h2] at h0; cases h0
theorem newE_ne2 {c : Crew} {low : Mark} (h : newOk c low = false) : ¬ newE c low = 0 := fun h0 => newE_ne h h0
theorem co10 : callOk Try.prog 10 = true := by kernel_rfl
theorem isl29 : isSlice Try.prog 29 = true := by kernel_rfl
theorem co17 : callOk Try.prog 17 = true := by kernel_rfl
theorem slo29 : sliceOk Try.prog 29 39 35 = true := by kernel_rfl
theorem fo39_0 : fieldOk Try.prog 39 0 0 = true := by kernel_rfl
theorem co11 : callOk Try.prog 11 = true := by kernel_rfl
theorem fo39_2 : fieldOk Try.prog 39 2 2 = true := by kernel_rfl
theorem co15 : callOk Try.prog 15 = true := by kernel_rfl
theorem co16 : callOk Try.prog 16 = true := by kernel_rfl
theorem fo39_1 : fieldOk Try.prog 39 1 1 = true := by kernel_rfl
theorem co13 : callOk Try.prog 13 = true := by kernel_rfl
theorem plays_ret (G0 : Gh) (w0 : World) (hw : Holds G0 w0) (csc : List Value) (c : Crew) (hc : Rp.Is G0 csc c) (low : Mark) (vl : Value) (l : List Do) (hl : Sl G0 vl l) :
    RetS Try.prog 3 #[.agg csc.toArray, .agg low.cells.toArray, vl] G0 w0 (.bool true) := by
  have hC := Cx.refl hw
  have hB : Bxs G0 w0 w0.heap.size [] := Bxs.nil _ _ _
  obtain ⟨v1, rfl, hs2⟩ := Crew.opIs hc
  obtain ⟨A3, cap4, rfl⟩ := hs2.form
  obtain ⟨A5, cap6, rfl⟩ := hl.form
  refine callsOf Try.func3 rfl _ Try.ntmps3 rfl _ (argsCons (argsCons (argsCons argsNil (t := 0) rfl) (t := 1) rfl) (t := 2) rfl) ?_; intro Q0 hQ
  refine wcSeq ?_
  refine wcRegion ?_
  refine wlBox (cs := [(.int .i64 c.faults), (.slice A3 c.nodes.length cap4)]) hC hB rfl rfl rfl ?_; intro b7 w hk hC hB
  refine wlBox (cs := low.cells) hC hB rfl rfl rfl ?_; intro b8 w hk hC hB
  refine wlVal (opAssign rfl) rfl ?_
  refine wlThen ?_
  refine wcSeq ?_
  refine wcRegion ?_
  refine wlVal (opLoadRow (cs := [(.int .i64 c.faults), (.slice A3 c.nodes.length cap4)]) rfl (hB.range (i := 1) (m := 2) rfl rfl) row24 rfl) rfl ?_
  refine wlVal (opLoadRow (cs := low.cells) rfl (hB.range (i := 0) (m := 33) rfl (by simp [Mark.cells, Do.cells, Word.cells])) row28 (by simp [Mark.cells, Do.cells, Word.cells])) rfl ?_
  cases h9 : newOk c low
  · skip
    refine wlCallG hC hB rfl co9 rfl rfl (new_no _ _ hC.holds _ c (Crew.mkIs (x := c) hs2) low h9) ?_; rintro v10 G w hk hC hB rfl
    replace hs2 := hs2.mono hk.gle; replace hl := hl.mono hk.gle
    refine wlVal (opMove rfl) rfl ?_
    refine wlVal (opExtract rfl rfl) rfl ?_
    refine wlVal (opExtract rfl rfl) rfl ?_
    refine wlVal (opAssign rfl) rfl ?_
    refine wlVal (opAssign rfl) rfl ?_
    refine wlThen ?_
    refine wcSeq ?_
    refine wcRegion ?_
    refine wlVal (opLoadRow (cs := [(.int .i64 c.faults), (.slice A3 c.nodes.length cap4)]) rfl (hB.range (i := 1) (m := 2) rfl rfl) row24 rfl) rfl ?_
    refine wlVal (opLoadRow (cs := low.cells) rfl (hB.range (i := 0) (m := 33) rfl (by simp [Mark.cells, Do.cells, Word.cells])) row28 (by simp [Mark.cells, Do.cells, Word.cells])) rfl ?_
    refine wlCallG hC hB rfl co10 rfl rfl (rnew_no _ _ hC.holds _ c (Crew.mkIs (x := c) hs2) low h9) ?_; rintro v11 G w hk hC hB rfl
    replace hs2 := hs2.mono hk.gle; replace hl := hl.mono hk.gle
    refine wlVal (opMove rfl) rfl ?_
    refine wlVal (opExtract rfl rfl) rfl ?_
    refine wlVal (opExtract rfl rfl) rfl ?_
    refine wlVal (opAssign rfl) rfl ?_
    refine wlVal (opAssign rfl) rfl ?_
    refine wlThen ?_
    refine wcSeq ?_
    refine wcSeq ?_
    refine wcRegion ?_
    refine wlVal (opMove rfl) rfl ?_
    refine wlVal (opMove rfl) rfl ?_
    refine wlVal (opNeq rfl rfl) rfl ?_
    refine wlVal (opMove rfl) rfl ?_
    cases h12 : ((newE c low)) != ((newE c low))
    · skip
      refine wlOn rfl rfl ?_
      refine wlVal (opMove rfl) rfl ?_
      refine wlOn rfl rfl ?_
      refine wlVal (OpVal.cast (v' := .bool true) (opPtrNil ip30 rfl rfl) rfl) rfl ?_
      refine wlOn rfl rfl ?_
      refine wlVal (opMove rfl) rfl ?_
      refine wlOn rfl rfl ?_
      refine wlVal (opNeq rfl rfl) rfl ?_
      refine wlOn rfl rfl ?_
      refine wlVal (opNeBool ub4 rfl rfl) rfl ?_
      refine wlVal (opPickF rfl rfl) rfl ?_
      refine wlThen ?_
      cases h13 : true != (((newE c low)) != 0)
      · skip
        refine wcCondF rfl ?_
        refine wcSkip ?_
        refine wcOf ?_
        refine wcSeq ?_
        refine wcSeq ?_
        refine wcRegion ?_
        refine wlVal (opAssign rfl) rfl ?_
        refine wlThen ?_
        refine wcBlock ?_
        refine WC.sub (wrInd (ι := Nat) (fun k => l.length - k) (fun k G w => Cx w0 G0 G w ∧ Bxs G w w0.heap.size [(b8, 28, low.cells), (b7, 24, [(.int .i64 c.faults), (.slice A3 c.nodes.length cap4)])] ∧ Sl G (.slice A3 c.nodes.length cap4) c.nodes ∧ Sl G (.slice A5 l.length cap6) l) (fun k => (((((Env.nil.put 2 (.slice A5 l.length cap6)).put 7 (.pointer none)).put 9 (.pointer none)).put 10 (.int .i64 ((newE c low)))).put 11 (.int .i64 (((k : Nat) : Int))))) ?_ (0) _ _ ⟨hC, hB, hs2, hl⟩) (fun _ ha => (((((ha.start.cons ha (t := 2) rfl).cons ha (t := 7) rfl).cons ha (t := 9) rfl).cons ha (t := 10) rfl).cons ha (t := 11) rfl))
        rintro k G w N0 IH0 ⟨hC, hB, hs2, hl⟩
        show WC _ _ _ _ (((((Env.nil.put 2 (.slice A5 l.length cap6)).put 7 (.pointer none)).put 9 (.pointer none)).put 10 (.int .i64 ((newE c low)))).put 11 (.int .i64 (((k : Nat) : Int)))) w
        refine wcSeq ?_
        refine wcSeq ?_
        refine wcRegion ?_
        refine wlVal (opMove rfl) rfl ?_
        refine wlVal (opMove rfl) rfl ?_
        refine wlVal (opLen rfl isl29) rfl ?_
        refine wlVal (opLssN rfl rfl) rfl ?_
        refine wlVal (opMove rfl) rfl ?_
        cases h14 : decide (k < l.length)
        · skip
          refine wlOff rfl rfl rfl rfl ?_
          refine wlOff rfl rfl rfl rfl ?_
          refine wlVal (opPickF rfl rfl) rfl ?_
          refine wlVal (opMove rfl) rfl ?_
          refine wlOff rfl rfl rfl rfl ?_
          refine wlOff rfl rfl rfl rfl ?_
          refine wlVal (opPickF rfl rfl) rfl ?_
          refine wlThen ?_
          refine wcCondF rfl ?_
          refine wcExit ?_
          refine wcOf ?_
          refine wcSeq ?_
          refine wcRegion ?_
          refine wlCallS hC hB rfl co17 rfl rfl (awake_ret _ _ hC.holds ) ?_; intro w hk hC hB
          refine wlVal (opAssign rfl) rfl ?_
          refine wlThen ?_
          refine wcRet ?_
          exact fun ac_ ha => hQ _ _ _ (results1 ha rfl rfl) ha.df (endS hC hw rfl)
        · skip
          refine wlOn rfl rfl ?_
          refine wlVal (opMove rfl) rfl ?_
          refine wlOn rfl rfl ?_
          refine wlVal (opLssN (b := 100) rfl rfl) rfl ?_
          refine wlVal (opPickT rfl rfl) rfl ?_
          refine wlVal (opMove rfl) rfl ?_
          cases h15 : decide (k < 100)
          · skip
            refine wlOff rfl rfl rfl rfl ?_
            refine wlOff rfl rfl rfl rfl ?_
            refine wlVal (opPickF rfl rfl) rfl ?_
            refine wlThen ?_
            refine wcCondF rfl ?_
            refine wcExit ?_
            refine wcOf ?_
            refine wcSeq ?_
            refine wcRegion ?_
            refine wlCallS hC hB rfl co17 rfl rfl (awake_ret _ _ hC.holds ) ?_; intro w hk hC hB
            refine wlVal (opAssign rfl) rfl ?_
            refine wlThen ?_
            refine wcRet ?_
            exact fun ac_ ha => hQ _ _ _ (results1 ha rfl rfl) ha.df (endS hC hw rfl)
          · skip
            refine wlOn rfl rfl ?_
            refine wlVal (opMove rfl) rfl ?_
            refine wlOn rfl rfl ?_
            refine wlVal (opEql rfl rfl) rfl ?_
            refine wlVal (opPickT rfl rfl) rfl ?_
            refine wlThen ?_
            cases h16 : ((newE c low)) == 0
            · skip
              refine wcCondF rfl ?_
              refine wcExit ?_
              refine wcOf ?_
              refine wcSeq ?_
              refine wcRegion ?_
              refine wlCallS hC hB rfl co17 rfl rfl (awake_ret _ _ hC.holds ) ?_; intro w hk hC hB
              refine wlVal (opAssign rfl) rfl ?_
              refine wlThen ?_
              refine wcRet ?_
              exact fun ac_ ha => hQ _ _ _ (results1 ha rfl rfl) ha.df (endS hC hw rfl)
            · skip
              exact (newE_ne h9 (by simpa using h16)).elim
      · skip
        exact absurd h13 (by rw [show (newE c low != 0) = true by simpa using newE_ne2 h9]; simp)
    · skip
      exact absurd h12 (by simp)
  · skip
    refine wlCallN (m := []) (B := []) hC hB rfl co9 rfl rfl (new_ok _ _ hC.holds _ c (Crew.mkIs (x := c) hs2) low h9) ?_; rintro v17 G O18 w hg hC hB ⟨b22, l23, o19, q20, rfl, h21, rfl⟩
    replace hs2 := hs2.mono hg; replace hl := hl.mono hg
    replace hC : Cx w0 G0 G w ⟨[], [(b22, o19), (l23, q20)]⟩ := hC
    replace hB : Bxs G w w0.heap.size [(b8, 28, low.cells), (b7, 24, [(.int .i64 c.faults), (.slice A3 c.nodes.length cap4)])] ⟨[], [(b22, o19), (l23, q20)]⟩ := hB
    refine wlVal (opMove rfl) rfl ?_
    refine wlVal (opExtract rfl rfl) rfl ?_
    refine wlVal (opExtract rfl rfl) rfl ?_
    refine wlVal (opAssign rfl) rfl ?_
    refine wlVal (opAssign rfl) rfl ?_
    refine wlThen ?_
    refine wcSeq ?_
    refine wcRegion ?_
    refine wlVal (opLoadRow (cs := [(.int .i64 c.faults), (.slice A3 c.nodes.length cap4)]) rfl (hB.range (i := 1) (m := 2) rfl rfl) row24 rfl) rfl ?_
    refine wlVal (opLoadRow (cs := low.cells) rfl (hB.range (i := 0) (m := 33) rfl (by simp [Mark.cells, Do.cells, Word.cells])) row28 (by simp [Mark.cells, Do.cells, Word.cells])) rfl ?_
    refine wlCallN (m := []) (B := [(b22, o19), (l23, q20)]) hC hB rfl co10 rfl rfl (rnew_ok _ _ hC.holds _ c (Crew.mkIs (x := c) hs2) low h9) ?_; rintro v24 G O25 w hg hC hB ⟨b29, l30, o26, q27, rfl, h28, rfl⟩
    replace hs2 := hs2.mono hg; replace hl := hl.mono hg; replace h21 := h21.mono hg
    replace hC : Cx w0 G0 G w ⟨[], [(b29, o26), (l30, q27), (b22, o19), (l23, q20)]⟩ := hC
    replace hB : Bxs G w w0.heap.size [(b8, 28, low.cells), (b7, 24, [(.int .i64 c.faults), (.slice A3 c.nodes.length cap4)])] ⟨[], [(b29, o26), (l30, q27), (b22, o19), (l23, q20)]⟩ := hB
    refine wlVal (opMove rfl) rfl ?_
    refine wlVal (opExtract rfl rfl) rfl ?_
    refine wlVal (opExtract rfl rfl) rfl ?_
    refine wlVal (opAssign rfl) rfl ?_
    refine wlVal (opAssign rfl) rfl ?_
    refine wlThen ?_
    refine wcSeq ?_
    refine wcSeq ?_
    refine wcRegion ?_
    refine wlVal (opMove rfl) rfl ?_
    refine wlVal (opMove rfl) rfl ?_
    refine wlVal (opNeq rfl rfl) rfl ?_
    refine wlVal (opMove rfl) rfl ?_
    refine wlOn rfl rfl ?_
    refine wlVal (opMove rfl) rfl ?_
    refine wlOn rfl rfl ?_
    refine wlVal (OpVal.cast (v' := .bool false) (opPtrNil ip30 rfl rfl) rfl) rfl ?_
    refine wlOn rfl rfl ?_
    refine wlVal (opMove rfl) rfl ?_
    refine wlOn rfl rfl ?_
    refine wlVal (opNeq rfl rfl) rfl ?_
    refine wlOn rfl rfl ?_
    refine wlVal (opNeBool ub4 rfl rfl) rfl ?_
    refine wlVal (opPickF rfl rfl) rfl ?_
    refine wlThen ?_
    refine wcCondF rfl ?_
    refine wcSkip ?_
    refine wcOf ?_
    refine wcSeq ?_
    refine wcSeq ?_
    refine wcRegion ?_
    refine wlVal (opAssign rfl) rfl ?_
    refine wlThen ?_
    refine wcBlock ?_
    refine WC.sub (wrInd (ι := Nat × Obj × Obj × MSt × Obj × Obj × RSt) (fun i => match i with | (k, om, qm, ms, orr, qr, rs) => l.length - k) (fun i G w => match i with | (k, om, qm, ms, orr, qr, rs) => Cx w0 G0 G w ⟨[], [(b29, orr), (l30, qr), (b22, om), (l23, qm)]⟩ ∧ Bxs G w w0.heap.size [(b8, 28, low.cells), (b7, 24, [(.int .i64 c.faults), (.slice A3 c.nodes.length cap4)])] ⟨[], [(b29, orr), (l30, qr), (b22, om), (l23, qm)]⟩ ∧ Sl G (.slice A3 c.nodes.length cap4) c.nodes ∧ Sl G (.slice A5 l.length cap6) l ∧ MarksO G om qm l23 ms ∧ RMarksO G orr qr l30 rs ∧ Rel ms rs) (fun i => match i with | (k, om, qm, ms, orr, qr, rs) => (((((Env.nil.put 2 (.slice A5 l.length cap6)).put 7 (.pointer (some ⟨b22, 0, none⟩))).put 9 (.pointer (some ⟨b29, 0, none⟩))).put 10 (.int .i64 0)).put 11 (.int .i64 (((k : Nat) : Int))))) ?_ (0, o19, q20, ((MSt.mk c low [])), o26, q27, ((RSt.mk c low (List.replicate c.nodes.length [])))) _ _ ⟨hC, hB, hs2, hl, h21, h28, (new_rel h9)⟩) (fun _ ha => (((((ha.start.cons ha (t := 2) rfl).cons ha (t := 7) rfl).cons ha (t := 9) rfl).cons ha (t := 10) rfl).cons ha (t := 11) rfl))
    rintro ⟨k, om, qm, ms, orr, qr, rs⟩ G w N0 IH0 ⟨hC, hB, hs2, hl, hJms, hJrs, hR⟩
    show WC _ _ _ _ (((((Env.nil.put 2 (.slice A5 l.length cap6)).put 7 (.pointer (some ⟨b22, 0, none⟩))).put 9 (.pointer (some ⟨b29, 0, none⟩))).put 10 (.int .i64 0)).put 11 (.int .i64 (((k : Nat) : Int)))) w
    refine wcSeq ?_
    refine wcSeq ?_
    refine wcRegion ?_
    refine wlVal (opMove rfl) rfl ?_
    refine wlVal (opMove rfl) rfl ?_
    refine wlVal (opLen rfl isl29) rfl ?_
    refine wlVal (opLssN rfl rfl) rfl ?_
    refine wlVal (opMove rfl) rfl ?_
    cases h31 : decide (k < l.length)
    · skip
      refine wlOff rfl rfl rfl rfl ?_
      refine wlOff rfl rfl rfl rfl ?_
      refine wlVal (opPickF rfl rfl) rfl ?_
      refine wlVal (opMove rfl) rfl ?_
      refine wlOff rfl rfl rfl rfl ?_
      refine wlOff rfl rfl rfl rfl ?_
      refine wlVal (opPickF rfl rfl) rfl ?_
      refine wlThen ?_
      refine wcCondF rfl ?_
      refine wcExit ?_
      refine wcOf ?_
      refine wcSeq ?_
      refine wcRegion ?_
      refine wlCallS hC hB rfl co17 rfl rfl (awake_ret _ _ hC.holds ) ?_; intro w hk hC hB
      refine wlVal (opAssign rfl) rfl ?_
      refine wlThen ?_
      refine wcRet ?_
      exact fun ac_ ha => hQ _ _ _ (results1 ha rfl rfl) ha.df (endS hC hw rfl)
    · skip
      refine wlOn rfl rfl ?_
      refine wlVal (opMove rfl) rfl ?_
      refine wlOn rfl rfl ?_
      refine wlVal (opLssN (b := 100) rfl rfl) rfl ?_
      refine wlVal (opPickT rfl rfl) rfl ?_
      refine wlVal (opMove rfl) rfl ?_
      cases h32 : decide (k < 100)
      · skip
        refine wlOff rfl rfl rfl rfl ?_
        refine wlOff rfl rfl rfl rfl ?_
        refine wlVal (opPickF rfl rfl) rfl ?_
        refine wlThen ?_
        refine wcCondF rfl ?_
        refine wcExit ?_
        refine wcOf ?_
        refine wcSeq ?_
        refine wcRegion ?_
        refine wlCallS hC hB rfl co17 rfl rfl (awake_ret _ _ hC.holds ) ?_; intro w hk hC hB
        refine wlVal (opAssign rfl) rfl ?_
        refine wlThen ?_
        refine wcRet ?_
        exact fun ac_ ha => hQ _ _ _ (results1 ha rfl rfl) ha.df (endS hC hw rfl)
      · skip
        refine wlOn rfl rfl ?_
        refine wlVal (opMove rfl) rfl ?_
        refine wlOn rfl rfl ?_
        refine wlVal (opEql rfl rfl) rfl ?_
        refine wlVal (opPickT rfl rfl) rfl ?_
        refine wlThen ?_
        refine wcCondT rfl ?_
        refine wcSkip ?_
        refine wcOf ?_
        refine wcSeq ?_
        refine wcBlock ?_
        refine wcSeq ?_
        refine wcRegion ?_
        refine wlVal (opAssign rfl) rfl ?_
        refine wlVal (opAssign rfl) rfl ?_
        refine wlThen ?_
        refine wcSeq ?_
        refine wcSeq ?_
        refine wcRegion ?_
        refine wlVal (opMove rfl) rfl ?_
        refine wlVal (opMove rfl) rfl ?_
        obtain ⟨x33, hx34⟩ : ∃ y_, l[k]? = some y_ := ⟨_, List.getElem?_eq_getElem (of_decide_eq_true h31)⟩
        obtain ⟨b35, o36, row37, hA40, hr38, hi39⟩ := hl.elem hx34; subst hA40
        obtain rfl := hi39
        refine wlVal (opIndexAddr rfl rfl slo29 (of_decide_eq_true h31)) rfl ?_
        refine wlVal (opFieldAddr rfl fo39_0) rfl ?_
        refine wlVal (opLoadOne (v := (.int .i64 x33.kind)) rfl (RowG.cell0 hC.holds hr38 (by simp [Mark.cells, Do.cells, Word.cells])) one3) rfl ?_
        refine wlCallS hC hB rfl co11 rfl rfl (bring_ret _ _ hC.holds x33.kind 2) ?_; intro w hk hC hB
        refine wlVal (opEql rfl rfl) rfl ?_
        refine wlThen ?_
        cases h41 : (((bringI x33.kind 2))) == 0
        · skip
          refine wcCondF rfl ?_
          refine wcSeq ?_
          refine wcRegion ?_
          refine wlVal (opMove rfl) rfl ?_
          refine wlVal (opMove rfl) rfl ?_
          refine wlVal (opMove rfl) rfl ?_
          refine wlVal (opIndexAddr rfl rfl slo29 (of_decide_eq_true h31)) rfl ?_
          refine wlVal (opFieldAddr rfl fo39_2) rfl ?_
          refine wlVal (opLoadRow (cs := x33.x.cells) rfl (RowG.range hC.holds (hr38.part (i := 2) (m := 33) (by simp [Mark.cells, Do.cells, Word.cells]))) row28 (by simp [Mark.cells, Do.cells, Word.cells])) rfl ?_
          refine wlCallM (A := [(b29, orr), (l30, qr)]) (O := [(b22, om), (l23, qm)]) (B := []) hC hB rfl co14 rfl rfl (raise_ret _ _ hC.holds b22 l23 _ _ ms ⟨hC.heldAt 2 rfl, hC.heldG 2 rfl⟩ ⟨hC.heldAt 3 rfl, hC.heldG 3 rfl⟩ (by have e_ := hC.hnd; simp at e_; omega) hJms x33.x) ?_; rintro v42 G O43 w hg hC hB ⟨o44, q45, rfl, h46, rfl⟩
          replace hs2 := hs2.mono hg; replace hl := hl.mono hg; replace hJrs := hJrs.mono hg; replace hr38 := hr38.mono hg
          replace hC : Cx w0 G0 G w ⟨[], [(b29, orr), (l30, qr), (b22, o44), (l23, q45)]⟩ := hC
          replace hB : Bxs G w w0.heap.size [(b8, 28, low.cells), (b7, 24, [(.int .i64 c.faults), (.slice A3 c.nodes.length cap4)])] ⟨[], [(b29, orr), (l30, qr), (b22, o44), (l23, q45)]⟩ := hB
          refine wlVal (opAssign rfl) rfl ?_
          refine wlThen ?_
          refine wcRegion ?_
          refine wlVal (opMove rfl) rfl ?_
          refine wlVal (opMove rfl) rfl ?_
          refine wlVal (opMove rfl) rfl ?_
          refine wlVal (opIndexAddr rfl rfl slo29 (of_decide_eq_true h31)) rfl ?_
          refine wlVal (opFieldAddr rfl fo39_2) rfl ?_
          refine wlVal (opLoadRow (cs := x33.x.cells) rfl (RowG.range hC.holds (hr38.part (i := 2) (m := 33) (by simp [Mark.cells, Do.cells, Word.cells]))) row28 (by simp [Mark.cells, Do.cells, Word.cells])) rfl ?_
          refine wlCallM (A := []) (O := [(b29, orr), (l30, qr)]) (B := [(b22, o44), (l23, q45)]) hC hB rfl co15 rfl rfl (rraise_ret _ _ hC.holds b29 l30 _ _ rs ⟨hC.heldAt 0 rfl, hC.heldG 0 rfl⟩ ⟨hC.heldAt 1 rfl, hC.heldG 1 rfl⟩ (by have e_ := hC.hnd; simp at e_; omega) hJrs x33.x) ?_; rintro v47 G O48 w hg hC hB ⟨o49, q50, rfl, h51, rfl⟩
          replace hs2 := hs2.mono hg; replace hl := hl.mono hg; replace hr38 := hr38.mono hg; replace h46 := h46.mono hg
          replace hC : Cx w0 G0 G w ⟨[], [(b29, o49), (l30, q50), (b22, o44), (l23, q45)]⟩ := hC
          replace hB : Bxs G w w0.heap.size [(b8, 28, low.cells), (b7, 24, [(.int .i64 c.faults), (.slice A3 c.nodes.length cap4)])] ⟨[], [(b29, o49), (l30, q50), (b22, o44), (l23, q45)]⟩ := hB
          refine wlVal (opAssign rfl) rfl ?_
          refine wlThen ?_
          refine wcSeq ?_
          refine wcRegion ?_
          refine wlVal (opMove rfl) rfl ?_
          refine wlVal (opMove rfl) rfl ?_
          refine wlVal (opNeq rfl rfl) rfl ?_
          refine wlVal (opMove rfl) rfl ?_
          cases h52 : (((raiseM ms x33.x).2)) != (((rraiseM rs x33.x).2))
          · skip
            refine wlOn rfl rfl ?_
            refine wlVal (opMove rfl) rfl ?_
            refine wlOn rfl rfl ?_
            refine wlVal (opMove rfl) rfl ?_
            refine wlOn rfl rfl ?_
            refine wlCallS hC hB rfl co16 rfl rfl (RetS.lend hC (fun G_ hg_ hh_ hL_ => tells_ret _ _ hh_ b22 l23 _ _ (((raiseM ms x33.x).1)) (hL_ (b22, o44) (by simp)) (hL_ (l23, q45) (by simp)) (show MarksO G_ o44 q45 l23 (((raiseM ms x33.x).1)) from (h46.mono hg_)) b29 l30 _ _ (((rraiseM rs x33.x).1)) (hL_ (b29, o49) (by simp)) (hL_ (l30, q50) (by simp)) (show RMarksO G_ o49 q50 l30 (((rraiseM rs x33.x).1)) from (h51.mono hg_)) (by first | exact (vote_rel hR _ _).2 | exact (raise_rel hR _).2))) ?_; intro w hk hC hB
            refine wlOn rfl rfl ?_
            refine wlVal (opNot rfl) rfl ?_
            refine wlVal (opPickF rfl rfl) rfl ?_
            refine wlThen ?_
            refine wcCondF rfl ?_
            refine wcSkip ?_
            refine wcOf ?_
            refine wcRegion ?_
            refine wlVal (opMove rfl) rfl ?_
            refine wlVal (opIncr rfl rfl (incr_ok (of_decide_eq_true h31) hl.le)) rfl ?_
            refine wlVal (opAssign rfl) rfl ?_
            refine wlRound ?_
            exact (IH0 (k + 1, o44, q45, ((raiseM ms x33.x).1), o49, q50, ((rraiseM rs x33.x).1)) _ _ ⟨hC, hB, hs2, hl, h46, h51, (by first | exact (vote_rel hR _ _).2 | exact (raise_rel hR _).2)⟩ (by have := of_decide_eq_true h31; show l.length - (k + 1) < l.length - k; omega)).sub (fun _ ha => (((((ha.start.cons ha (t := 2) rfl).cons ha (t := 7) rfl).cons ha (t := 9) rfl).cons ha (t := 10) rfl).cons ha (t := 11) rfl))
          · skip
            exact absurd h52 (by rw [(raise_rel hR _).1]; simp)
        · skip
          refine wcCondT rfl ?_
          refine wcSeq ?_
          refine wcDrawT 11 fmix (by kernel_rfl) (by kernel_rfl) (by kernel_rfl) (by kernel_rfl) (vAt [(fun _ v_ => v_ = (.pointer (some ⟨b22, 0, none⟩))), (fun _ v_ => v_ = (.slice (some ⟨b35, o36, none⟩) l.length cap6)), (fun _ v_ => v_ = (.int .i64 (((k : Nat) : Int)))), (fun _ v_ => v_ = (.pointer (some ⟨b35, o36 + k * 35, none⟩))), (fun _ v_ => v_ = (.pointer (some ⟨b35, o36 + k * 35 + 1, none⟩))), (fun _ v_ => v_ = (.int .i64 x33.node)), (fun _ v_ => v_ = (.slice (some ⟨b35, o36, none⟩) l.length cap6)), (fun _ v_ => v_ = (.int .i64 (((k : Nat) : Int)))), (fun _ v_ => v_ = (.pointer (some ⟨b35, o36 + k * 35, none⟩))), (fun _ v_ => v_ = (.pointer (some ⟨b35, o36 + k * 35 + 2, none⟩))), (fun _ v_ => v_ = (.agg x33.x.cells.toArray))]) (fun _ _ G' w => Cx w0 G0 G' w ⟨[], [(b29, orr), (l30, qr), (b22, om), (l23, qm)]⟩ ∧ Bxs G' w w0.heap.size [(b8, 28, low.cells), (b7, 24, [(.int .i64 c.faults), (.slice A3 c.nodes.length cap4)])] ⟨[], [(b29, orr), (l30, qr), (b22, om), (l23, qm)]⟩ ∧ GLe G G') G (vAt_mono ⟨fun _ _ _ _ h => h, fun _ _ _ _ h => h, fun _ _ _ _ h => h, fun _ _ _ _ h => h, fun _ _ _ _ h => h, fun _ _ _ _ h => h, fun _ _ _ _ h => h, fun _ _ _ _ h => h, fun _ _ _ _ h => h, fun _ _ _ _ h => h, fun _ _ _ _ h => h, trivial⟩) (fun _ _ => ⟨hC.drew, hB.drew, fun _ _ h => h⟩) ?_ ?_
          · refine dsNone (j := 1) rfl ?_ ?_
            · intro done G w ac_ hd hp hn ⟨hC, hB, hg⟩ hM
              have f7 : ac_.tmps[7]? = some (.pointer (some ⟨b22, 0, none⟩)) := hM.old0 rfl rfl
              have hF : Fr 105 ac_ (Env.nil.put 7 (.pointer (some ⟨b22, 0, none⟩))) := (hM.fr.add f7)
              exact OpVal.draw hF (opMove rfl) ⟨G, fun _ _ h => h, ⟨hC, hB, hg⟩, rfl⟩
            refine dsNone (j := 2) rfl ?_ ?_
            · intro done G w ac_ hd hp hn ⟨hC, hB, hg⟩ hM
              have f2 : ac_.tmps[2]? = some (.slice (some ⟨b35, o36, none⟩) l.length cap6) := hM.old0 rfl rfl
              have hF : Fr 105 ac_ (Env.nil.put 2 (.slice (some ⟨b35, o36, none⟩) l.length cap6)) := (hM.fr.add f2)
              exact OpVal.draw hF (opMove rfl) ⟨G, fun _ _ h => h, ⟨hC, hB, hg⟩, rfl⟩
            refine dsNone (j := 3) rfl ?_ ?_
            · intro done G w ac_ hd hp hn ⟨hC, hB, hg⟩ hM
              have f11 : ac_.tmps[11]? = some (.int .i64 (((k : Nat) : Int))) := hM.old0 rfl rfl
              have hF : Fr 105 ac_ (Env.nil.put 11 (.int .i64 (((k : Nat) : Int)))) := (hM.fr.add f11)
              exact OpVal.draw hF (opMove rfl) ⟨G, fun _ _ h => h, ⟨hC, hB, hg⟩, rfl⟩
            refine dsNone (j := 4) rfl ?_ ?_
            · intro done G w ac_ hd hp hn ⟨hC, hB, hg⟩ hM
              have f58 : ac_.tmps[58]? = some (.slice (some ⟨b35, o36, none⟩) l.length cap6) := hM.eqv 1 rfl (hp 1 rfl) rfl rfl
              have f59 : ac_.tmps[59]? = some (.int .i64 (((k : Nat) : Int))) := hM.eqv 2 rfl (hp 2 rfl) rfl rfl
              have hF : Fr 105 ac_ ((Env.nil.put 58 (.slice (some ⟨b35, o36, none⟩) l.length cap6)).put 59 (.int .i64 (((k : Nat) : Int)))) := ((hM.fr.add f58).add f59)
              exact OpVal.draw hF (opIndexAddr rfl rfl slo29 (of_decide_eq_true h31)) ⟨G, fun _ _ h => h, ⟨hC, hB, hg⟩, rfl⟩
            refine dsNone (j := 5) rfl ?_ ?_
            · intro done G w ac_ hd hp hn ⟨hC, hB, hg⟩ hM
              have f60 : ac_.tmps[60]? = some (.pointer (some ⟨b35, o36 + k * 35, none⟩)) := hM.eqv 3 rfl (hp 3 rfl) rfl rfl
              have hF : Fr 105 ac_ (Env.nil.put 60 (.pointer (some ⟨b35, o36 + k * 35, none⟩))) := (hM.fr.add f60)
              exact OpVal.draw hF (opFieldAddr rfl fo39_1) ⟨G, fun _ _ h => h, ⟨hC, hB, hg⟩, rfl⟩
            refine dsNone (j := 6) rfl ?_ ?_
            · intro done G w ac_ hd hp hn ⟨hC, hB, hg⟩ hM
              replace hr38 := hr38.mono hg
              have f61 : ac_.tmps[61]? = some (.pointer (some ⟨b35, o36 + k * 35 + 1, none⟩)) := hM.eqv 4 rfl (hp 4 rfl) rfl rfl
              have hF : Fr 105 ac_ (Env.nil.put 61 (.pointer (some ⟨b35, o36 + k * 35 + 1, none⟩))) := (hM.fr.add f61)
              exact OpVal.draw hF (opLoadOne (v := (.int .i64 x33.node)) rfl (RowG.cell hC.holds hr38 (j := 1) (by simp [Mark.cells, Do.cells, Word.cells])) one3) ⟨G, fun _ _ h => h, ⟨hC, hB, hg⟩, rfl⟩
            refine dsNone (j := 7) rfl ?_ ?_
            · intro done G w ac_ hd hp hn ⟨hC, hB, hg⟩ hM
              have f2 : ac_.tmps[2]? = some (.slice (some ⟨b35, o36, none⟩) l.length cap6) := hM.old0 rfl rfl
              have hF : Fr 105 ac_ (Env.nil.put 2 (.slice (some ⟨b35, o36, none⟩) l.length cap6)) := (hM.fr.add f2)
              exact OpVal.draw hF (opMove rfl) ⟨G, fun _ _ h => h, ⟨hC, hB, hg⟩, rfl⟩
            refine dsNone (j := 8) rfl ?_ ?_
            · intro done G w ac_ hd hp hn ⟨hC, hB, hg⟩ hM
              have f11 : ac_.tmps[11]? = some (.int .i64 (((k : Nat) : Int))) := hM.old0 rfl rfl
              have hF : Fr 105 ac_ (Env.nil.put 11 (.int .i64 (((k : Nat) : Int)))) := (hM.fr.add f11)
              exact OpVal.draw hF (opMove rfl) ⟨G, fun _ _ h => h, ⟨hC, hB, hg⟩, rfl⟩
            refine dsNone (j := 9) rfl ?_ ?_
            · intro done G w ac_ hd hp hn ⟨hC, hB, hg⟩ hM
              have f63 : ac_.tmps[63]? = some (.slice (some ⟨b35, o36, none⟩) l.length cap6) := hM.eqv 6 rfl (hp 6 rfl) rfl rfl
              have f64 : ac_.tmps[64]? = some (.int .i64 (((k : Nat) : Int))) := hM.eqv 7 rfl (hp 7 rfl) rfl rfl
              have hF : Fr 105 ac_ ((Env.nil.put 63 (.slice (some ⟨b35, o36, none⟩) l.length cap6)).put 64 (.int .i64 (((k : Nat) : Int)))) := ((hM.fr.add f63).add f64)
              exact OpVal.draw hF (opIndexAddr rfl rfl slo29 (of_decide_eq_true h31)) ⟨G, fun _ _ h => h, ⟨hC, hB, hg⟩, rfl⟩
            refine dsNone (j := 10) rfl ?_ ?_
            · intro done G w ac_ hd hp hn ⟨hC, hB, hg⟩ hM
              have f65 : ac_.tmps[65]? = some (.pointer (some ⟨b35, o36 + k * 35, none⟩)) := hM.eqv 8 rfl (hp 8 rfl) rfl rfl
              have hF : Fr 105 ac_ (Env.nil.put 65 (.pointer (some ⟨b35, o36 + k * 35, none⟩))) := (hM.fr.add f65)
              exact OpVal.draw hF (opFieldAddr rfl fo39_2) ⟨G, fun _ _ h => h, ⟨hC, hB, hg⟩, rfl⟩
            refine dsNone (j := 11) rfl ?_ ?_
            · intro done G w ac_ hd hp hn ⟨hC, hB, hg⟩ hM
              replace hr38 := hr38.mono hg
              have f66 : ac_.tmps[66]? = some (.pointer (some ⟨b35, o36 + k * 35 + 2, none⟩)) := hM.eqv 9 rfl (hp 9 rfl) rfl rfl
              have hF : Fr 105 ac_ (Env.nil.put 66 (.pointer (some ⟨b35, o36 + k * 35 + 2, none⟩))) := (hM.fr.add f66)
              exact OpVal.draw hF (opLoadRow (cs := x33.x.cells) rfl (RowG.range hC.holds (hr38.part (i := 2) (m := 33) (by simp [Mark.cells, Do.cells, Word.cells]))) row28 (by simp [Mark.cells, Do.cells, Word.cells])) ⟨G, fun _ _ h => h, ⟨hC, hB, hg⟩, rfl⟩
            exact dsNil
          · intro done G w ac_ hall htl ⟨hC, hB, hg⟩ hM
            replace hs2 := hs2.mono hg
            replace hl := hl.mono hg
            replace hJms := hJms.mono hg
            replace hJrs := hJrs.mono hg
            replace hr38 := hr38.mono hg
            have f2 : ac_.tmps[2]? = some (.slice (some ⟨b35, o36, none⟩) l.length cap6) := hM.old0 rfl rfl
            have f7 : ac_.tmps[7]? = some (.pointer (some ⟨b22, 0, none⟩)) := hM.old0 rfl rfl
            have f9 : ac_.tmps[9]? = some (.pointer (some ⟨b29, 0, none⟩)) := hM.old0 rfl rfl
            have f10 : ac_.tmps[10]? = some (.int .i64 0) := hM.old0 rfl rfl
            have f11 : ac_.tmps[11]? = some (.int .i64 (((k : Nat) : Int))) := hM.old0 rfl rfl
            have f57 : ac_.tmps[57]? = some (.pointer (some ⟨b22, 0, none⟩)) := hM.eqv 0 rfl (hall 0 rfl) rfl rfl
            have f62 : ac_.tmps[62]? = some (.int .i64 x33.node) := hM.eqv 5 rfl (hall 5 rfl) rfl rfl
            have f67 : ac_.tmps[67]? = some (.agg x33.x.cells.toArray) := hM.eqv 10 rfl (hall 10 rfl) rfl rfl
            refine ⟨((((((((Env.nil.put 2 (.slice (some ⟨b35, o36, none⟩) l.length cap6)).put 7 (.pointer (some ⟨b22, 0, none⟩))).put 9 (.pointer (some ⟨b29, 0, none⟩))).put 10 (.int .i64 0)).put 11 (.int .i64 (((k : Nat) : Int)))).put 57 (.pointer (some ⟨b22, 0, none⟩))).put 62 (.int .i64 x33.node)).put 67 (.agg x33.x.cells.toArray)), ((((((((hM.fr.add f2).add f7).add f9).add f10).add f11).add f57).add f62).add f67), ?_⟩
            clear hM hall htl
            refine wlCallM (A := [(b29, orr), (l30, qr)]) (O := [(b22, om), (l23, qm)]) (B := []) hC hB rfl co12 rfl rfl (vote_ret _ _ hC.holds b22 l23 _ _ ms ⟨hC.heldAt 2 rfl, hC.heldG 2 rfl⟩ ⟨hC.heldAt 3 rfl, hC.heldG 3 rfl⟩ (by have e_ := hC.hnd; simp at e_; omega) hJms x33.node x33.x) ?_; rintro v53 G O54 w hg hC hB ⟨o55, q56, rfl, h57, rfl⟩
            replace hs2 := hs2.mono hg; replace hl := hl.mono hg; replace hJrs := hJrs.mono hg; replace hr38 := hr38.mono hg
            replace hC : Cx w0 G0 G w ⟨[], [(b29, orr), (l30, qr), (b22, o55), (l23, q56)]⟩ := hC
            replace hB : Bxs G w w0.heap.size [(b8, 28, low.cells), (b7, 24, [(.int .i64 c.faults), (.slice A3 c.nodes.length cap4)])] ⟨[], [(b29, orr), (l30, qr), (b22, o55), (l23, q56)]⟩ := hB
            refine wlVal (opAssign rfl) rfl ?_
            refine wlThen ?_
            refine wcDrawT 11 fmix (by kernel_rfl) (by kernel_rfl) (by kernel_rfl) (by kernel_rfl) (vAt [(fun _ v_ => v_ = (.pointer (some ⟨b29, 0, none⟩))), (fun _ v_ => v_ = (.slice (some ⟨b35, o36, none⟩) l.length cap6)), (fun _ v_ => v_ = (.int .i64 (((k : Nat) : Int)))), (fun _ v_ => v_ = (.pointer (some ⟨b35, o36 + k * 35, none⟩))), (fun _ v_ => v_ = (.pointer (some ⟨b35, o36 + k * 35 + 1, none⟩))), (fun _ v_ => v_ = (.int .i64 x33.node)), (fun _ v_ => v_ = (.slice (some ⟨b35, o36, none⟩) l.length cap6)), (fun _ v_ => v_ = (.int .i64 (((k : Nat) : Int)))), (fun _ v_ => v_ = (.pointer (some ⟨b35, o36 + k * 35, none⟩))), (fun _ v_ => v_ = (.pointer (some ⟨b35, o36 + k * 35 + 2, none⟩))), (fun _ v_ => v_ = (.agg x33.x.cells.toArray))]) (fun _ _ G' w => Cx w0 G0 G' w ⟨[], [(b29, orr), (l30, qr), (b22, o55), (l23, q56)]⟩ ∧ Bxs G' w w0.heap.size [(b8, 28, low.cells), (b7, 24, [(.int .i64 c.faults), (.slice A3 c.nodes.length cap4)])] ⟨[], [(b29, orr), (l30, qr), (b22, o55), (l23, q56)]⟩ ∧ GLe G G') G (vAt_mono ⟨fun _ _ _ _ h => h, fun _ _ _ _ h => h, fun _ _ _ _ h => h, fun _ _ _ _ h => h, fun _ _ _ _ h => h, fun _ _ _ _ h => h, fun _ _ _ _ h => h, fun _ _ _ _ h => h, fun _ _ _ _ h => h, fun _ _ _ _ h => h, fun _ _ _ _ h => h, trivial⟩) (fun _ _ => ⟨hC.drew, hB.drew, fun _ _ h => h⟩) ?_ ?_
            · refine dsNone (j := 1) rfl ?_ ?_
              · intro done G w ac_ hd hp hn ⟨hC, hB, hg⟩ hM
                have f9 : ac_.tmps[9]? = some (.pointer (some ⟨b29, 0, none⟩)) := hM.old0 rfl rfl
                have hF : Fr 105 ac_ (Env.nil.put 9 (.pointer (some ⟨b29, 0, none⟩))) := (hM.fr.add f9)
                exact OpVal.draw hF (opMove rfl) ⟨G, fun _ _ h => h, ⟨hC, hB, hg⟩, rfl⟩
              refine dsNone (j := 2) rfl ?_ ?_
              · intro done G w ac_ hd hp hn ⟨hC, hB, hg⟩ hM
                have f2 : ac_.tmps[2]? = some (.slice (some ⟨b35, o36, none⟩) l.length cap6) := hM.old0 rfl rfl
                have hF : Fr 105 ac_ (Env.nil.put 2 (.slice (some ⟨b35, o36, none⟩) l.length cap6)) := (hM.fr.add f2)
                exact OpVal.draw hF (opMove rfl) ⟨G, fun _ _ h => h, ⟨hC, hB, hg⟩, rfl⟩
              refine dsNone (j := 3) rfl ?_ ?_
              · intro done G w ac_ hd hp hn ⟨hC, hB, hg⟩ hM
                have f11 : ac_.tmps[11]? = some (.int .i64 (((k : Nat) : Int))) := hM.old0 rfl rfl
                have hF : Fr 105 ac_ (Env.nil.put 11 (.int .i64 (((k : Nat) : Int)))) := (hM.fr.add f11)
                exact OpVal.draw hF (opMove rfl) ⟨G, fun _ _ h => h, ⟨hC, hB, hg⟩, rfl⟩
              refine dsNone (j := 4) rfl ?_ ?_
              · intro done G w ac_ hd hp hn ⟨hC, hB, hg⟩ hM
                have f70 : ac_.tmps[70]? = some (.slice (some ⟨b35, o36, none⟩) l.length cap6) := hM.eqv 1 rfl (hp 1 rfl) rfl rfl
                have f71 : ac_.tmps[71]? = some (.int .i64 (((k : Nat) : Int))) := hM.eqv 2 rfl (hp 2 rfl) rfl rfl
                have hF : Fr 105 ac_ ((Env.nil.put 70 (.slice (some ⟨b35, o36, none⟩) l.length cap6)).put 71 (.int .i64 (((k : Nat) : Int)))) := ((hM.fr.add f70).add f71)
                exact OpVal.draw hF (opIndexAddr rfl rfl slo29 (of_decide_eq_true h31)) ⟨G, fun _ _ h => h, ⟨hC, hB, hg⟩, rfl⟩
              refine dsNone (j := 5) rfl ?_ ?_
              · intro done G w ac_ hd hp hn ⟨hC, hB, hg⟩ hM
                have f72 : ac_.tmps[72]? = some (.pointer (some ⟨b35, o36 + k * 35, none⟩)) := hM.eqv 3 rfl (hp 3 rfl) rfl rfl
                have hF : Fr 105 ac_ (Env.nil.put 72 (.pointer (some ⟨b35, o36 + k * 35, none⟩))) := (hM.fr.add f72)
                exact OpVal.draw hF (opFieldAddr rfl fo39_1) ⟨G, fun _ _ h => h, ⟨hC, hB, hg⟩, rfl⟩
              refine dsNone (j := 6) rfl ?_ ?_
              · intro done G w ac_ hd hp hn ⟨hC, hB, hg⟩ hM
                replace hr38 := hr38.mono hg
                have f73 : ac_.tmps[73]? = some (.pointer (some ⟨b35, o36 + k * 35 + 1, none⟩)) := hM.eqv 4 rfl (hp 4 rfl) rfl rfl
                have hF : Fr 105 ac_ (Env.nil.put 73 (.pointer (some ⟨b35, o36 + k * 35 + 1, none⟩))) := (hM.fr.add f73)
                exact OpVal.draw hF (opLoadOne (v := (.int .i64 x33.node)) rfl (RowG.cell hC.holds hr38 (j := 1) (by simp [Mark.cells, Do.cells, Word.cells])) one3) ⟨G, fun _ _ h => h, ⟨hC, hB, hg⟩, rfl⟩
              refine dsNone (j := 7) rfl ?_ ?_
              · intro done G w ac_ hd hp hn ⟨hC, hB, hg⟩ hM
                have f2 : ac_.tmps[2]? = some (.slice (some ⟨b35, o36, none⟩) l.length cap6) := hM.old0 rfl rfl
                have hF : Fr 105 ac_ (Env.nil.put 2 (.slice (some ⟨b35, o36, none⟩) l.length cap6)) := (hM.fr.add f2)
                exact OpVal.draw hF (opMove rfl) ⟨G, fun _ _ h => h, ⟨hC, hB, hg⟩, rfl⟩
              refine dsNone (j := 8) rfl ?_ ?_
              · intro done G w ac_ hd hp hn ⟨hC, hB, hg⟩ hM
                have f11 : ac_.tmps[11]? = some (.int .i64 (((k : Nat) : Int))) := hM.old0 rfl rfl
                have hF : Fr 105 ac_ (Env.nil.put 11 (.int .i64 (((k : Nat) : Int)))) := (hM.fr.add f11)
                exact OpVal.draw hF (opMove rfl) ⟨G, fun _ _ h => h, ⟨hC, hB, hg⟩, rfl⟩
              refine dsNone (j := 9) rfl ?_ ?_
              · intro done G w ac_ hd hp hn ⟨hC, hB, hg⟩ hM
                have f75 : ac_.tmps[75]? = some (.slice (some ⟨b35, o36, none⟩) l.length cap6) := hM.eqv 6 rfl (hp 6 rfl) rfl rfl
                have f76 : ac_.tmps[76]? = some (.int .i64 (((k : Nat) : Int))) := hM.eqv 7 rfl (hp 7 rfl) rfl rfl
                have hF : Fr 105 ac_ ((Env.nil.put 75 (.slice (some ⟨b35, o36, none⟩) l.length cap6)).put 76 (.int .i64 (((k : Nat) : Int)))) := ((hM.fr.add f75).add f76)
                exact OpVal.draw hF (opIndexAddr rfl rfl slo29 (of_decide_eq_true h31)) ⟨G, fun _ _ h => h, ⟨hC, hB, hg⟩, rfl⟩
              refine dsNone (j := 10) rfl ?_ ?_
              · intro done G w ac_ hd hp hn ⟨hC, hB, hg⟩ hM
                have f77 : ac_.tmps[77]? = some (.pointer (some ⟨b35, o36 + k * 35, none⟩)) := hM.eqv 8 rfl (hp 8 rfl) rfl rfl
                have hF : Fr 105 ac_ (Env.nil.put 77 (.pointer (some ⟨b35, o36 + k * 35, none⟩))) := (hM.fr.add f77)
                exact OpVal.draw hF (opFieldAddr rfl fo39_2) ⟨G, fun _ _ h => h, ⟨hC, hB, hg⟩, rfl⟩
              refine dsNone (j := 11) rfl ?_ ?_
              · intro done G w ac_ hd hp hn ⟨hC, hB, hg⟩ hM
                replace hr38 := hr38.mono hg
                have f78 : ac_.tmps[78]? = some (.pointer (some ⟨b35, o36 + k * 35 + 2, none⟩)) := hM.eqv 9 rfl (hp 9 rfl) rfl rfl
                have hF : Fr 105 ac_ (Env.nil.put 78 (.pointer (some ⟨b35, o36 + k * 35 + 2, none⟩))) := (hM.fr.add f78)
                exact OpVal.draw hF (opLoadRow (cs := x33.x.cells) rfl (RowG.range hC.holds (hr38.part (i := 2) (m := 33) (by simp [Mark.cells, Do.cells, Word.cells]))) row28 (by simp [Mark.cells, Do.cells, Word.cells])) ⟨G, fun _ _ h => h, ⟨hC, hB, hg⟩, rfl⟩
              exact dsNil
            · intro done G w ac_ hall htl ⟨hC, hB, hg⟩ hM
              replace hs2 := hs2.mono hg
              replace hl := hl.mono hg
              replace hJrs := hJrs.mono hg
              replace hr38 := hr38.mono hg
              replace h57 := h57.mono hg
              have f2 : ac_.tmps[2]? = some (.slice (some ⟨b35, o36, none⟩) l.length cap6) := hM.old0 rfl rfl
              have f7 : ac_.tmps[7]? = some (.pointer (some ⟨b22, 0, none⟩)) := hM.old0 rfl rfl
              have f9 : ac_.tmps[9]? = some (.pointer (some ⟨b29, 0, none⟩)) := hM.old0 rfl rfl
              have f10 : ac_.tmps[10]? = some (.int .i64 0) := hM.old0 rfl rfl
              have f11 : ac_.tmps[11]? = some (.int .i64 (((k : Nat) : Int))) := hM.old0 rfl rfl
              have f12 : ac_.tmps[12]? = some (.int .i64 (((voteM ms x33.node x33.x).2))) := hM.old0 rfl rfl
              have f69 : ac_.tmps[69]? = some (.pointer (some ⟨b29, 0, none⟩)) := hM.eqv 0 rfl (hall 0 rfl) rfl rfl
              have f74 : ac_.tmps[74]? = some (.int .i64 x33.node) := hM.eqv 5 rfl (hall 5 rfl) rfl rfl
              have f79 : ac_.tmps[79]? = some (.agg x33.x.cells.toArray) := hM.eqv 10 rfl (hall 10 rfl) rfl rfl
              refine ⟨(((((((((Env.nil.put 2 (.slice (some ⟨b35, o36, none⟩) l.length cap6)).put 7 (.pointer (some ⟨b22, 0, none⟩))).put 9 (.pointer (some ⟨b29, 0, none⟩))).put 10 (.int .i64 0)).put 11 (.int .i64 (((k : Nat) : Int)))).put 12 (.int .i64 (((voteM ms x33.node x33.x).2)))).put 69 (.pointer (some ⟨b29, 0, none⟩))).put 74 (.int .i64 x33.node)).put 79 (.agg x33.x.cells.toArray)), (((((((((hM.fr.add f2).add f7).add f9).add f10).add f11).add f12).add f69).add f74).add f79), ?_⟩
              clear hM hall htl
              refine wlCallM (A := []) (O := [(b29, orr), (l30, qr)]) (B := [(b22, o55), (l23, q56)]) hC hB rfl co13 rfl rfl (rvote_ret _ _ hC.holds b29 l30 _ _ rs ⟨hC.heldAt 0 rfl, hC.heldG 0 rfl⟩ ⟨hC.heldAt 1 rfl, hC.heldG 1 rfl⟩ (by have e_ := hC.hnd; simp at e_; omega) hJrs x33.node x33.x) ?_; rintro v58 G O59 w hg hC hB ⟨o60, q61, rfl, h62, rfl⟩
              replace hs2 := hs2.mono hg; replace hl := hl.mono hg; replace hr38 := hr38.mono hg; replace h57 := h57.mono hg
              replace hC : Cx w0 G0 G w ⟨[], [(b29, o60), (l30, q61), (b22, o55), (l23, q56)]⟩ := hC
              replace hB : Bxs G w w0.heap.size [(b8, 28, low.cells), (b7, 24, [(.int .i64 c.faults), (.slice A3 c.nodes.length cap4)])] ⟨[], [(b29, o60), (l30, q61), (b22, o55), (l23, q56)]⟩ := hB
              refine wlVal (opAssign rfl) rfl ?_
              refine wlThen ?_
              refine wcSeq ?_
              refine wcRegion ?_
              refine wlVal (opMove rfl) rfl ?_
              refine wlVal (opMove rfl) rfl ?_
              refine wlVal (opNeq rfl rfl) rfl ?_
              refine wlVal (opMove rfl) rfl ?_
              cases h63 : (((voteM ms x33.node x33.x).2)) != (((rvoteM rs x33.node x33.x).2))
              · skip
                refine wlOn rfl rfl ?_
                refine wlVal (opMove rfl) rfl ?_
                refine wlOn rfl rfl ?_
                refine wlVal (opMove rfl) rfl ?_
                refine wlOn rfl rfl ?_
                refine wlCallS hC hB rfl co16 rfl rfl (RetS.lend hC (fun G_ hg_ hh_ hL_ => tells_ret _ _ hh_ b22 l23 _ _ (((voteM ms x33.node x33.x).1)) (hL_ (b22, o55) (by simp)) (hL_ (l23, q56) (by simp)) (show MarksO G_ o55 q56 l23 (((voteM ms x33.node x33.x).1)) from (h57.mono hg_)) b29 l30 _ _ (((rvoteM rs x33.node x33.x).1)) (hL_ (b29, o60) (by simp)) (hL_ (l30, q61) (by simp)) (show RMarksO G_ o60 q61 l30 (((rvoteM rs x33.node x33.x).1)) from (h62.mono hg_)) (by first | exact (vote_rel hR _ _).2 | exact (raise_rel hR _).2))) ?_; intro w hk hC hB
                refine wlOn rfl rfl ?_
                refine wlVal (opNot rfl) rfl ?_
                refine wlVal (opPickF rfl rfl) rfl ?_
                refine wlThen ?_
                refine wcCondF rfl ?_
                refine wcSkip ?_
                refine wcOf ?_
                refine wcRegion ?_
                refine wlVal (opMove rfl) rfl ?_
                refine wlVal (opIncr rfl rfl (incr_ok (of_decide_eq_true h31) hl.le)) rfl ?_
                refine wlVal (opAssign rfl) rfl ?_
                refine wlRound ?_
                exact (IH0 (k + 1, o55, q56, ((voteM ms x33.node x33.x).1), o60, q61, ((rvoteM rs x33.node x33.x).1)) _ _ ⟨hC, hB, hs2, hl, h57, h62, (by first | exact (vote_rel hR _ _).2 | exact (raise_rel hR _).2)⟩ (by have := of_decide_eq_true h31; show l.length - (k + 1) < l.length - k; omega)).sub (fun _ ha => (((((ha.start.cons ha (t := 2) rfl).cons ha (t := 7) rfl).cons ha (t := 9) rfl).cons ha (t := 10) rfl).cons ha (t := 11) rfl))
              · skip
                exact absurd h63 (by rw [(vote_rel hR _ _).1]; simp)

end Go.Proofs.Ytbmanooiphghmaa
