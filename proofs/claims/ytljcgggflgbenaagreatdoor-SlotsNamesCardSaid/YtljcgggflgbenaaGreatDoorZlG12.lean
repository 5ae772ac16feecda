/- What functions of the slots seat return, part 12. No condition. -/
import Derived.Test.YtljcgggflgbenaaGreatDoorZlG11
import Derived.Test.YtljcgggflgbenaaGreatDoorZlLaw3
set_option linter.all false
namespace Go.Proofs.YtljcgggflgbenaaGreatDoor
open Go Go.Gx Go.RowKit
def selfI (c : Crew) : Int := bif decide (0 < c.nodes.length) then c.nodes.getD 0 0 else 2
theorem selfI_at {c : Crew} {x : Int} (h : c.nodes[0]? = some x) : selfI c = x := by
  have : decide (0 < c.nodes.length) = true := decide_eq_true (List.getElem?_eq_some_iff.1 h).1
  unfold selfI; rw [this, List.getD_eq_getElem?_getD, h]; rfl
theorem selfI_no {c : Crew} (h : decide (0 < ((c.nodes.length : Nat) : Int)) = false) : selfI c = 2 := by
  have h := of_decide_eq_false h
  have : decide (0 < c.nodes.length) = false := decide_eq_false (by omega)
  unfold selfI; rw [this]; rfl
theorem errR_ne (c : Crew) (self : Int) : (errR c self != 0) = true := by
  unfold errR; cases check c != 0 || !rhasB c self <;> rfl
theorem DoOk.take {d : Do} {a b : Nat} (h : DoOk d) : DoOk (Do.mk d.kind d.node d.view d.seq d.dig (d.pp.take a) (d.qq.take b)) :=
  ⟨h.1, fun x hx => h.2.1 x (List.mem_of_mem_take hx), fun x hx => h.2.2 x (List.mem_of_mem_take hx)⟩
theorem co6 : callOk Tryz.prog 6 = true := by kernel_rfl
theorem co7 : callOk Tryz.prog 7 = true := by kernel_rfl
theorem so35 : structOk Tryz.prog 35 [(0, 1), (1, 1)] = true := by kernel_rfl
theorem zero35 : (Tryz.prog.info? 35).bind (fun i => i.zero.map Value.cells) = some ([(.pointer none), (.pointer none)] : List Value).toArray := by kernel_rfl
theorem sz35 : (Tryz.prog.info? 35).map (·.size) = some 2 := by kernel_rfl
theorem isl25 : isSlice Tryz.prog 25 = true := by kernel_rfl
theorem slo25 : sliceOk Tryz.prog 25 40 38 = true := by kernel_rfl
theorem row40 : rowOk Tryz.prog 40 38 = true := by kernel_rfl
theorem zero40 : (Tryz.prog.info? 40).bind (fun i => i.zero.map Value.cells) = some (((.int .i64 0) :: ((.int .i64 0) :: ((.int .i64 0) :: ((.int .i64 0) :: (Dig.zero.cells ++ ((.slice none 0 0) :: ((.slice none 0 0) :: []))))))) : List Value).toArray := by kernel_rfl
theorem sz40 : (Tryz.prog.info? 40).map (·.size) = some 38 := by kernel_rfl
theorem row35 : rowOk Tryz.prog 35 2 = true := by kernel_rfl
theorem co8 : callOk Tryz.prog 8 = true := by kernel_rfl
theorem co9 : callOk Tryz.prog 9 = true := by kernel_rfl
theorem new_no (G0 : Gh) (w0 : World) (hw : Holds G0 w0) (csc : List Value) (c : Crew) (hc : Rp.Is G0 csc c) (self : Int) (low : Int) (hno : newOk c self low = false) :
  RetG Tryz.prog 5 #[.agg csc.toArray, .int .i64 self, .int .i64 low] G0 w0 (fun G v => v = .tuple #[.pointer none, .int .i64 (errI c self)]) := by
 have hC := Cx.refl hw
 have hB : Bxs G0 w0 w0.heap.size [] := Bxs.nil _ _ _
 obtain ⟨v1, rfl, hs2⟩ := Crew.opIs hc
 obtain ⟨A3, cap4, rfl⟩ := hs2.form
 refine callsOf Tryz.func5 rfl _ Tryz.ntmps5 rfl _ (argsCons (argsCons (argsCons argsNil (t := 0) rfl) (t := 1) rfl) (t := 2) rfl) ?_; intro Q0 hQ
 refine wcSeq <| wcRegion ?_
 refine wlBox (cs := [(.int .i64 c.faults), (.slice A3 c.nodes.length cap4)]) hC hB rfl rfl rfl ?_; intro b5 w hk hC hB
 refine A_ rfl <| A_ rfl <| wlThen <| wcSeq ?_
 refine wcBlock (wcSeq (wcRegion ?_))
 refine V_ (opLoadRow (cs := [(.int .i64 c.faults), (.slice A3 c.nodes.length cap4)]) rfl (hB.range (i := 0) (m := 2) rfl rfl) row24 rfl) ?_
 refine wlCallS hC hB rfl co23 rfl rfl (check_ret _ _ hC.holds _ c (Crew.mkIs (x := c) hs2)) ?_; intro w hk hC hB
 refine V_ (opNeq rfl rfl) <| M_ rfl ?_
 cases h6 : ((check c)) != 0
 ·
  refine wlOn rfl rfl <| V_ (opLoadRow (cs := [(.int .i64 c.faults), (.slice A3 c.nodes.length cap4)]) rfl (hB.range (i := 0) (m := 2) rfl rfl) row24 rfl) <| wlOn rfl rfl <| M_ rfl <| wlOn rfl rfl ?_
  refine wlCallS hC hB rfl co24 rfl rfl (has_ret _ _ hC.holds _ c (Crew.mkIs (x := c) hs2) self) ?_; intro w hk hC hB
  refine wlOn rfl rfl <| V_ (opNot rfl) <| V_ (opPickF rfl rfl) <| A_ rfl <| wlThen ?_
  cases h7 : (has c self)
  ·
   refine wcCondT rfl <| wcSeq <| wcRegion <| A_ rfl <| A_ rfl <| wlThen <| wcRet ?_
   exact r2_ hQ rfl rfl rfl (endG hC (by simp only [errI, h6, h7, ta_]))
  ·
   refine wcCondF rfl <| wcSeq <| wcRegion <| M_ rfl ?_
   refine wlCallS hC hB rfl co25 rfl rfl (lowMay_ret _ _ hC.holds low) ?_; intro w hk hC hB
   refine V_ (opNot rfl) <| A_ rfl <| wlThen ?_
   cases h8 : (lowB low)
   ·
    refine wcCondT rfl <| wcSeq <| wcRegion <| A_ rfl <| A_ rfl <| wlThen <| wcRet ?_
    exact r2_ hQ rfl rfl rfl (endG hC (by simp only [errI, h6, h7, h8, ta_]))
   ·
    exact (absurd hno (by simp [newOk, h6, h7, h8]; done) : False).elim
 ·
  refine wlOff rfl rfl rfl rfl <| wlOff rfl rfl rfl rfl <| wlOff rfl rfl rfl rfl <| wlOff rfl rfl rfl rfl <| V_ (opPickT rfl rfl) <| A_ rfl <| wlThen <| wcCondT rfl <| wcSeq <| wcRegion <| A_ rfl <| A_ rfl <| wlThen <| wcRet ?_
  exact r2_ hQ rfl rfl rfl (endG hC (by simp only [errI, h6, ta_]))

theorem rnew_no (G0 : Gh) (w0 : World) (hw : Holds G0 w0) (csc : List Value) (c : Crew) (hc : Rp.Is G0 csc c) (self : Int) (low : Int) (hno : newOkR c self low = false) :
  RetG Tryz.prog 6 #[.agg csc.toArray, .int .i64 self, .int .i64 low] G0 w0 (fun G v => v = .tuple #[.pointer none, .int .i64 (errR c self)]) := by
 have hC := Cx.refl hw
 have hB : Bxs G0 w0 w0.heap.size [] := Bxs.nil _ _ _
 obtain ⟨v1, rfl, hs2⟩ := Crew.opIs hc
 obtain ⟨A3, cap4, rfl⟩ := hs2.form
 refine callsOf Tryz.func6 rfl _ Tryz.ntmps6 rfl _ (argsCons (argsCons (argsCons argsNil (t := 0) rfl) (t := 1) rfl) (t := 2) rfl) ?_; intro Q0 hQ
 refine wcSeq <| wcRegion ?_
 refine wlBox (cs := [(.int .i64 c.faults), (.slice A3 c.nodes.length cap4)]) hC hB rfl rfl rfl ?_; intro b5 w hk hC hB
 refine A_ rfl <| A_ rfl ?_
 refine wlThen (wcSeq (wcSeq (wcRegion ?_)))
 refine V_ (opLoadRow (cs := [(.int .i64 c.faults), (.slice A3 c.nodes.length cap4)]) rfl (hB.range (i := 0) (m := 2) rfl rfl) row24 rfl) ?_
 refine wlCallS hC hB rfl co28 rfl rfl (rcheck_ret _ _ hC.holds _ c (Crew.mkIs (x := c) hs2)) ?_; intro w hk hC hB
 refine V_ (opNeq rfl rfl) <| M_ rfl ?_
 cases h6 : ((check c)) != 0
 ·
  refine wlOn rfl rfl <| V_ (opLoadRow (cs := [(.int .i64 c.faults), (.slice A3 c.nodes.length cap4)]) rfl (hB.range (i := 0) (m := 2) rfl rfl) row24 rfl) <| wlOn rfl rfl <| M_ rfl <| wlOn rfl rfl ?_
  refine wlCallS hC hB rfl co29 rfl rfl (rhas_ret _ _ hC.holds _ c (Crew.mkIs (x := c) hs2) self) ?_; intro w hk hC hB
  refine wlOn rfl rfl <| V_ (opNot rfl) <| V_ (opPickF rfl rfl) <| wlThen ?_
  cases h7 : (rhasB c self)
  ·
   refine wcCondT rfl <| wcSeq <| wcRegion <| A_ rfl <| A_ rfl <| wlThen <| wcRet ?_
   exact r2_ hQ rfl rfl rfl (endG hC (by simp only [errR, h6, h7, ta_]))
  ·
   refine wcCondF rfl <| wcSkip <| wcOf ?_
   refine wcSeq (wcSeq (wcRegion ?_))
   refine M_ rfl ?_
   refine wlCallS hC hB rfl co30 rfl rfl (rlowMay_ret _ _ hC.holds low) ?_; intro w hk hC hB
   refine V_ (opNot rfl) <| wlThen ?_
   cases h8 : (lowB low)
   ·
    refine wcCondT rfl <| wcSeq <| wcRegion <| A_ rfl <| A_ rfl <| wlThen <| wcRet ?_
    exact r2_ hQ rfl rfl rfl (endG hC (by simp only [errR, h6, h7, h8, ta_]))
   ·
    exact (absurd hno (by have q : check c = 0 := (by simpa using h6); simp [newOkR, q, h7, h8]; done) : False).elim
 ·
  refine wlOff rfl rfl rfl rfl <| wlOff rfl rfl rfl rfl <| wlOff rfl rfl rfl rfl <| wlOff rfl rfl rfl rfl <| V_ (opPickT rfl rfl) <| wlThen <| wcCondT rfl <| wcSeq <| wcRegion <| A_ rfl <| A_ rfl <| wlThen <| wcRet ?_
  exact r2_ hQ rfl rfl rfl (endG hC (by simp only [errR, h6, ta_]))

set_option maxRecDepth 8000 in
theorem playsN_ret (G0 : Gh) (w0 : World) (hw : Holds G0 w0) (csc : List Value) (c : Crew) (hc : Rp.Is G0 csc c) (low : Int) (vl : Value) (l : List Do) (hl : Sl G0 vl l) (hsil : RowG G0 0 0 silence.cells) (hself : newOk c (selfI c) low = false) (hdo : ∀ d ∈ l, DoOk d) :
  RetS Tryz.prog 3 #[.agg csc.toArray, .int .i64 low, vl] G0 w0 (.bool true) := by
 have hC := Cx.refl hw
 have hB : Bxs G0 w0 w0.heap.size [] := Bxs.nil _ _ _
 obtain ⟨v1, rfl, hs2⟩ := Crew.opIs hc
 obtain ⟨A3, cap4, rfl⟩ := hs2.form
 obtain ⟨A5, cap6, rfl⟩ := hl.form
 refine callsOf Tryz.func3 rfl _ Tryz.ntmps3 rfl _ (argsCons (argsCons (argsCons argsNil (t := 0) rfl) (t := 1) rfl) (t := 2) rfl) ?_; intro Q0 hQ
 refine wcSeq <| wcRegion ?_
 refine wlBox (cs := [(.int .i64 c.faults), (.slice A3 c.nodes.length cap4)]) hC hB rfl rfl rfl ?_; intro b7 w hk hC hB
 refine A_ rfl ?_
 refine wlThen (wcSeq (wcRegion ?_))
 refine A_ rfl ?_
 refine wlThen (wcSeq (wcSeq (wcRegion ?_)))
 refine V_ (opFieldAddr rfl fo24_1) <| V_ (opLoadOne (v := (.slice A3 c.nodes.length cap4)) rfl (hB.cell (i := 0) rfl rfl) one22) <| V_ (opLen rfl isl22) <| V_ (opGtr rfl rfl) <| wlThen ?_
 cases h8 : decide (0 < ((c.nodes.length : Nat) : Int))
 ·
  refine wcCondF rfl <| wcSkip <| wcOf <| wcSeq <| wcRegion <| V_ (opLoadRow (cs := [(.int .i64 c.faults), (.slice A3 c.nodes.length cap4)]) rfl (hB.range (i := 0) (m := 2) rfl rfl) row24 rfl) <| M_ rfl <| M_ rfl ?_
  refine wlCallG hC hB rfl co5 rfl rfl (new_no _ _ hC.holds _ c (Crew.mkIs (x := c) hs2) 2 low (show newOk c 2 low = false from by rw [← (selfI_no h8)]; exact hself)) ?_; rintro v9 G w hk hC hB rfl
  replace hs2 := hs2.mono hk.gle
  replace hsil := hsil.mono hk.gle
  refine M_ rfl <| V_ (opExtract rfl rfl) <| V_ (opExtract rfl rfl) <| A_ rfl <| A_ rfl ?_
  refine wlThen (wcSeq (wcRegion ?_))
  refine V_ (opLoadRow (cs := [(.int .i64 c.faults), (.slice A3 c.nodes.length cap4)]) rfl (hB.range (i := 0) (m := 2) rfl rfl) row24 rfl) <| M_ rfl <| M_ rfl ?_
  refine wlCallG hC hB rfl co6 rfl rfl (rnew_no _ _ hC.holds _ c (Crew.mkIs (x := c) hs2) 2 low (newOk_N (show newOk c 2 low = false from by rw [← (selfI_no h8)]; exact hself))) ?_; rintro v10 G w hk hC hB rfl
  replace hs2 := hs2.mono hk.gle
  replace hsil := hsil.mono hk.gle
  refine M_ rfl <| V_ (opExtract rfl rfl) <| V_ (opExtract rfl rfl) <| A_ rfl <| A_ rfl ?_
  refine wlThen (wcSeq (wcSeq (wcRegion ?_)))
  refine M_ rfl <| M_ rfl <| V_ (opNeq rfl rfl) <| M_ rfl ?_
  cases h11 : ((errI c 2)) != ((errR c 2))
  ·
   refine wlOn rfl rfl <| M_ rfl <| wlOn rfl rfl <| V_ (OpVal.cast (v' := .bool true) (opPtrNil ip26 rfl rfl) rfl) <| wlOn rfl rfl <| M_ rfl <| wlOn rfl rfl <| V_ (opNeq rfl rfl) <| wlOn rfl rfl <| V_ (opNeBool ub4 rfl rfl) <| V_ (opPickF rfl rfl) <| wlThen ?_
   cases h12 : true != (((errR c 2)) != 0)
   ·
    refine wcCondF rfl <| wcSkip <| wcOf ?_
    refine wcSeq (wcSeq (wcRegion ?_))
    refine M_ rfl <| V_ (opNeq rfl rfl) <| wlThen ?_
    cases h13 : ((errR c 2)) != 0
    ·
     exact absurd h13 (by rw [errR_ne]; decide)
    ·
     refine wcCondT rfl <| wcSeq <| wcRegion ?_
     refine wlCallS hC hB rfl co7 rfl rfl (awake_ret _ _ hC.holds hsil) ?_; intro w hk hC hB
     refine A_ rfl <| wlThen <| wcRet ?_
     exact r1_ hQ rfl rfl (endS hC hw rfl)
   ·
    exact absurd h12 (by rw [errR_ne]; simp)
  ·
   exact absurd h11 (by rw [sim_err]; simp)
 ·
  refine wcCondT rfl <| wcRegion <| V_ (opFieldAddr rfl fo24_1) <| V_ (opLoadOne (v := (.slice A3 c.nodes.length cap4)) rfl (hB.cell (i := 0) rfl rfl) one22) ?_
  obtain ⟨x14, hx15⟩ : ∃ y_, c.nodes[0]? = some y_ := ⟨_, List.getElem?_eq_getElem (Int.ofNat_lt.1 (of_decide_eq_true h8))⟩
  obtain ⟨b16, o17, row18, hA21, hr19, hi20⟩ := hs2.elem hx15; subst hA21
  obtain rfl := hi20
  refine V_ (opIndexAddr rfl rfl slo22 (Int.ofNat_lt.1 (of_decide_eq_true h8))) <| V_ (opLoadOne (v := (.int .i64 x14)) rfl (RowG.cell0 hC.holds hr19 rfl) one3) <| A_ rfl ?_
  refine wlThen (wcSeq (wcRegion ?_))
  refine V_ (opLoadRow (cs := [(.int .i64 c.faults), (.slice (some ⟨b16, o17, none⟩) c.nodes.length cap4)]) rfl (hB.range (i := 0) (m := 2) rfl rfl) row24 rfl) <| M_ rfl <| M_ rfl ?_
  refine wlCallG hC hB rfl co5 rfl rfl (new_no _ _ hC.holds _ c (Crew.mkIs (x := c) hs2) x14 low (show newOk c x14 low = false from by rw [← (selfI_at hx15)]; exact hself)) ?_; rintro v22 G w hk hC hB rfl
  replace hs2 := hs2.mono hk.gle
  replace hsil := hsil.mono hk.gle
  refine M_ rfl <| V_ (opExtract rfl rfl) <| V_ (opExtract rfl rfl) <| A_ rfl <| A_ rfl ?_
  refine wlThen (wcSeq (wcRegion ?_))
  refine V_ (opLoadRow (cs := [(.int .i64 c.faults), (.slice (some ⟨b16, o17, none⟩) c.nodes.length cap4)]) rfl (hB.range (i := 0) (m := 2) rfl rfl) row24 rfl) <| M_ rfl <| M_ rfl ?_
  refine wlCallG hC hB rfl co6 rfl rfl (rnew_no _ _ hC.holds _ c (Crew.mkIs (x := c) hs2) x14 low (newOk_N (show newOk c x14 low = false from by rw [← (selfI_at hx15)]; exact hself))) ?_; rintro v23 G w hk hC hB rfl
  replace hsil := hsil.mono hk.gle
  refine M_ rfl <| V_ (opExtract rfl rfl) <| V_ (opExtract rfl rfl) <| A_ rfl <| A_ rfl ?_
  refine wlThen (wcSeq (wcSeq (wcRegion ?_)))
  refine M_ rfl <| M_ rfl <| V_ (opNeq rfl rfl) <| M_ rfl ?_
  cases h24 : ((errI c x14)) != ((errR c x14))
  ·
   refine wlOn rfl rfl <| M_ rfl <| wlOn rfl rfl <| V_ (OpVal.cast (v' := .bool true) (opPtrNil ip26 rfl rfl) rfl) <| wlOn rfl rfl <| M_ rfl <| wlOn rfl rfl <| V_ (opNeq rfl rfl) <| wlOn rfl rfl <| V_ (opNeBool ub4 rfl rfl) <| V_ (opPickF rfl rfl) <| wlThen ?_
   cases h25 : true != (((errR c x14)) != 0)
   ·
    refine wcCondF rfl <| wcSkip <| wcOf ?_
    refine wcSeq (wcSeq (wcRegion ?_))
    refine M_ rfl <| V_ (opNeq rfl rfl) <| wlThen ?_
    cases h26 : ((errR c x14)) != 0
    ·
     exact absurd h26 (by rw [errR_ne]; decide)
    ·
     refine wcCondT rfl <| wcSeq <| wcRegion ?_
     refine wlCallS hC hB rfl co7 rfl rfl (awake_ret _ _ hC.holds hsil) ?_; intro w hk hC hB
     refine A_ rfl <| wlThen <| wcRet ?_
     exact r1_ hQ rfl rfl (endS hC hw rfl)
   ·
    exact absurd h25 (by rw [errR_ne]; simp)
  ·
   exact absurd h24 (by rw [sim_err]; simp)

set_option maxRecDepth 8000 in
theorem playsY_ret (G0 : Gh) (w0 : World) (hw : Holds G0 w0) (csc : List Value) (c : Crew) (hc : Rp.Is G0 csc c) (low : Int) (vl : Value) (l : List Do) (hl : Sl G0 vl l) (hsil : RowG G0 0 0 silence.cells) (hself : newOk c (selfI c) low = true) (hdo : ∀ d ∈ l, DoOk d) :
  RetS Tryz.prog 3 #[.agg csc.toArray, .int .i64 low, vl] G0 w0 (.bool true) := by
 have hC := Cx.refl hw
 have hB : Bxs G0 w0 w0.heap.size [] := Bxs.nil _ _ _
 obtain ⟨v1, rfl, hs2⟩ := Crew.opIs hc
 obtain ⟨A3, cap4, rfl⟩ := hs2.form
 obtain ⟨A5, cap6, rfl⟩ := hl.form
 refine callsOf Tryz.func3 rfl _ Tryz.ntmps3 rfl _ (argsCons (argsCons (argsCons argsNil (t := 0) rfl) (t := 1) rfl) (t := 2) rfl) ?_; intro Q0 hQ
 refine wcSeq <| wcRegion ?_
 refine wlBox (cs := [(.int .i64 c.faults), (.slice A3 c.nodes.length cap4)]) hC hB rfl rfl rfl ?_; intro b7 w hk hC hB
 refine A_ rfl ?_
 refine wlThen (wcSeq (wcRegion ?_))
 refine A_ rfl ?_
 refine wlThen (wcSeq (wcSeq (wcRegion ?_)))
 refine V_ (opFieldAddr rfl fo24_1) <| V_ (opLoadOne (v := (.slice A3 c.nodes.length cap4)) rfl (hB.cell (i := 0) rfl rfl) one22) <| V_ (opLen rfl isl22) <| V_ (opGtr rfl rfl) <| wlThen ?_
 cases h8 : decide (0 < ((c.nodes.length : Nat) : Int))
 ·
  refine wcCondF rfl <| wcSkip <| wcOf <| wcSeq <| wcRegion <| V_ (opLoadRow (cs := [(.int .i64 c.faults), (.slice A3 c.nodes.length cap4)]) rfl (hB.range (i := 0) (m := 2) rfl rfl) row24 rfl) <| M_ rfl <| M_ rfl ?_
  refine wlCallNew hC hB rfl co5 rfl rfl (new_ok _ _ hC.holds _ c (Crew.mkIs (x := c) hs2) 2 low hsil (show newOk c 2 low = true from by rw [← (selfI_no h8)]; exact hself)) ?_; rintro v9 G O10 w hg hC hB ⟨b11, rfl, hs12⟩
  replace hs2 := hs2.mono hg; replace hl := hl.mono hg
  replace hsil := hsil.mono hg
  have hok13 : SlOk ((newSl c low)) := (newOk_ok (show newOk c 2 low = true from by rw [← (selfI_no h8)]; exact hself))
  refine M_ rfl <| V_ (opExtract rfl rfl) <| V_ (opExtract rfl rfl) <| A_ rfl <| A_ rfl ?_
  refine wlThen (wcSeq (wcRegion ?_))
  refine V_ (opLoadRow (cs := [(.int .i64 c.faults), (.slice A3 c.nodes.length cap4)]) rfl (hB.range (i := 0) (m := 2) rfl rfl) row24 rfl) <| M_ rfl <| M_ rfl ?_
  refine wlCallNew (B := (O10 ++ [])) hC hB rfl co6 rfl rfl (rnew_ok _ _ hC.holds _ c (Crew.mkIs (x := c) hs2) 2 low (newOk_R (show newOk c 2 low = true from by rw [← (selfI_no h8)]; exact hself))) ?_; rintro v14 G O15 w hg hC hB ⟨b16, rfl, hs17⟩
  replace hs2 := hs2.mono hg; replace hl := hl.mono hg; replace hs12 := hs12.mono hg
  replace hsil := hsil.mono hg
  obtain ⟨v18, lb19, so20, cp21, lc22, R23, H24, hN25⟩ := hs17.names
  have hn26 := hN25.n
  obtain ⟨A27, cap28, rfl⟩ := hn26.form
  refine M_ rfl <| V_ (opExtract rfl rfl) <| V_ (opExtract rfl rfl) <| A_ rfl <| A_ rfl ?_
  refine wlThen (wcSeq (wcSeq (wcRegion ?_)))
  refine M_ rfl <| M_ rfl <| V_ (opNeq rfl rfl) <| M_ rfl <| wlOn rfl rfl <| M_ rfl <| wlOn rfl rfl <| V_ (OpVal.cast (v' := .bool false) (opPtrNil ip26 rfl rfl) rfl) <| wlOn rfl rfl <| M_ rfl <| wlOn rfl rfl <| V_ (opNeq rfl rfl) <| wlOn rfl rfl <| V_ (opNeBool ub4 rfl rfl) <| V_ (opPickF rfl rfl) <| wlThen <| wcCondF rfl <| wcSkip <| wcOf ?_
  refine wcSeq (wcSeq (wcRegion ?_))
  refine M_ rfl <| V_ (opNeq rfl rfl) <| wlThen <| wcCondF rfl <| wcSkip <| wcOf <| wcSeq <| wcRegion <| M_ rfl <| M_ rfl <| V_ (B_ (ps := [(0, .tmp 50), (1, .tmp 51)]) (cs := [(.pointer (some ⟨b11, 0, none⟩)), (.pointer (some ⟨b16, 0, none⟩))]) so35 zero35 rfl rfl) ?_
  refine wlAlloc hC hB zero35 rfl ?_; intro b29 w hk hC hB
  refine wlStore 0 (vs := [(.pointer (some ⟨b11, 0, none⟩)), (.pointer (some ⟨b16, 0, none⟩))]) (cs := [(.pointer none), (.pointer none)]) (cs' := [(.pointer (some ⟨b11, 0, none⟩)), (.pointer (some ⟨b16, 0, none⟩))]) hC hB rfl rfl rfl sz35 rfl rfl rfl (by simp [cl_]) rfl rfl ?_; intro w hC hB
  refine wlThen (wcSeq (wcSeq (wcRegion ?_)))
  refine A_ rfl <| wlThen <| wcBlock ?_
  replace hC := hC.permH (List.perm_append_comm_assoc O15 O10 [])
  replace hB := hB.permH (List.perm_append_comm_assoc O15 O10 [])
  refine WC.sub (wrInd (ι := Nat × (List (Nat × Obj)) × SlS × (List (Nat × Obj)) × RfS) (fun i => match i with | (k, Oa, sa, Ob, ra) => l.length - k) (fun i G w => match i with | (k, Oa, sa, Ob, ra) => Cx w0 G0 G w ⟨[], (Oa ++ (Ob ++ []))⟩ ∧ Bxs G w w0.heap.size [(b29, 35, [(.pointer (some ⟨b11, 0, none⟩)), (.pointer (some ⟨b16, 0, none⟩))]), (b7, 24, [(.int .i64 c.faults), (.slice A3 c.nodes.length cap4)])] ⟨[], (Oa ++ (Ob ++ []))⟩ ∧ Sl G (.slice A3 c.nodes.length cap4) c.nodes ∧ Sl G (.slice A5 l.length cap6) l ∧ Sl G (.slice A27 (((newR c 2 low).crew.nodes).length) cap28) ((newR c 2 low).crew.nodes) ∧ RowG G 0 0 silence.cells ∧ SlO G b11 Oa sa ∧ RfO G b16 Ob ra ∧ SlOk sa ∧ SimQ sa ra) (fun i => match i with | (k, Oa, sa, Ob, ra) => (((Env.nil.put 2 (.slice A5 l.length cap6)).put 12 (.pointer (some ⟨b29, 0, none⟩))).put 13 (.int .i64 (((k : Nat) : Int))))) ?_ (0, O10, (newSl c low), O15, (newR c 2 low)) _ _ ⟨hC, hB, hs2, hl, hn26, hsil, hs12, hN25.rfo, hok13, (sim_new (show newOk c 2 low = true from by rw [← (selfI_no h8)]; exact hself))⟩) (fun _ ha => (((ha.start.c ha 2 rfl).c ha 12 rfl).c ha 13 rfl))
  rintro ⟨k, Oa, sa, Ob, ra⟩ G w N0 IH0 ⟨hC, hB, hs2, hl, hn26, hsil, hKsa, hKra, hoka, hSim⟩
  obtain ⟨v30, lb31, so32, cp33, lc34, R35, H36, hN37⟩ := hKra.names
  have hn38 := hN37.n
  obtain ⟨A39, cap40, rfl⟩ := hn38.form
  refine wcSeq (wcSeq (wcRegion ?_))
  refine M_ rfl <| M_ rfl <| V_ (opLen rfl isl25) <| V_ (opLssN rfl rfl) <| M_ rfl ?_
  cases h41 : decide (k < l.length)
  ·
   refine wlOff rfl rfl rfl rfl <| wlOff rfl rfl rfl rfl <| V_ (opPickF rfl rfl) <| wlThen <| wcCondF rfl <| wcExit <| wcOf <| wcSeq <| wcRegion ?_
   refine wlCallS hC hB rfl co7 rfl rfl (awake_ret _ _ hC.holds hsil) ?_; intro w hk hC hB
   refine A_ rfl <| wlThen <| wcRet ?_
   exact r1_ hQ rfl rfl (endS hC hw rfl)
  ·
   refine wlOn rfl rfl <| M_ rfl <| wlOn rfl rfl <| V_ (opLssN (b := 100) rfl rfl) <| V_ (opPickT rfl rfl) <| wlThen ?_
   cases h42 : decide (k < 100)
   ·
    refine wcCondF rfl <| wcExit <| wcOf <| wcSeq <| wcRegion ?_
    refine wlCallS hC hB rfl co7 rfl rfl (awake_ret _ _ hC.holds hsil) ?_; intro w hk hC hB
    refine A_ rfl <| wlThen <| wcRet ?_
    exact r1_ hQ rfl rfl (endS hC hw rfl)
   ·
    refine wcCondT rfl <| wcSkip <| wcOf <| wcSeq ?_
    refine wcBlock (wcSeq (wcRegion ?_))
    refine M_ rfl <| M_ rfl ?_
    obtain ⟨x43, hx44⟩ : ∃ y_, l[k]? = some y_ := ⟨_, List.getElem?_eq_getElem (of_decide_eq_true h41)⟩
    obtain ⟨b45, o46, row47, hA50, hr48, hi49⟩ := hl.elem hx44; subst hA50
    obtain ⟨v51, v53, rfl, hs52, hs54⟩ := Do.opIs hi49
    obtain ⟨A55, cap56, rfl⟩ := hs52.form
    obtain ⟨A57, cap58, rfl⟩ := hs54.form
    refine V_ (opIndexAddr rfl rfl slo25 (of_decide_eq_true h41)) <| V_ (opLoadRow (cs := ((.int .i64 x43.kind) :: ((.int .i64 x43.node) :: ((.int .i64 x43.view) :: ((.int .i64 x43.seq) :: (x43.dig.cells ++ ((.slice A55 x43.pp.length cap56) :: ((.slice A57 x43.qq.length cap58) :: [])))))))) rfl (RowG.range hC.holds hr48) row40 (by simp [cl_])) ?_
    refine wlAlloc hC hB zero40 rfl ?_; intro b59 w hk hC hB
    refine wlStore 0 (vs := ((.int .i64 x43.kind) :: ((.int .i64 x43.node) :: ((.int .i64 x43.view) :: ((.int .i64 x43.seq) :: (x43.dig.cells ++ ((.slice A55 x43.pp.length cap56) :: ((.slice A57 x43.qq.length cap58) :: [])))))))) (cs := ((.int .i64 0) :: ((.int .i64 0) :: ((.int .i64 0) :: ((.int .i64 0) :: (Dig.zero.cells ++ ((.slice none 0 0) :: ((.slice none 0 0) :: [])))))))) (cs' := ((.int .i64 x43.kind) :: ((.int .i64 x43.node) :: ((.int .i64 x43.view) :: ((.int .i64 x43.seq) :: (x43.dig.cells ++ ((.slice A55 x43.pp.length cap56) :: ((.slice A57 x43.qq.length cap58) :: [])))))))) hC hB rfl rfl rfl sz40 rfl (by simp [cl_]) (by simp [cl_, Value.oneCell']) (by simp [cl_]) (by simp [cl_]) rfl ?_; intro w hC hB
    refine wlThen (wcSeq (wcRegion ?_))
    refine V_ (opFieldAddr rfl fo40_5) <| V_ (opLoadOne (v := (.slice A55 x43.pp.length cap56)) rfl (hB.cell (i := 0) rfl (by simp [cl_])) one38) <| V_ (opFieldAddr rfl fo40_5) <| V_ (opLoadOne (v := (.slice A55 x43.pp.length cap56)) rfl (hB.cell (i := 0) rfl (by simp [cl_])) one38) <| V_ (opLen rfl isl38) <| V_ (opMinN rfl rfl) ?_
    have hs60 := Sl.take hs52 (h := min x43.pp.length 40) (Nat.min_le_left _ _)
    refine V_ (opSliceTo slo38 rfl rfl (Sl.capOf hs52 (Nat.min_le_left _ _))) <| V_ (opFieldAddr rfl fo40_5) ?_
    refine wlStore 0 (vs := [(.slice A55 (min x43.pp.length 40) cap56)]) (cs := ((.int .i64 x43.kind) :: ((.int .i64 x43.node) :: ((.int .i64 x43.view) :: ((.int .i64 x43.seq) :: (x43.dig.cells ++ ((.slice A55 x43.pp.length cap56) :: ((.slice A57 x43.qq.length cap58) :: [])))))))) (cs' := ((.int .i64 x43.kind) :: ((.int .i64 x43.node) :: ((.int .i64 x43.view) :: ((.int .i64 x43.seq) :: (x43.dig.cells ++ ((.slice A55 (min x43.pp.length 40) cap56) :: ((.slice A57 x43.qq.length cap58) :: [])))))))) hC hB rfl rfl rfl sz38 rfl rfl rfl (by simp [cl_]) (by simp [cl_]) rfl ?_; intro w hC hB
    refine wlThen (wcSeq (wcRegion ?_))
    refine V_ (opFieldAddr rfl fo40_6) <| V_ (opLoadOne (v := (.slice A57 x43.qq.length cap58)) rfl (hB.cell (i := 0) rfl (by simp [cl_])) one38) <| V_ (opFieldAddr rfl fo40_6) <| V_ (opLoadOne (v := (.slice A57 x43.qq.length cap58)) rfl (hB.cell (i := 0) rfl (by simp [cl_])) one38) <| V_ (opLen rfl isl38) <| V_ (opMinN rfl rfl) ?_
    have hs61 := Sl.take hs54 (h := min x43.qq.length 40) (Nat.min_le_left _ _)
    refine V_ (opSliceTo slo38 rfl rfl (Sl.capOf hs54 (Nat.min_le_left _ _))) <| V_ (opFieldAddr rfl fo40_6) ?_
    refine wlStore 0 (vs := [(.slice A57 (min x43.qq.length 40) cap58)]) (cs := ((.int .i64 x43.kind) :: ((.int .i64 x43.node) :: ((.int .i64 x43.view) :: ((.int .i64 x43.seq) :: (x43.dig.cells ++ ((.slice A55 (min x43.pp.length 40) cap56) :: ((.slice A57 x43.qq.length cap58) :: [])))))))) (cs' := ((.int .i64 x43.kind) :: ((.int .i64 x43.node) :: ((.int .i64 x43.view) :: ((.int .i64 x43.seq) :: (x43.dig.cells ++ ((.slice A55 (min x43.pp.length 40) cap56) :: ((.slice A57 (min x43.qq.length 40) cap58) :: [])))))))) hC hB rfl rfl rfl sz38 rfl rfl rfl (by simp [cl_]) (by simp [cl_]) rfl ?_; intro w hC hB
    refine wlThen (wcSeq (wcRegion ?_))
    refine V_ (opLoadRow (cs := [(.pointer (some ⟨b11, 0, none⟩)), (.pointer (some ⟨b16, 0, none⟩))]) rfl (hB.range (i := 1) (m := 2) rfl rfl) row35 rfl) <| V_ (opLoadRow (cs := ((.int .i64 x43.kind) :: ((.int .i64 x43.node) :: ((.int .i64 x43.view) :: ((.int .i64 x43.seq) :: (x43.dig.cells ++ ((.slice A55 (min x43.pp.length 40) cap56) :: ((.slice A57 (min x43.qq.length 40) cap58) :: [])))))))) rfl (hB.range (i := 0) (m := 38) rfl (by simp [cl_])) row40 (by simp [cl_])) ?_
    replace hC := hC.permH (List.perm_append_comm_assoc Oa Ob [])
    replace hB := hB.permH (List.perm_append_comm_assoc Oa Ob [])
    replace hC := hC.permH (List.perm_append_comm_assoc Ob Oa [])
    replace hB := hB.permH (List.perm_append_comm_assoc Ob Oa [])
    replace hC := hC.permH (List.Perm.of_eq (List.append_assoc _ _ _).symm)
    replace hB := hB.permH (List.Perm.of_eq (List.append_assoc _ _ _).symm)
    refine wlCallC (O := (Oa ++ Ob)) (B := []) hC hB rfl co8 rfl rfl (step_ret _ _ hC.holds b11 Oa sa b16 Ob ra hC.chunkHeld hC.chunkNd hKsa hN37.rfo _ ((Do.mk x43.kind x43.node x43.view x43.seq x43.dig ((x43.pp.take (min x43.pp.length 40))) ((x43.qq.take (min x43.qq.length 40))))) (Do.mkIs (x := (Do.mk x43.kind x43.node x43.view x43.seq x43.dig ((x43.pp.take (min x43.pp.length 40))) ((x43.qq.take (min x43.qq.length 40))))) hs60 hs61) hsil hoka (hdo _ (List.mem_of_getElem? hx44)).take (by rw [List.length_take]; omega)) ?_; rintro v62 G O_ w hg hC hB ⟨O63, O64, rfl, hs65, hm66, rfl⟩
    replace hC := hC.permH (List.Perm.of_eq (List.append_assoc _ _ _))
    replace hB := hB.permH (List.Perm.of_eq (List.append_assoc _ _ _))
    replace hs2 := hs2.mono hg; replace hl := hl.mono hg; replace hn26 := hn26.mono hg
    replace hsil := hsil.mono hg
    have hok67 : SlOk ((stepS sa ((Do.mk x43.kind x43.node x43.view x43.seq x43.dig ((x43.pp.take (min x43.pp.length 40))) ((x43.qq.take (min x43.qq.length 40)))))).1) := SlOk.step hoka
    obtain ⟨v68, lb69, so70, cp71, lc72, R73, H74, hN75⟩ := hm66.names
    have hn76 := hN75.n
    obtain ⟨A77, cap78, rfl⟩ := hn76.form
    refine V_ (opNot rfl) <| M_ rfl ?_
    cases h79 : ((stepS sa ((Do.mk x43.kind x43.node x43.view x43.seq x43.dig ((x43.pp.take (min x43.pp.length 40))) ((x43.qq.take (min x43.qq.length 40)))))).2 == (stepR ra ((Do.mk x43.kind x43.node x43.view x43.seq x43.dig ((x43.pp.take (min x43.pp.length 40))) ((x43.qq.take (min x43.qq.length 40)))))).2)
    ·
     exact absurd h79 (by rw [(sim_step hSim hoka (hdo _ (List.mem_of_getElem? hx44)).take).1]; simp)
    ·
     refine wlOn rfl rfl <| V_ (opLoadRow (cs := [(.pointer (some ⟨b11, 0, none⟩)), (.pointer (some ⟨b16, 0, none⟩))]) rfl (hB.range (i := 1) (m := 2) rfl rfl) row35 rfl) <| wlOn rfl rfl ?_
     refine wlCallS hC hB rfl co9 rfl rfl (RetS.lend hC (fun G_ hg_ hh_ hL_ => tells_ret _ _ hh_ b11 O63 ((stepS sa ((Do.mk x43.kind x43.node x43.view x43.seq x43.dig ((x43.pp.take (min x43.pp.length 40))) ((x43.qq.take (min x43.qq.length 40)))))).1) (fun y hy => hL_ y (List.mem_append_left _ hy)) (hs65.mono hg_) b16 O64 ((stepR ra ((Do.mk x43.kind x43.node x43.view x43.seq x43.dig ((x43.pp.take (min x43.pp.length 40))) ((x43.qq.take (min x43.qq.length 40)))))).1) (fun y hy => hL_ y (List.mem_append_right _ (List.mem_append_left _ hy))) (hN75.mono hg_).rfo (hsil.mono hg_) hok67 (sim_tells (sim_step hSim hoka (hdo _ (List.mem_of_getElem? hx44)).take).2))) ?_; intro w hk hC hB
     refine wlOn rfl rfl <| V_ (opNot rfl) <| V_ (opPickF rfl rfl) <| wlThen <| wcCondF rfl <| wcSkip <| wcOf <| wcRegion <| M_ rfl <| V_ (opIncr rfl rfl (by have q := of_decide_eq_true h41; have q2 := hl.le; unfold maxL at q2; omega)) <| A_ rfl <| wlRound ?_
     exact (IH0 (k + 1, O63, (stepS sa ((Do.mk x43.kind x43.node x43.view x43.seq x43.dig ((x43.pp.take (min x43.pp.length 40))) ((x43.qq.take (min x43.qq.length 40)))))).1, O64, (stepR ra ((Do.mk x43.kind x43.node x43.view x43.seq x43.dig ((x43.pp.take (min x43.pp.length 40))) ((x43.qq.take (min x43.qq.length 40)))))).1) _ _ ⟨hC, hB.tail, hs2, hl, hn26, hsil, hs65, hN75.rfo, hok67, (sim_step hSim hoka (hdo _ (List.mem_of_getElem? hx44)).take).2⟩ (by have q := of_decide_eq_true h41; show l.length - (k + 1) < l.length - k; omega)).sub (fun _ ha => (((ha.start.c ha 2 rfl).c ha 12 rfl).c ha 13 rfl))
 ·
  refine wcCondT rfl <| wcRegion <| V_ (opFieldAddr rfl fo24_1) <| V_ (opLoadOne (v := (.slice A3 c.nodes.length cap4)) rfl (hB.cell (i := 0) rfl rfl) one22) ?_
  obtain ⟨x80, hx81⟩ : ∃ y_, c.nodes[0]? = some y_ := ⟨_, List.getElem?_eq_getElem (Int.ofNat_lt.1 (of_decide_eq_true h8))⟩
  obtain ⟨b82, o83, row84, hA87, hr85, hi86⟩ := hs2.elem hx81; subst hA87
  obtain rfl := hi86
  refine V_ (opIndexAddr rfl rfl slo22 (Int.ofNat_lt.1 (of_decide_eq_true h8))) <| V_ (opLoadOne (v := (.int .i64 x80)) rfl (RowG.cell0 hC.holds hr85 rfl) one3) <| A_ rfl ?_
  refine wlThen (wcSeq (wcRegion ?_))
  refine V_ (opLoadRow (cs := [(.int .i64 c.faults), (.slice (some ⟨b82, o83, none⟩) c.nodes.length cap4)]) rfl (hB.range (i := 0) (m := 2) rfl rfl) row24 rfl) <| M_ rfl <| M_ rfl ?_
  refine wlCallNew hC hB rfl co5 rfl rfl (new_ok _ _ hC.holds _ c (Crew.mkIs (x := c) hs2) x80 low hsil (show newOk c x80 low = true from by rw [← (selfI_at hx81)]; exact hself)) ?_; rintro v88 G O89 w hg hC hB ⟨b90, rfl, hs91⟩
  replace hs2 := hs2.mono hg; replace hl := hl.mono hg; replace hr85 := hr85.mono hg
  replace hsil := hsil.mono hg
  have hok92 : SlOk ((newSl c low)) := (newOk_ok (show newOk c x80 low = true from by rw [← (selfI_at hx81)]; exact hself))
  refine M_ rfl <| V_ (opExtract rfl rfl) <| V_ (opExtract rfl rfl) <| A_ rfl <| A_ rfl ?_
  refine wlThen (wcSeq (wcRegion ?_))
  refine V_ (opLoadRow (cs := [(.int .i64 c.faults), (.slice (some ⟨b82, o83, none⟩) c.nodes.length cap4)]) rfl (hB.range (i := 0) (m := 2) rfl rfl) row24 rfl) <| M_ rfl <| M_ rfl ?_
  refine wlCallNew (B := (O89 ++ [])) hC hB rfl co6 rfl rfl (rnew_ok _ _ hC.holds _ c (Crew.mkIs (x := c) hs2) x80 low (newOk_R (show newOk c x80 low = true from by rw [← (selfI_at hx81)]; exact hself))) ?_; rintro v93 G O94 w hg hC hB ⟨b95, rfl, hs96⟩
  replace hs2 := hs2.mono hg; replace hl := hl.mono hg; replace hr85 := hr85.mono hg; replace hs91 := hs91.mono hg
  replace hsil := hsil.mono hg
  obtain ⟨v97, lb98, so99, cp100, lc101, R102, H103, hN104⟩ := hs96.names
  have hn105 := hN104.n
  obtain ⟨A106, cap107, rfl⟩ := hn105.form
  refine M_ rfl <| V_ (opExtract rfl rfl) <| V_ (opExtract rfl rfl) <| A_ rfl <| A_ rfl ?_
  refine wlThen (wcSeq (wcSeq (wcRegion ?_)))
  refine M_ rfl <| M_ rfl <| V_ (opNeq rfl rfl) <| M_ rfl <| wlOn rfl rfl <| M_ rfl <| wlOn rfl rfl <| V_ (OpVal.cast (v' := .bool false) (opPtrNil ip26 rfl rfl) rfl) <| wlOn rfl rfl <| M_ rfl <| wlOn rfl rfl <| V_ (opNeq rfl rfl) <| wlOn rfl rfl <| V_ (opNeBool ub4 rfl rfl) <| V_ (opPickF rfl rfl) <| wlThen <| wcCondF rfl <| wcSkip <| wcOf ?_
  refine wcSeq (wcSeq (wcRegion ?_))
  refine M_ rfl <| V_ (opNeq rfl rfl) <| wlThen <| wcCondF rfl <| wcSkip <| wcOf <| wcSeq <| wcRegion <| M_ rfl <| M_ rfl <| V_ (B_ (ps := [(0, .tmp 50), (1, .tmp 51)]) (cs := [(.pointer (some ⟨b90, 0, none⟩)), (.pointer (some ⟨b95, 0, none⟩))]) so35 zero35 rfl rfl) ?_
  refine wlAlloc hC hB zero35 rfl ?_; intro b108 w hk hC hB
  refine wlStore 0 (vs := [(.pointer (some ⟨b90, 0, none⟩)), (.pointer (some ⟨b95, 0, none⟩))]) (cs := [(.pointer none), (.pointer none)]) (cs' := [(.pointer (some ⟨b90, 0, none⟩)), (.pointer (some ⟨b95, 0, none⟩))]) hC hB rfl rfl rfl sz35 rfl rfl rfl (by simp [cl_]) rfl rfl ?_; intro w hC hB
  refine wlThen (wcSeq (wcSeq (wcRegion ?_)))
  refine A_ rfl <| wlThen <| wcBlock ?_
  replace hC := hC.permH (List.perm_append_comm_assoc O94 O89 [])
  replace hB := hB.permH (List.perm_append_comm_assoc O94 O89 [])
  refine WC.sub (wrInd (ι := Nat × (List (Nat × Obj)) × SlS × (List (Nat × Obj)) × RfS) (fun i => match i with | (k, Oa, sa, Ob, ra) => l.length - k) (fun i G w => match i with | (k, Oa, sa, Ob, ra) => Cx w0 G0 G w ⟨[], (Oa ++ (Ob ++ []))⟩ ∧ Bxs G w w0.heap.size [(b108, 35, [(.pointer (some ⟨b90, 0, none⟩)), (.pointer (some ⟨b95, 0, none⟩))]), (b7, 24, [(.int .i64 c.faults), (.slice (some ⟨b82, o83, none⟩) c.nodes.length cap4)])] ⟨[], (Oa ++ (Ob ++ []))⟩ ∧ Sl G (.slice (some ⟨b82, o83, none⟩) c.nodes.length cap4) c.nodes ∧ Sl G (.slice A5 l.length cap6) l ∧ RowG G b82 (o83 + 0 * 1) [(.int .i64 x80)] ∧ Sl G (.slice A106 (((newR c x80 low).crew.nodes).length) cap107) ((newR c x80 low).crew.nodes) ∧ RowG G 0 0 silence.cells ∧ SlO G b90 Oa sa ∧ RfO G b95 Ob ra ∧ SlOk sa ∧ SimQ sa ra) (fun i => match i with | (k, Oa, sa, Ob, ra) => (((Env.nil.put 2 (.slice A5 l.length cap6)).put 12 (.pointer (some ⟨b108, 0, none⟩))).put 13 (.int .i64 (((k : Nat) : Int))))) ?_ (0, O89, (newSl c low), O94, (newR c x80 low)) _ _ ⟨hC, hB, hs2, hl, hr85, hn105, hsil, hs91, hN104.rfo, hok92, (sim_new (show newOk c x80 low = true from by rw [← (selfI_at hx81)]; exact hself))⟩) (fun _ ha => (((ha.start.c ha 2 rfl).c ha 12 rfl).c ha 13 rfl))
  rintro ⟨k, Oa, sa, Ob, ra⟩ G w N0 IH0 ⟨hC, hB, hs2, hl, hr85, hn105, hsil, hKsa, hKra, hoka, hSim⟩
  obtain ⟨v109, lb110, so111, cp112, lc113, R114, H115, hN116⟩ := hKra.names
  have hn117 := hN116.n
  obtain ⟨A118, cap119, rfl⟩ := hn117.form
  refine wcSeq (wcSeq (wcRegion ?_))
  refine M_ rfl <| M_ rfl <| V_ (opLen rfl isl25) <| V_ (opLssN rfl rfl) <| M_ rfl ?_
  cases h120 : decide (k < l.length)
  ·
   refine wlOff rfl rfl rfl rfl <| wlOff rfl rfl rfl rfl <| V_ (opPickF rfl rfl) <| wlThen <| wcCondF rfl <| wcExit <| wcOf <| wcSeq <| wcRegion ?_
   refine wlCallS hC hB rfl co7 rfl rfl (awake_ret _ _ hC.holds hsil) ?_; intro w hk hC hB
   refine A_ rfl <| wlThen <| wcRet ?_
   exact r1_ hQ rfl rfl (endS hC hw rfl)
  ·
   refine wlOn rfl rfl <| M_ rfl <| wlOn rfl rfl <| V_ (opLssN (b := 100) rfl rfl) <| V_ (opPickT rfl rfl) <| wlThen ?_
   cases h121 : decide (k < 100)
   ·
    refine wcCondF rfl <| wcExit <| wcOf <| wcSeq <| wcRegion ?_
    refine wlCallS hC hB rfl co7 rfl rfl (awake_ret _ _ hC.holds hsil) ?_; intro w hk hC hB
    refine A_ rfl <| wlThen <| wcRet ?_
    exact r1_ hQ rfl rfl (endS hC hw rfl)
   ·
    refine wcCondT rfl <| wcSkip <| wcOf <| wcSeq ?_
    refine wcBlock (wcSeq (wcRegion ?_))
    refine M_ rfl <| M_ rfl ?_
    obtain ⟨x122, hx123⟩ : ∃ y_, l[k]? = some y_ := ⟨_, List.getElem?_eq_getElem (of_decide_eq_true h120)⟩
    obtain ⟨b124, o125, row126, hA129, hr127, hi128⟩ := hl.elem hx123; subst hA129
    obtain ⟨v130, v132, rfl, hs131, hs133⟩ := Do.opIs hi128
    obtain ⟨A134, cap135, rfl⟩ := hs131.form
    obtain ⟨A136, cap137, rfl⟩ := hs133.form
    refine V_ (opIndexAddr rfl rfl slo25 (of_decide_eq_true h120)) <| V_ (opLoadRow (cs := ((.int .i64 x122.kind) :: ((.int .i64 x122.node) :: ((.int .i64 x122.view) :: ((.int .i64 x122.seq) :: (x122.dig.cells ++ ((.slice A134 x122.pp.length cap135) :: ((.slice A136 x122.qq.length cap137) :: [])))))))) rfl (RowG.range hC.holds hr127) row40 (by simp [cl_])) ?_
    refine wlAlloc hC hB zero40 rfl ?_; intro b138 w hk hC hB
    refine wlStore 0 (vs := ((.int .i64 x122.kind) :: ((.int .i64 x122.node) :: ((.int .i64 x122.view) :: ((.int .i64 x122.seq) :: (x122.dig.cells ++ ((.slice A134 x122.pp.length cap135) :: ((.slice A136 x122.qq.length cap137) :: [])))))))) (cs := ((.int .i64 0) :: ((.int .i64 0) :: ((.int .i64 0) :: ((.int .i64 0) :: (Dig.zero.cells ++ ((.slice none 0 0) :: ((.slice none 0 0) :: [])))))))) (cs' := ((.int .i64 x122.kind) :: ((.int .i64 x122.node) :: ((.int .i64 x122.view) :: ((.int .i64 x122.seq) :: (x122.dig.cells ++ ((.slice A134 x122.pp.length cap135) :: ((.slice A136 x122.qq.length cap137) :: [])))))))) hC hB rfl rfl rfl sz40 rfl (by simp [cl_]) (by simp [cl_, Value.oneCell']) (by simp [cl_]) (by simp [cl_]) rfl ?_; intro w hC hB
    refine wlThen (wcSeq (wcRegion ?_))
    refine V_ (opFieldAddr rfl fo40_5) <| V_ (opLoadOne (v := (.slice A134 x122.pp.length cap135)) rfl (hB.cell (i := 0) rfl (by simp [cl_])) one38) <| V_ (opFieldAddr rfl fo40_5) <| V_ (opLoadOne (v := (.slice A134 x122.pp.length cap135)) rfl (hB.cell (i := 0) rfl (by simp [cl_])) one38) <| V_ (opLen rfl isl38) <| V_ (opMinN rfl rfl) ?_
    have hs139 := Sl.take hs131 (h := min x122.pp.length 40) (Nat.min_le_left _ _)
    refine V_ (opSliceTo slo38 rfl rfl (Sl.capOf hs131 (Nat.min_le_left _ _))) <| V_ (opFieldAddr rfl fo40_5) ?_
    refine wlStore 0 (vs := [(.slice A134 (min x122.pp.length 40) cap135)]) (cs := ((.int .i64 x122.kind) :: ((.int .i64 x122.node) :: ((.int .i64 x122.view) :: ((.int .i64 x122.seq) :: (x122.dig.cells ++ ((.slice A134 x122.pp.length cap135) :: ((.slice A136 x122.qq.length cap137) :: [])))))))) (cs' := ((.int .i64 x122.kind) :: ((.int .i64 x122.node) :: ((.int .i64 x122.view) :: ((.int .i64 x122.seq) :: (x122.dig.cells ++ ((.slice A134 (min x122.pp.length 40) cap135) :: ((.slice A136 x122.qq.length cap137) :: [])))))))) hC hB rfl rfl rfl sz38 rfl rfl rfl (by simp [cl_]) (by simp [cl_]) rfl ?_; intro w hC hB
    refine wlThen (wcSeq (wcRegion ?_))
    refine V_ (opFieldAddr rfl fo40_6) <| V_ (opLoadOne (v := (.slice A136 x122.qq.length cap137)) rfl (hB.cell (i := 0) rfl (by simp [cl_])) one38) <| V_ (opFieldAddr rfl fo40_6) <| V_ (opLoadOne (v := (.slice A136 x122.qq.length cap137)) rfl (hB.cell (i := 0) rfl (by simp [cl_])) one38) <| V_ (opLen rfl isl38) <| V_ (opMinN rfl rfl) ?_
    have hs140 := Sl.take hs133 (h := min x122.qq.length 40) (Nat.min_le_left _ _)
    refine V_ (opSliceTo slo38 rfl rfl (Sl.capOf hs133 (Nat.min_le_left _ _))) <| V_ (opFieldAddr rfl fo40_6) ?_
    refine wlStore 0 (vs := [(.slice A136 (min x122.qq.length 40) cap137)]) (cs := ((.int .i64 x122.kind) :: ((.int .i64 x122.node) :: ((.int .i64 x122.view) :: ((.int .i64 x122.seq) :: (x122.dig.cells ++ ((.slice A134 (min x122.pp.length 40) cap135) :: ((.slice A136 x122.qq.length cap137) :: [])))))))) (cs' := ((.int .i64 x122.kind) :: ((.int .i64 x122.node) :: ((.int .i64 x122.view) :: ((.int .i64 x122.seq) :: (x122.dig.cells ++ ((.slice A134 (min x122.pp.length 40) cap135) :: ((.slice A136 (min x122.qq.length 40) cap137) :: [])))))))) hC hB rfl rfl rfl sz38 rfl rfl rfl (by simp [cl_]) (by simp [cl_]) rfl ?_; intro w hC hB
    refine wlThen (wcSeq (wcRegion ?_))
    refine V_ (opLoadRow (cs := [(.pointer (some ⟨b90, 0, none⟩)), (.pointer (some ⟨b95, 0, none⟩))]) rfl (hB.range (i := 1) (m := 2) rfl rfl) row35 rfl) <| V_ (opLoadRow (cs := ((.int .i64 x122.kind) :: ((.int .i64 x122.node) :: ((.int .i64 x122.view) :: ((.int .i64 x122.seq) :: (x122.dig.cells ++ ((.slice A134 (min x122.pp.length 40) cap135) :: ((.slice A136 (min x122.qq.length 40) cap137) :: [])))))))) rfl (hB.range (i := 0) (m := 38) rfl (by simp [cl_])) row40 (by simp [cl_])) ?_
    replace hC := hC.permH (List.perm_append_comm_assoc Oa Ob [])
    replace hB := hB.permH (List.perm_append_comm_assoc Oa Ob [])
    replace hC := hC.permH (List.perm_append_comm_assoc Ob Oa [])
    replace hB := hB.permH (List.perm_append_comm_assoc Ob Oa [])
    replace hC := hC.permH (List.Perm.of_eq (List.append_assoc _ _ _).symm)
    replace hB := hB.permH (List.Perm.of_eq (List.append_assoc _ _ _).symm)
    refine wlCallC (O := (Oa ++ Ob)) (B := []) hC hB rfl co8 rfl rfl (step_ret _ _ hC.holds b90 Oa sa b95 Ob ra hC.chunkHeld hC.chunkNd hKsa hN116.rfo _ ((Do.mk x122.kind x122.node x122.view x122.seq x122.dig ((x122.pp.take (min x122.pp.length 40))) ((x122.qq.take (min x122.qq.length 40))))) (Do.mkIs (x := (Do.mk x122.kind x122.node x122.view x122.seq x122.dig ((x122.pp.take (min x122.pp.length 40))) ((x122.qq.take (min x122.qq.length 40))))) hs139 hs140) hsil hoka (hdo _ (List.mem_of_getElem? hx123)).take (by rw [List.length_take]; omega)) ?_; rintro v141 G O_ w hg hC hB ⟨O142, O143, rfl, hs144, hm145, rfl⟩
    replace hC := hC.permH (List.Perm.of_eq (List.append_assoc _ _ _))
    replace hB := hB.permH (List.Perm.of_eq (List.append_assoc _ _ _))
    replace hs2 := hs2.mono hg; replace hl := hl.mono hg; replace hr85 := hr85.mono hg; replace hn105 := hn105.mono hg
    replace hsil := hsil.mono hg
    have hok146 : SlOk ((stepS sa ((Do.mk x122.kind x122.node x122.view x122.seq x122.dig ((x122.pp.take (min x122.pp.length 40))) ((x122.qq.take (min x122.qq.length 40)))))).1) := SlOk.step hoka
    obtain ⟨v147, lb148, so149, cp150, lc151, R152, H153, hN154⟩ := hm145.names
    have hn155 := hN154.n
    obtain ⟨A156, cap157, rfl⟩ := hn155.form
    refine V_ (opNot rfl) <| M_ rfl ?_
    cases h158 : ((stepS sa ((Do.mk x122.kind x122.node x122.view x122.seq x122.dig ((x122.pp.take (min x122.pp.length 40))) ((x122.qq.take (min x122.qq.length 40)))))).2 == (stepR ra ((Do.mk x122.kind x122.node x122.view x122.seq x122.dig ((x122.pp.take (min x122.pp.length 40))) ((x122.qq.take (min x122.qq.length 40)))))).2)
    ·
     exact absurd h158 (by rw [(sim_step hSim hoka (hdo _ (List.mem_of_getElem? hx123)).take).1]; simp)
    ·
     refine wlOn rfl rfl <| V_ (opLoadRow (cs := [(.pointer (some ⟨b90, 0, none⟩)), (.pointer (some ⟨b95, 0, none⟩))]) rfl (hB.range (i := 1) (m := 2) rfl rfl) row35 rfl) <| wlOn rfl rfl ?_
     refine wlCallS hC hB rfl co9 rfl rfl (RetS.lend hC (fun G_ hg_ hh_ hL_ => tells_ret _ _ hh_ b90 O142 ((stepS sa ((Do.mk x122.kind x122.node x122.view x122.seq x122.dig ((x122.pp.take (min x122.pp.length 40))) ((x122.qq.take (min x122.qq.length 40)))))).1) (fun y hy => hL_ y (List.mem_append_left _ hy)) (hs144.mono hg_) b95 O143 ((stepR ra ((Do.mk x122.kind x122.node x122.view x122.seq x122.dig ((x122.pp.take (min x122.pp.length 40))) ((x122.qq.take (min x122.qq.length 40)))))).1) (fun y hy => hL_ y (List.mem_append_right _ (List.mem_append_left _ hy))) (hN154.mono hg_).rfo (hsil.mono hg_) hok146 (sim_tells (sim_step hSim hoka (hdo _ (List.mem_of_getElem? hx123)).take).2))) ?_; intro w hk hC hB
     refine wlOn rfl rfl <| V_ (opNot rfl) <| V_ (opPickF rfl rfl) <| wlThen <| wcCondF rfl <| wcSkip <| wcOf <| wcRegion <| M_ rfl <| V_ (opIncr rfl rfl (by have q := of_decide_eq_true h120; have q2 := hl.le; unfold maxL at q2; omega)) <| A_ rfl <| wlRound ?_
     exact (IH0 (k + 1, O142, (stepS sa ((Do.mk x122.kind x122.node x122.view x122.seq x122.dig ((x122.pp.take (min x122.pp.length 40))) ((x122.qq.take (min x122.qq.length 40)))))).1, O143, (stepR ra ((Do.mk x122.kind x122.node x122.view x122.seq x122.dig ((x122.pp.take (min x122.pp.length 40))) ((x122.qq.take (min x122.qq.length 40)))))).1) _ _ ⟨hC, hB.tail, hs2, hl, hr85, hn105, hsil, hs144, hN154.rfo, hok146, (sim_step hSim hoka (hdo _ (List.mem_of_getElem? hx123)).take).2⟩ (by have q := of_decide_eq_true h120; show l.length - (k + 1) < l.length - k; omega)).sub (fun _ ha => (((ha.start.c ha 2 rfl).c ha 12 rfl).c ha 13 rfl))

end Go.Proofs.YtljcgggflgbenaaGreatDoor
