/- What functions of the slots seat return, part 8. No condition. -/
import Derived.Test.YtljcgggflgbenaaDoorSlG7
import Derived.Test.YtljcgggflgbenaaDoorSlLaw3
set_option linter.all false
namespace Go.Proofs.YtljcgggflgbenaaDoor
open Go Go.Gx Go.RowKit
theorem elo23 : elemOk Tryd.prog 23 5 1 1 = true := by kernel_rfl
theorem fresh12_ret (G0 : Gh) (w0 : World) (hw : Holds G0 w0) (f : Int) (self : Int) (hsil : RowG G0 0 0 silence.cells) (h12 : f = 1 ∨ f = 2) (hnk : newOk (crewI f) self 0 = true) :
    RetT Tryd.prog 8 #[.int .i64 f, .int .i64 self] G0 w0 [] (fun G L v => ∃ b, v = .pointer (some ⟨b, 0, none⟩) ∧ SlO G b L (newSl (crewI f) 0)) := by
  rcases h12 with rfl | rfl
  · exact fresh1_ret G0 w0 hw self hsil hnk
  · exact fresh2_ret G0 w0 hw self hsil hnk

set_option maxRecDepth 8000 in
theorem safe_ret (G0 : Gh) (w0 : World) (hw : Holds G0 w0) (faults : Int) (vtoOne : Value) (toOne : List Word) (htoOne : Sl G0 vtoOne toOne) (vtoOther : Value) (toOther : List Word) (htoOther : Sl G0 vtoOther toOther) (hsil : RowG G0 0 0 silence.cells) :
    RetS Tryd.prog 5 #[.int .i64 faults, vtoOne, vtoOther] G0 w0 (.bool true) := by
  have hC := Cx.refl hw
  have hB : Bxs G0 w0 w0.heap.size [] := Bxs.nil _ _ _
  obtain ⟨A1, cap2, rfl⟩ := htoOne.form
  obtain ⟨A3, cap4, rfl⟩ := htoOther.form
  refine callsOf Tryd.func5 rfl _ Tryd.ntmps5 rfl _ (argsCons (argsCons (argsCons argsNil (t := 0) rfl) (t := 1) rfl) (t := 2) rfl) ?_; intro Q0 hQ
  refine wcSeq ?_
  refine wcRegion ?_
  refine wlVal (opAssign rfl) rfl ?_
  refine wlThen ?_
  refine wcSeq ?_
  refine wcRegion ?_
  refine wlVal (opMove rfl) rfl ?_
  refine wlCallS hC hB rfl co20 rfl rfl (bring_ret _ _ hC.holds faults 2) ?_; intro w hk hC hB
  refine wlVal (opAdd rfl rfl) rfl ?_
  refine wlVal (opAssign rfl) rfl ?_
  refine wlThen ?_
  refine wcSeq ?_
  refine wcRegion ?_
  refine wlVal (opMove rfl) rfl ?_
  refine wlVal (opMove rfl) rfl ?_
  refine wlVal (opMul rfl rfl) rfl ?_
  refine wlVal (opAdd rfl rfl) rfl ?_
  replace hC : Cx w0 G0 G0 w ⟨[], []⟩ := hC
  replace hB : Bxs G0 w w0.heap.size [] ⟨[], []⟩ := hB
  refine wlCallNew hC hB rfl co8 rfl rfl (fresh12_ret _ _ hC.holds (IntKind.wrap .i64 (1 + ((bringI faults 2)))) (IntKind.wrap .i64 (IntKind.wrap .i64 (3 * IntKind.wrap .i64 (1 + ((bringI faults 2)))) + 1)) hsil (f12 faults) (nk_a (f12 faults))) ?_; rintro v5 G O6 w hg hC hB ⟨b7, rfl, hs8⟩
  replace htoOne := htoOne.mono hg; replace htoOther := htoOther.mono hg
  replace hsil := hsil.mono hg
  have hok9 : SlOk ((newSl (crewI (IntKind.wrap .i64 (1 + ((bringI faults 2))))) 0)) := (newOk_ok (nk_a (f12 faults)))
  replace hC : Cx w0 G0 G w ⟨[], (O6 ++ [])⟩ := hC
  replace hB : Bxs G w w0.heap.size [] ⟨[], (O6 ++ [])⟩ := hB
  refine wlVal (opMove rfl) rfl ?_
  refine wlVal (opMove rfl) rfl ?_
  refine wlVal (opMul rfl rfl) rfl ?_
  refine wlCallNew hC hB rfl co8 rfl rfl (fresh12_ret _ _ hC.holds (IntKind.wrap .i64 (1 + ((bringI faults 2)))) (IntKind.wrap .i64 (3 * IntKind.wrap .i64 (1 + ((bringI faults 2))))) hsil (f12 faults) (nk_b (f12 faults))) ?_; rintro v10 G O11 w hg hC hB ⟨b12, rfl, hs13⟩
  replace htoOne := htoOne.mono hg; replace htoOther := htoOther.mono hg; replace hs8 := hs8.mono hg
  replace hsil := hsil.mono hg
  have hok14 : SlOk ((newSl (crewI (IntKind.wrap .i64 (1 + ((bringI faults 2))))) 0)) := (newOk_ok (nk_b (f12 faults)))
  replace hC : Cx w0 G0 G w ⟨[], (O11 ++ (O6 ++ []))⟩ := hC
  replace hB : Bxs G w w0.heap.size [] ⟨[], (O11 ++ (O6 ++ []))⟩ := hB
  refine wlVal (opAssign rfl) rfl ?_
  refine wlVal (opAssign rfl) rfl ?_
  refine wlThen ?_
  refine wcSeq ?_
  refine wcRegion ?_
  refine wlVal (opMove rfl) rfl ?_
  refine wlBuildSlice (α := UInt8) (ps := [(0, .const (.int .u8 0)), (1, .const (.int .u8 1)), (2, .const (.int .u8 2)), (3, .const (.int .u8 3)), (4, .const (.int .u8 0)), (5, .const (.int .u8 1)), (6, .const (.int .u8 2)), (7, .const (.int .u8 3))]) (xs := [(0 : UInt8), (1 : UInt8), (2 : UInt8), (3 : UInt8), (0 : UInt8), (1 : UInt8), (2 : UInt8), (3 : UInt8)]) (rows := [[(.int .u8 0)], [(.int .u8 1)], [(.int .u8 2)], [(.int .u8 3)], [(.int .u8 0)], [(.int .u8 1)], [(.int .u8 2)], [(.int .u8 3)]]) elo23 rfl rfl hC hB rfl rfl rfl ⟨rfl, rfl, rfl, rfl, rfl, rfl, rfl, rfl, trivial⟩ rfl ?_; intro b15 G w hk hC hB hs16
  replace htoOne := htoOne.mono hk.gle; replace htoOther := htoOther.mono hk.gle; replace hs8 := hs8.mono hk.gle; replace hs13 := hs13.mono hk.gle
  replace hsil := hsil.mono hk.gle
  replace hC := hC.permH (List.perm_append_comm_assoc O11 O6 [])
  replace hB := hB.permH (List.perm_append_comm_assoc O11 O6 [])
  replace hC : Cx w0 G0 G w ⟨[], (O6 ++ (O11 ++ []))⟩ := hC
  replace hB : Bxs G w w0.heap.size [] ⟨[], (O6 ++ (O11 ++ []))⟩ := hB
  refine wlCallC (O := O6) (B := (O11 ++ [])) hC hB rfl co10 rfl rfl (proposes_ret _ _ hC.holds b7 O6 ((newSl (crewI (IntKind.wrap .i64 (1 + ((bringI faults 2))))) 0)) hC.chunkHeld hC.chunkNd hs8 0 _ ([(0 : UInt8), (1 : UInt8), (2 : UInt8), (3 : UInt8), (0 : UInt8), (1 : UInt8), (2 : UInt8), (3 : UInt8)]) hs16 hsil hok9) ?_; rintro v17 G O18 w hg hC hB ⟨hs19, rfl⟩
  replace htoOne := htoOne.mono hg; replace htoOther := htoOther.mono hg; replace hs13 := hs13.mono hg; replace hs16 := hs16.mono hg
  replace hsil := hsil.mono hg
  have hok20 : SlOk ((psN ((newSl (crewI (IntKind.wrap .i64 (1 + ((bringI faults 2))))) 0)) 0 ([(0 : UInt8), (1 : UInt8), (2 : UInt8), (3 : UInt8), (0 : UInt8), (1 : UInt8), (2 : UInt8), (3 : UInt8)]) 8)) := (SlOk.ps hok9 _)
  replace hC : Cx w0 G0 G w ⟨[], (O18 ++ (O11 ++ []))⟩ := hC
  replace hB : Bxs G w w0.heap.size [] ⟨[], (O18 ++ (O11 ++ []))⟩ := hB
  refine wlThen ?_
  refine wcSeq ?_
  refine wcRegion ?_
  refine wlVal (opMove rfl) rfl ?_
  refine wlBuildSlice (α := UInt8) (ps := [(0, .const (.int .u8 3)), (1, .const (.int .u8 2)), (2, .const (.int .u8 1)), (3, .const (.int .u8 0)), (4, .const (.int .u8 0)), (5, .const (.int .u8 2)), (6, .const (.int .u8 3)), (7, .const (.int .u8 1))]) (xs := [(3 : UInt8), (2 : UInt8), (1 : UInt8), (0 : UInt8), (0 : UInt8), (2 : UInt8), (3 : UInt8), (1 : UInt8)]) (rows := [[(.int .u8 3)], [(.int .u8 2)], [(.int .u8 1)], [(.int .u8 0)], [(.int .u8 0)], [(.int .u8 2)], [(.int .u8 3)], [(.int .u8 1)]]) elo23 rfl rfl hC hB rfl rfl rfl ⟨rfl, rfl, rfl, rfl, rfl, rfl, rfl, rfl, trivial⟩ rfl ?_; intro b21 G w hk hC hB hs22
  replace htoOne := htoOne.mono hk.gle; replace htoOther := htoOther.mono hk.gle; replace hs13 := hs13.mono hk.gle; replace hs16 := hs16.mono hk.gle; replace hs19 := hs19.mono hk.gle
  replace hsil := hsil.mono hk.gle
  replace hC := hC.permH (List.perm_append_comm_assoc O18 O11 [])
  replace hB := hB.permH (List.perm_append_comm_assoc O18 O11 [])
  replace hC : Cx w0 G0 G w ⟨[], (O11 ++ (O18 ++ []))⟩ := hC
  replace hB : Bxs G w w0.heap.size [] ⟨[], (O11 ++ (O18 ++ []))⟩ := hB
  refine wlCallC (O := O11) (B := (O18 ++ [])) hC hB rfl co10 rfl rfl (proposes_ret _ _ hC.holds b12 O11 ((newSl (crewI (IntKind.wrap .i64 (1 + ((bringI faults 2))))) 0)) hC.chunkHeld hC.chunkNd hs13 0 _ ([(3 : UInt8), (2 : UInt8), (1 : UInt8), (0 : UInt8), (0 : UInt8), (2 : UInt8), (3 : UInt8), (1 : UInt8)]) hs22 hsil hok14) ?_; rintro v23 G O24 w hg hC hB ⟨hs25, rfl⟩
  replace htoOne := htoOne.mono hg; replace htoOther := htoOther.mono hg; replace hs16 := hs16.mono hg; replace hs19 := hs19.mono hg; replace hs22 := hs22.mono hg
  replace hsil := hsil.mono hg
  have hok26 : SlOk ((psN ((newSl (crewI (IntKind.wrap .i64 (1 + ((bringI faults 2))))) 0)) 0 ([(3 : UInt8), (2 : UInt8), (1 : UInt8), (0 : UInt8), (0 : UInt8), (2 : UInt8), (3 : UInt8), (1 : UInt8)]) 8)) := (SlOk.ps hok14 _)
  replace hC : Cx w0 G0 G w ⟨[], (O24 ++ (O18 ++ []))⟩ := hC
  replace hB : Bxs G w w0.heap.size [] ⟨[], (O24 ++ (O18 ++ []))⟩ := hB
  refine wlThen ?_
  refine wcSeq ?_
  refine wcSeq ?_
  refine wcRegion ?_
  refine wlVal (opAssign rfl) rfl ?_
  refine wlThen ?_
  refine wcBlock ?_
  refine WC.sub (wrInd (ι := Nat × (List (Nat × Obj)) × SlS × (List (Nat × Obj)) × SlS) (fun i => match i with | (k, Oa, sa, Ob, sb) => 80 - k) (fun i G w => match i with | (k, Oa, sa, Ob, sb) => Cx w0 G0 G w ⟨[], (Ob ++ (Oa ++ []))⟩ ∧ Bxs G w w0.heap.size [] ⟨[], (Ob ++ (Oa ++ []))⟩ ∧ Sl G (.slice A1 toOne.length cap2) toOne ∧ Sl G (.slice A3 toOther.length cap4) toOther ∧ Sl G (.slice (some ⟨b15, 0, none⟩) 8 8) ([(0 : UInt8), (1 : UInt8), (2 : UInt8), (3 : UInt8), (0 : UInt8), (1 : UInt8), (2 : UInt8), (3 : UInt8)]) ∧ Sl G (.slice (some ⟨b21, 0, none⟩) 8 8) ([(3 : UInt8), (2 : UInt8), (1 : UInt8), (0 : UInt8), (0 : UInt8), (2 : UInt8), (3 : UInt8), (1 : UInt8)]) ∧ RowG G 0 0 silence.cells ∧ SlO G b7 Oa sa ∧ SlO G b12 Ob sb ∧ SJ (IntKind.wrap .i64 (1 + (bringI faults 2))) sa sb ∧ SlOk sa ∧ SlOk sb) (fun i => match i with | (k, Oa, sa, Ob, sb) => ((((((Env.nil.put 1 (.slice A1 toOne.length cap2)).put 2 (.slice A3 toOther.length cap4)).put 7 (.int .i64 (IntKind.wrap .i64 (1 + ((bringI faults 2)))))).put 8 (.pointer (some ⟨b7, 0, none⟩))).put 9 (.pointer (some ⟨b12, 0, none⟩))).put 10 (.int .i64 (((k : Nat) : Int))))) ?_ (0, O18, (psN ((newSl (crewI (IntKind.wrap .i64 (1 + ((bringI faults 2))))) 0)) 0 ([(0 : UInt8), (1 : UInt8), (2 : UInt8), (3 : UInt8), (0 : UInt8), (1 : UInt8), (2 : UInt8), (3 : UInt8)]) 8), O24, (psN ((newSl (crewI (IntKind.wrap .i64 (1 + ((bringI faults 2))))) 0)) 0 ([(3 : UInt8), (2 : UInt8), (1 : UInt8), (0 : UInt8), (0 : UInt8), (2 : UInt8), (3 : UInt8), (1 : UInt8)]) 8)) _ _ ⟨hC, hB, htoOne, htoOther, hs16, hs22, hsil, hs19, hs25, (sj_new (f12 faults) _ _), hok20, hok26⟩) (fun _ ha => ((((((ha.start.cons ha (t := 1) rfl).cons ha (t := 2) rfl).cons ha (t := 7) rfl).cons ha (t := 8) rfl).cons ha (t := 9) rfl).cons ha (t := 10) rfl))
  rintro ⟨k, Oa, sa, Ob, sb⟩ G w N0 IH0 ⟨hC, hB, htoOne, htoOther, hs16, hs22, hsil, hKsa, hKsb, hJ, hoka, hokb⟩
  show WC _ _ _ _ ((((((Env.nil.put 1 (.slice A1 toOne.length cap2)).put 2 (.slice A3 toOther.length cap4)).put 7 (.int .i64 (IntKind.wrap .i64 (1 + ((bringI faults 2)))))).put 8 (.pointer (some ⟨b7, 0, none⟩))).put 9 (.pointer (some ⟨b12, 0, none⟩))).put 10 (.int .i64 (((k : Nat) : Int)))) w
  refine wcSeq ?_
  refine wcSeq ?_
  refine wcRegion ?_
  refine wlVal (opMove rfl) rfl ?_
  refine wlVal (opLssN (b := 80) rfl rfl) rfl ?_
  refine wlThen ?_
  cases h27 : decide (k < 80)
  · skip
    refine wcCondF rfl ?_
    refine wcExit ?_
    refine wcOf ?_
    refine wcSeq ?_
    refine wcSeq ?_
    refine wcRegion ?_
    refine wlVal (opAssign rfl) rfl ?_
    refine wlThen ?_
    refine wcBlock ?_
    refine WC.sub (wrInd (ι := Nat) (fun j => 9 - j) (fun j G w => Cx w0 G0 G w ⟨[], (Ob ++ (Oa ++ []))⟩ ∧ Bxs G w w0.heap.size [] ⟨[], (Ob ++ (Oa ++ []))⟩ ∧ Sl G (.slice A1 toOne.length cap2) toOne ∧ Sl G (.slice A3 toOther.length cap4) toOther ∧ Sl G (.slice (some ⟨b15, 0, none⟩) 8 8) ([(0 : UInt8), (1 : UInt8), (2 : UInt8), (3 : UInt8), (0 : UInt8), (1 : UInt8), (2 : UInt8), (3 : UInt8)]) ∧ Sl G (.slice (some ⟨b21, 0, none⟩) 8 8) ([(3 : UInt8), (2 : UInt8), (1 : UInt8), (0 : UInt8), (0 : UInt8), (2 : UInt8), (3 : UInt8), (1 : UInt8)]) ∧ SlO G b7 Oa sa ∧ SlO G b12 Ob sb ∧ RowG G 0 0 silence.cells ∧ 1 ≤ j) (fun j => (((Env.nil.put 8 (.pointer (some ⟨b7, 0, none⟩))).put 9 (.pointer (some ⟨b12, 0, none⟩))).put 13 (.int .i64 (((j : Nat) : Int))))) ?_ (1) _ _ ⟨hC, hB, htoOne, htoOther, hs16, hs22, hKsa, hKsb, hsil, (Nat.le_refl _)⟩) (fun _ ha => (((ha.start.cons ha (t := 8) rfl).cons ha (t := 9) rfl).cons ha (t := 13) rfl))
    rintro j G w N1 IH1 ⟨hC, hB, htoOne, htoOther, hs16, hs22, hKsa, hKsb, hsil, hj1⟩
    show WC _ _ _ _ (((Env.nil.put 8 (.pointer (some ⟨b7, 0, none⟩))).put 9 (.pointer (some ⟨b12, 0, none⟩))).put 13 (.int .i64 (((j : Nat) : Int)))) w
    refine wcSeq ?_
    refine wcSeq ?_
    refine wcRegion ?_
    refine wlVal (opMove rfl) rfl ?_
    refine wlVal (opLssN (b := 9) rfl rfl) rfl ?_
    refine wlThen ?_
    cases h28 : decide (j < 9)
    · skip
      refine wcCondF rfl ?_
      refine wcExit ?_
      refine wcOf ?_
      refine wcSeq ?_
      refine wcRegion ?_
      refine wlCallS hC hB rfl co16 rfl rfl (awake_ret _ _ hC.holds hsil) ?_; intro w hk hC hB
      refine wlVal (opAssign rfl) rfl ?_
      refine wlThen ?_
      refine wcRet ?_
      exact fun ac_ ha => hQ _ _ _ (results1 ha rfl rfl) ha.df (endS hC hw rfl)
    · skip
      refine wcCondT rfl ?_
      refine wcSkip ?_
      refine wcOf ?_
      refine wcSeq ?_
      refine wcBlock ?_
      refine wcSeq ?_
      refine wcRegion ?_
      refine wlVal (opMove rfl) rfl ?_
      refine wlVal (opMove rfl) rfl ?_
      refine wlCallS hC hB rfl co21 rfl rfl (RetS.lend hC (fun G_ hg_ hh_ hL_ => at_ret _ _ hh_ b7 Oa sa (fun y hy => hL_ y (List.mem_append_right _ (List.mem_append_left _ hy))) (hKsa.mono hg_) (((j : Nat) : Int)) (hsil.mono hg_))) ?_; intro w hk hC hB
      refine wlVal (opMove rfl) rfl ?_
      refine wlVal (opExtract rfl rfl) rfl ?_
      refine wlVal (opExtract rfl rfl) rfl ?_
      refine wlAlloc hC hB zero43 rfl ?_; intro b29 w hk hC hB
      refine wlStore 0 (vs := (((atI sa (((j : Nat) : Int))).1)).cells) (cs := ((.int .i64 0) :: (Dig.zero.cells ++ ((.int .i64 0) :: [])))) (cs' := (((atI sa (((j : Nat) : Int))).1)).cells) hC hB rfl rfl rfl sz43 rfl (by simp [Word.cells, Stand.cells, Wd.cells, Mark.cells]) (by simp [Word.cells, Stand.cells, Wd.cells, Mark.cells, Value.oneCell']) (by simp [Word.cells, Stand.cells, Wd.cells, Mark.cells]) (by simp [Word.cells, Stand.cells, Wd.cells, Mark.cells]) rfl ?_; intro w hC hB
      refine wlVal (opAssign rfl) rfl ?_
      refine wlThen ?_
      refine wcSeq ?_
      refine wcRegion ?_
      refine wlVal (opMove rfl) rfl ?_
      refine wlVal (opMove rfl) rfl ?_
      refine wlCallS hC hB rfl co21 rfl rfl (RetS.lend hC (fun G_ hg_ hh_ hL_ => at_ret _ _ hh_ b12 Ob sb (fun y hy => hL_ y (List.mem_append_left _ hy)) (hKsb.mono hg_) (((j : Nat) : Int)) (hsil.mono hg_))) ?_; intro w hk hC hB
      refine wlVal (opMove rfl) rfl ?_
      refine wlVal (opExtract rfl rfl) rfl ?_
      refine wlVal (opExtract rfl rfl) rfl ?_
      refine wlAlloc hC hB zero43 rfl ?_; intro b30 w hk hC hB
      refine wlStore 0 (vs := (((atI sb (((j : Nat) : Int))).1)).cells) (cs := ((.int .i64 0) :: (Dig.zero.cells ++ ((.int .i64 0) :: [])))) (cs' := (((atI sb (((j : Nat) : Int))).1)).cells) hC hB rfl rfl rfl sz43 rfl (by simp [Word.cells, Stand.cells, Wd.cells, Mark.cells]) (by simp [Word.cells, Stand.cells, Wd.cells, Mark.cells, Value.oneCell']) (by simp [Word.cells, Stand.cells, Wd.cells, Mark.cells]) (by simp [Word.cells, Stand.cells, Wd.cells, Mark.cells]) rfl ?_; intro w hC hB
      refine wlVal (opAssign rfl) rfl ?_
      refine wlThen ?_
      refine wcSeq ?_
      refine wcRegion ?_
      refine wlVal (opMove rfl) rfl ?_
      refine wlVal (opMove rfl) rfl ?_
      refine wlCallS hC hB rfl co11 rfl rfl (RetS.lend hC (fun G_ hg_ hh_ hL_ => prepared_ret _ _ hh_ b7 Oa sa (fun y hy => hL_ y (List.mem_append_right _ (List.mem_append_left _ hy))) (hKsa.mono hg_) (((j : Nat) : Int)) (hsil.mono hg_))) ?_; intro w hk hC hB
      refine wlVal (opMove rfl) rfl ?_
      cases h31 : ((preparedI sa (((j : Nat) : Int))))
      · skip
        refine wlOff rfl rfl rfl rfl ?_
        refine wlOff rfl rfl rfl rfl ?_
        refine wlOff rfl rfl rfl rfl ?_
        refine wlVal (opPickF rfl rfl) rfl ?_
        refine wlVal (opMove rfl) rfl ?_
        refine wlOff rfl rfl rfl rfl ?_
        refine wlOff rfl rfl rfl rfl ?_
        refine wlOff rfl rfl rfl rfl ?_
        refine wlOff rfl rfl rfl rfl ?_
        refine wlOff rfl rfl rfl rfl ?_
        refine wlVal (opPickF rfl rfl) rfl ?_
        refine wlThen ?_
        refine wcCondF rfl ?_
        refine wcSkip ?_
        refine wcOf ?_
        refine wcRegion ?_
        refine wlVal (opMove rfl) rfl ?_
        refine wlVal (opIncr rfl rfl (by have q1 := of_decide_eq_true h28; omega)) rfl ?_
        refine wlVal (opAssign rfl) rfl ?_
        refine wlRound ?_
        exact (IH1 (j + 1) _ _ ⟨hC, hB.tail.tail, htoOne, htoOther, hs16, hs22, hKsa, hKsb, hsil, (by omega)⟩ (by have := of_decide_eq_true h28; show 9 - (j + 1) < 9 - j; omega)).sub (fun _ ha => (((ha.start.cons ha (t := 8) rfl).cons ha (t := 9) rfl).cons ha (t := 13) rfl))
      · skip
        refine wlOn rfl rfl ?_
        refine wlVal (opMove rfl) rfl ?_
        refine wlOn rfl rfl ?_
        refine wlVal (opMove rfl) rfl ?_
        refine wlOn rfl rfl ?_
        refine wlCallS hC hB rfl co11 rfl rfl (RetS.lend hC (fun G_ hg_ hh_ hL_ => prepared_ret _ _ hh_ b12 Ob sb (fun y hy => hL_ y (List.mem_append_left _ hy)) (hKsb.mono hg_) (((j : Nat) : Int)) (hsil.mono hg_))) ?_; intro w hk hC hB
        refine wlVal (opPickT rfl rfl) rfl ?_
        refine wlVal (opMove rfl) rfl ?_
        cases h32 : ((preparedI sb (((j : Nat) : Int))))
        · skip
          refine wlOff rfl rfl rfl rfl ?_
          refine wlOff rfl rfl rfl rfl ?_
          refine wlOff rfl rfl rfl rfl ?_
          refine wlOff rfl rfl rfl rfl ?_
          refine wlOff rfl rfl rfl rfl ?_
          refine wlVal (opPickF rfl rfl) rfl ?_
          refine wlThen ?_
          refine wcCondF rfl ?_
          refine wcSkip ?_
          refine wcOf ?_
          refine wcRegion ?_
          refine wlVal (opMove rfl) rfl ?_
          refine wlVal (opIncr rfl rfl (by have q1 := of_decide_eq_true h28; omega)) rfl ?_
          refine wlVal (opAssign rfl) rfl ?_
          refine wlRound ?_
          exact (IH1 (j + 1) _ _ ⟨hC, hB.tail.tail, htoOne, htoOther, hs16, hs22, hKsa, hKsb, hsil, (by omega)⟩ (by have := of_decide_eq_true h28; show 9 - (j + 1) < 9 - j; omega)).sub (fun _ ha => (((ha.start.cons ha (t := 8) rfl).cons ha (t := 9) rfl).cons ha (t := 13) rfl))
        · skip
          refine wlOn rfl rfl ?_
          refine wlVal (opFieldAddr rfl fo43_1) rfl ?_
          refine wlOn rfl rfl ?_
          refine wlVal (opLoadRow (cs := (((atI sa (((j : Nat) : Int))).1).dig).cells) rfl (hB.range (i := 1) (m := 32) rfl (by simp [Word.cells, Stand.cells, Wd.cells, Mark.cells])) row38 (by simp [Word.cells, Stand.cells, Wd.cells, Mark.cells])) rfl ?_
          refine wlOn rfl rfl ?_
          refine wlVal (opFieldAddr rfl fo43_1) rfl ?_
          refine wlOn rfl rfl ?_
          refine wlVal (opLoadRow (cs := (((atI sb (((j : Nat) : Int))).1).dig).cells) rfl (hB.range (i := 0) (m := 32) rfl (by simp [Word.cells, Stand.cells, Wd.cells, Mark.cells])) row38 (by simp [Word.cells, Stand.cells, Wd.cells, Mark.cells])) rfl ?_
          refine wlOn rfl rfl ?_
          refine wlVal (opNeRow (eq38 _ (((atI sa (((j : Nat) : Int))).1).dig) (((atI sb (((j : Nat) : Int))).1).dig)) eg38 rfl rfl) rfl ?_
          refine wlVal (opPickT rfl rfl) rfl ?_
          refine wlThen ?_
          cases h33 : decide (((atI sa (((j : Nat) : Int))).1).dig = ((atI sb (((j : Nat) : Int))).1).dig)
          · skip
            exact absurd (sj_law (f12 faults) hJ (j := ((j : Nat) : Int)) (by omega) (by have q1 := of_decide_eq_true h28; omega) h31 h32) (of_decide_eq_false h33)
          · skip
            refine wcCondF rfl ?_
            refine wcSkip ?_
            refine wcOf ?_
            refine wcRegion ?_
            refine wlVal (opMove rfl) rfl ?_
            refine wlVal (opIncr rfl rfl (by have q1 := of_decide_eq_true h28; omega)) rfl ?_
            refine wlVal (opAssign rfl) rfl ?_
            refine wlRound ?_
            exact (IH1 (j + 1) _ _ ⟨hC, hB.tail.tail, htoOne, htoOther, hs16, hs22, hKsa, hKsb, hsil, (by omega)⟩ (by have := of_decide_eq_true h28; show 9 - (j + 1) < 9 - j; omega)).sub (fun _ ha => (((ha.start.cons ha (t := 8) rfl).cons ha (t := 9) rfl).cons ha (t := 13) rfl))
  · skip
    refine wcCondT rfl ?_
    refine wcSkip ?_
    refine wcOf ?_
    refine wcSeq ?_
    refine wcBlock ?_
    refine wcSeq ?_
    refine wcSeq ?_
    refine wcRegion ?_
    refine wlVal (opMove rfl) rfl ?_
    refine wlVal (opMove rfl) rfl ?_
    refine wlVal (opLen rfl isl22) rfl ?_
    refine wlVal (opLssN rfl rfl) rfl ?_
    refine wlThen ?_
    cases h34 : decide (k < toOne.length)
    · skip
      refine wcCondF rfl ?_
      refine wcSkip ?_
      refine wcOf ?_
      refine wcSeq ?_
      refine wcRegion ?_
      refine wlVal (opMove rfl) rfl ?_
      refine wlVal (opMove rfl) rfl ?_
      refine wlVal (opLen rfl isl22) rfl ?_
      refine wlVal (opLssN rfl rfl) rfl ?_
      refine wlThen ?_
      cases h35 : decide (k < toOther.length)
      · skip
        refine wcCondF rfl ?_
        refine wcSkip ?_
        refine wcOf ?_
        refine wcRegion ?_
        refine wlVal (opMove rfl) rfl ?_
        refine wlVal (opIncr rfl rfl (by have q1 := of_decide_eq_true h27; omega)) rfl ?_
        refine wlVal (opAssign rfl) rfl ?_
        refine wlRound ?_
        exact (IH0 (k + 1, Oa, sa, Ob, sb) _ _ ⟨hC, hB, htoOne, htoOther, hs16, hs22, hsil, hKsa, hKsb, hJ, hoka, hokb⟩ (by have := of_decide_eq_true h27; show 80 - (k + 1) < 80 - k; omega)).sub (fun _ ha => ((((((ha.start.cons ha (t := 1) rfl).cons ha (t := 2) rfl).cons ha (t := 7) rfl).cons ha (t := 8) rfl).cons ha (t := 9) rfl).cons ha (t := 10) rfl))
      · skip
        refine wcCondT rfl ?_
        refine wcSeq ?_
        refine wcRegion ?_
        refine wlVal (opMove rfl) rfl ?_
        refine wlVal (opMove rfl) rfl ?_
        obtain ⟨x36, hx37⟩ : ∃ y_, toOther[k]? = some y_ := ⟨_, List.getElem?_eq_getElem (of_decide_eq_true h35)⟩
        obtain ⟨b38, o39, row40, hA43, hr41, hi42⟩ := htoOther.elem hx37; subst hA43
        obtain rfl := hi42
        refine wlVal (opIndexAddr rfl rfl slo22 (of_decide_eq_true h35)) rfl ?_
        refine wlVal (opLoadRow (cs := x36.cells) rfl (RowG.range hC.holds hr41) row27 rfl) rfl ?_
        refine wlAlloc hC hB zero27 rfl ?_; intro b44 w hk hC hB
        refine wlStore 0 (vs := x36.cells) (cs := [(.int .i64 0), (.int .i64 0), (.int .i64 0), (.bool false), (.int .u8 0)]) (cs' := x36.cells) hC hB rfl rfl rfl sz27 rfl rfl rfl (by simp [Word.cells, Stand.cells, Wd.cells, Mark.cells]) rfl rfl ?_; intro w hC hB
        refine wlThen ?_
        refine wcSeq ?_
        refine wcRegion ?_
        refine wlVal (opFieldAddr rfl fo27_1) rfl ?_
        refine wlStore 0 (vs := [(.int .i64 0)]) (cs := x36.cells) (cs' := [(.int .i64 x36.node), (.int .i64 0), (.int .i64 x36.seq), (.bool x36.commits), (.int .u8 (((x36.b).toNat : Int)))]) hC hB rfl rfl rfl sz3 rfl rfl rfl (by simp [Word.cells, Stand.cells, Wd.cells, Mark.cells]) rfl rfl ?_; intro w hC hB
        refine wlThen ?_
        refine wcSeq ?_
        refine wcRegion ?_
        refine wlVal (opFieldAddr rfl fo27_0) rfl ?_
        refine wlVal (opLoadOne (v := (.int .i64 x36.node)) rfl (hB.cell (i := 0) rfl rfl) one3) rfl ?_
        refine wlVal (opMove rfl) rfl ?_
        refine wlVal (opMul rfl rfl) rfl ?_
        refine wlVal (opAdd rfl rfl) rfl ?_
        refine wlCallS hC hB rfl co20 rfl rfl (bring_ret _ _ hC.holds x36.node (IntKind.wrap .i64 (IntKind.wrap .i64 (3 * IntKind.wrap .i64 (1 + ((bringI faults 2)))) + 1))) ?_; intro w hk hC hB
        refine wlVal (opMove rfl) rfl ?_
        refine wlVal (opLss rfl rfl) rfl ?_
        refine wlThen ?_
        cases h45 : decide (((bringI x36.node (IntKind.wrap .i64 (IntKind.wrap .i64 (3 * IntKind.wrap .i64 (1 + ((bringI faults 2)))) + 1)))) < IntKind.wrap .i64 (1 + ((bringI faults 2))))
        · skip
          refine wcCondF rfl ?_
          refine wcSeq ?_
          refine wcRegion ?_
          refine wlVal (opMove rfl) rfl ?_
          refine wlVal (opMove rfl) rfl ?_
          refine wlVal (opLoadRow (cs := [(.int .i64 x36.node), (.int .i64 0), (.int .i64 x36.seq), (.bool x36.commits), (.int .u8 (((x36.b).toNat : Int)))]) rfl (hB.range (i := 0) (m := 5) rfl rfl) row27 rfl) rfl ?_
          refine wlCallC (O := Ob) (B := (Oa ++ [])) hC hB rfl co9 rfl rfl (says_ret _ _ hC.holds b12 Ob sb hC.chunkHeld hC.chunkNd hKsb (IntKind.wrap .i64 (1 + ((bringI faults 2)))) ((Word.mk x36.node 0 x36.seq x36.commits x36.b)) hsil hokb) ?_; rintro v46 G O47 w hg hC hB ⟨hs48, rfl⟩
          replace htoOne := htoOne.mono hg; replace htoOther := htoOther.mono hg; replace hs16 := hs16.mono hg; replace hs22 := hs22.mono hg; replace hKsa := hKsa.mono hg; replace hr41 := hr41.mono hg
          replace hsil := hsil.mono hg
          have hok49 : SlOk ((sayI sb (IntKind.wrap .i64 (1 + ((bringI faults 2)))) ((Word.mk x36.node 0 x36.seq x36.commits x36.b))).1) := (SlOk.say hokb)
          replace hC : Cx w0 G0 G w ⟨[], (O47 ++ (Oa ++ []))⟩ := hC
          replace hB : Bxs G w w0.heap.size [(b44, 27, [(.int .i64 x36.node), (.int .i64 0), (.int .i64 x36.seq), (.bool x36.commits), (.int .u8 (((x36.b).toNat : Int)))])] ⟨[], (O47 ++ (Oa ++ []))⟩ := hB
          refine wlVal (opEql rfl rfl) rfl ?_
          refine wlThen ?_
          cases h50 : (((sayI sb (IntKind.wrap .i64 (1 + ((bringI faults 2)))) ((Word.mk x36.node 0 x36.seq x36.commits x36.b))).2)) == 0
          · skip
            refine wcCondF rfl ?_
            refine wcSkip ?_
            refine wcOf ?_
            refine wcRegion ?_
            refine wlVal (opMove rfl) rfl ?_
            refine wlVal (opIncr rfl rfl (by have q1 := of_decide_eq_true h27; omega)) rfl ?_
            refine wlVal (opAssign rfl) rfl ?_
            refine wlRound ?_
            exact (IH0 (k + 1, Oa, sa, O47, (sayI sb (IntKind.wrap .i64 (1 + ((bringI faults 2)))) ((Word.mk x36.node 0 x36.seq x36.commits x36.b))).1) _ _ ⟨hC, hB.tail, htoOne, htoOther, hs16, hs22, hsil, hKsa, hs48, (SJ.swap (sj_one (SJ.swap hJ) rfl (.inr (by intro q1; have q2 := h50; rw [q1] at q2; cases q2)))), hoka, hok49⟩ (by have := of_decide_eq_true h27; show 80 - (k + 1) < 80 - k; omega)).sub (fun _ ha => ((((((ha.start.cons ha (t := 1) rfl).cons ha (t := 2) rfl).cons ha (t := 7) rfl).cons ha (t := 8) rfl).cons ha (t := 9) rfl).cons ha (t := 10) rfl))
          · skip
            refine wcCondT rfl ?_
            refine wcRegion ?_
            refine wlVal (opMove rfl) rfl ?_
            refine wlVal (opMove rfl) rfl ?_
            refine wlVal (opLoadRow (cs := [(.int .i64 x36.node), (.int .i64 0), (.int .i64 x36.seq), (.bool x36.commits), (.int .u8 (((x36.b).toNat : Int)))]) rfl (hB.range (i := 0) (m := 5) rfl rfl) row27 rfl) rfl ?_
            replace hC := hC.permH (List.perm_append_comm_assoc O47 Oa [])
            replace hB := hB.permH (List.perm_append_comm_assoc O47 Oa [])
            replace hC : Cx w0 G0 G w ⟨[], (Oa ++ (O47 ++ []))⟩ := hC
            replace hB : Bxs G w w0.heap.size [(b44, 27, [(.int .i64 x36.node), (.int .i64 0), (.int .i64 x36.seq), (.bool x36.commits), (.int .u8 (((x36.b).toNat : Int)))])] ⟨[], (Oa ++ (O47 ++ []))⟩ := hB
            refine wlCallC (O := Oa) (B := (O47 ++ [])) hC hB rfl co9 rfl rfl (says_ret _ _ hC.holds b7 Oa sa hC.chunkHeld hC.chunkNd hKsa (IntKind.wrap .i64 (1 + ((bringI faults 2)))) ((Word.mk x36.node 0 x36.seq x36.commits x36.b)) hsil hoka) ?_; rintro v51 G O52 w hg hC hB ⟨hs53, rfl⟩
            replace htoOne := htoOne.mono hg; replace htoOther := htoOther.mono hg; replace hs16 := hs16.mono hg; replace hs22 := hs22.mono hg; replace hr41 := hr41.mono hg; replace hs48 := hs48.mono hg
            replace hsil := hsil.mono hg
            have hok54 : SlOk ((sayI sa (IntKind.wrap .i64 (1 + ((bringI faults 2)))) ((Word.mk x36.node 0 x36.seq x36.commits x36.b))).1) := (SlOk.say hoka)
            replace hC : Cx w0 G0 G w ⟨[], (O52 ++ (O47 ++ []))⟩ := hC
            replace hB : Bxs G w w0.heap.size [(b44, 27, [(.int .i64 x36.node), (.int .i64 0), (.int .i64 x36.seq), (.bool x36.commits), (.int .u8 (((x36.b).toNat : Int)))])] ⟨[], (O52 ++ (O47 ++ []))⟩ := hB
            refine wlNil ?_
            refine wcOf ?_
            refine wcRegion ?_
            refine wlVal (opMove rfl) rfl ?_
            refine wlVal (opIncr rfl rfl (by have q1 := of_decide_eq_true h27; omega)) rfl ?_
            refine wlVal (opAssign rfl) rfl ?_
            refine wlRound ?_
            replace hC := hC.permH (List.perm_append_comm_assoc O52 O47 [])
            replace hB := hB.permH (List.perm_append_comm_assoc O52 O47 [])
            replace hC : Cx w0 G0 G w ⟨[], (O47 ++ (O52 ++ []))⟩ := hC
            replace hB : Bxs G w w0.heap.size [(b44, 27, [(.int .i64 x36.node), (.int .i64 0), (.int .i64 x36.seq), (.bool x36.commits), (.int .u8 (((x36.b).toNat : Int)))])] ⟨[], (O47 ++ (O52 ++ []))⟩ := hB
            exact (IH0 (k + 1, O52, (sayI sa (IntKind.wrap .i64 (1 + ((bringI faults 2)))) ((Word.mk x36.node 0 x36.seq x36.commits x36.b))).1, O47, (sayI sb (IntKind.wrap .i64 (1 + ((bringI faults 2)))) ((Word.mk x36.node 0 x36.seq x36.commits x36.b))).1) _ _ ⟨hC, hB.tail, htoOne, htoOther, hs16, hs22, hsil, hs53, hs48, (SJ.swap (sj_both (SJ.swap hJ) rfl (wN_gt (f12 faults) h45) (eq_of_beq h50))), hok54, hok49⟩ (by have := of_decide_eq_true h27; show 80 - (k + 1) < 80 - k; omega)).sub (fun _ ha => ((((((ha.start.cons ha (t := 1) rfl).cons ha (t := 2) rfl).cons ha (t := 7) rfl).cons ha (t := 8) rfl).cons ha (t := 9) rfl).cons ha (t := 10) rfl))
        · skip
          refine wcCondT rfl ?_
          refine wcRegion ?_
          refine wlVal (opMove rfl) rfl ?_
          refine wlVal (opMove rfl) rfl ?_
          refine wlVal (opLoadRow (cs := [(.int .i64 x36.node), (.int .i64 0), (.int .i64 x36.seq), (.bool x36.commits), (.int .u8 (((x36.b).toNat : Int)))]) rfl (hB.range (i := 0) (m := 5) rfl rfl) row27 rfl) rfl ?_
          refine wlCallC (O := Ob) (B := (Oa ++ [])) hC hB rfl co9 rfl rfl (says_ret _ _ hC.holds b12 Ob sb hC.chunkHeld hC.chunkNd hKsb (IntKind.wrap .i64 (1 + ((bringI faults 2)))) ((Word.mk x36.node 0 x36.seq x36.commits x36.b)) hsil hokb) ?_; rintro v55 G O56 w hg hC hB ⟨hs57, rfl⟩
          replace htoOne := htoOne.mono hg; replace htoOther := htoOther.mono hg; replace hs16 := hs16.mono hg; replace hs22 := hs22.mono hg; replace hKsa := hKsa.mono hg; replace hr41 := hr41.mono hg
          replace hsil := hsil.mono hg
          have hok58 : SlOk ((sayI sb (IntKind.wrap .i64 (1 + ((bringI faults 2)))) ((Word.mk x36.node 0 x36.seq x36.commits x36.b))).1) := (SlOk.say hokb)
          replace hC : Cx w0 G0 G w ⟨[], (O56 ++ (Oa ++ []))⟩ := hC
          replace hB : Bxs G w w0.heap.size [(b44, 27, [(.int .i64 x36.node), (.int .i64 0), (.int .i64 x36.seq), (.bool x36.commits), (.int .u8 (((x36.b).toNat : Int)))])] ⟨[], (O56 ++ (Oa ++ []))⟩ := hB
          refine wlNil ?_
          refine wcOf ?_
          refine wcRegion ?_
          refine wlVal (opMove rfl) rfl ?_
          refine wlVal (opIncr rfl rfl (by have q1 := of_decide_eq_true h27; omega)) rfl ?_
          refine wlVal (opAssign rfl) rfl ?_
          refine wlRound ?_
          exact (IH0 (k + 1, Oa, sa, O56, (sayI sb (IntKind.wrap .i64 (1 + ((bringI faults 2)))) ((Word.mk x36.node 0 x36.seq x36.commits x36.b))).1) _ _ ⟨hC, hB.tail, htoOne, htoOther, hs16, hs22, hsil, hKsa, hs57, (SJ.swap (sj_one (SJ.swap hJ) rfl (.inl (wN_le (f12 faults) h45)))), hoka, hok58⟩ (by have := of_decide_eq_true h27; show 80 - (k + 1) < 80 - k; omega)).sub (fun _ ha => ((((((ha.start.cons ha (t := 1) rfl).cons ha (t := 2) rfl).cons ha (t := 7) rfl).cons ha (t := 8) rfl).cons ha (t := 9) rfl).cons ha (t := 10) rfl))
    · skip
      refine wcCondT rfl ?_
      refine wcSeq ?_
      refine wcRegion ?_
      refine wlVal (opMove rfl) rfl ?_
      refine wlVal (opMove rfl) rfl ?_
      obtain ⟨x59, hx60⟩ : ∃ y_, toOne[k]? = some y_ := ⟨_, List.getElem?_eq_getElem (of_decide_eq_true h34)⟩
      obtain ⟨b61, o62, row63, hA66, hr64, hi65⟩ := htoOne.elem hx60; subst hA66
      obtain rfl := hi65
      refine wlVal (opIndexAddr rfl rfl slo22 (of_decide_eq_true h34)) rfl ?_
      refine wlVal (opLoadRow (cs := x59.cells) rfl (RowG.range hC.holds hr64) row27 rfl) rfl ?_
      refine wlAlloc hC hB zero27 rfl ?_; intro b67 w hk hC hB
      refine wlStore 0 (vs := x59.cells) (cs := [(.int .i64 0), (.int .i64 0), (.int .i64 0), (.bool false), (.int .u8 0)]) (cs' := x59.cells) hC hB rfl rfl rfl sz27 rfl rfl rfl (by simp [Word.cells, Stand.cells, Wd.cells, Mark.cells]) rfl rfl ?_; intro w hC hB
      refine wlThen ?_
      refine wcSeq ?_
      refine wcRegion ?_
      refine wlVal (opFieldAddr rfl fo27_1) rfl ?_
      refine wlStore 0 (vs := [(.int .i64 0)]) (cs := x59.cells) (cs' := [(.int .i64 x59.node), (.int .i64 0), (.int .i64 x59.seq), (.bool x59.commits), (.int .u8 (((x59.b).toNat : Int)))]) hC hB rfl rfl rfl sz3 rfl rfl rfl (by simp [Word.cells, Stand.cells, Wd.cells, Mark.cells]) rfl rfl ?_; intro w hC hB
      refine wlThen ?_
      refine wcSeq ?_
      refine wcRegion ?_
      refine wlVal (opFieldAddr rfl fo27_0) rfl ?_
      refine wlVal (opLoadOne (v := (.int .i64 x59.node)) rfl (hB.cell (i := 0) rfl rfl) one3) rfl ?_
      refine wlVal (opMove rfl) rfl ?_
      refine wlVal (opMul rfl rfl) rfl ?_
      refine wlVal (opAdd rfl rfl) rfl ?_
      refine wlCallS hC hB rfl co20 rfl rfl (bring_ret _ _ hC.holds x59.node (IntKind.wrap .i64 (IntKind.wrap .i64 (3 * IntKind.wrap .i64 (1 + ((bringI faults 2)))) + 1))) ?_; intro w hk hC hB
      refine wlVal (opMove rfl) rfl ?_
      refine wlVal (opLss rfl rfl) rfl ?_
      refine wlThen ?_
      cases h68 : decide (((bringI x59.node (IntKind.wrap .i64 (IntKind.wrap .i64 (3 * IntKind.wrap .i64 (1 + ((bringI faults 2)))) + 1)))) < IntKind.wrap .i64 (1 + ((bringI faults 2))))
      · skip
        refine wcCondF rfl ?_
        refine wcSeq ?_
        refine wcRegion ?_
        refine wlVal (opMove rfl) rfl ?_
        refine wlVal (opMove rfl) rfl ?_
        refine wlVal (opLoadRow (cs := [(.int .i64 x59.node), (.int .i64 0), (.int .i64 x59.seq), (.bool x59.commits), (.int .u8 (((x59.b).toNat : Int)))]) rfl (hB.range (i := 0) (m := 5) rfl rfl) row27 rfl) rfl ?_
        replace hC := hC.permH (List.perm_append_comm_assoc Ob Oa [])
        replace hB := hB.permH (List.perm_append_comm_assoc Ob Oa [])
        replace hC : Cx w0 G0 G w ⟨[], (Oa ++ (Ob ++ []))⟩ := hC
        replace hB : Bxs G w w0.heap.size [(b67, 27, [(.int .i64 x59.node), (.int .i64 0), (.int .i64 x59.seq), (.bool x59.commits), (.int .u8 (((x59.b).toNat : Int)))])] ⟨[], (Oa ++ (Ob ++ []))⟩ := hB
        refine wlCallC (O := Oa) (B := (Ob ++ [])) hC hB rfl co9 rfl rfl (says_ret _ _ hC.holds b7 Oa sa hC.chunkHeld hC.chunkNd hKsa (IntKind.wrap .i64 (1 + ((bringI faults 2)))) ((Word.mk x59.node 0 x59.seq x59.commits x59.b)) hsil hoka) ?_; rintro v69 G O70 w hg hC hB ⟨hs71, rfl⟩
        replace htoOne := htoOne.mono hg; replace htoOther := htoOther.mono hg; replace hs16 := hs16.mono hg; replace hs22 := hs22.mono hg; replace hKsb := hKsb.mono hg; replace hr64 := hr64.mono hg
        replace hsil := hsil.mono hg
        have hok72 : SlOk ((sayI sa (IntKind.wrap .i64 (1 + ((bringI faults 2)))) ((Word.mk x59.node 0 x59.seq x59.commits x59.b))).1) := (SlOk.say hoka)
        replace hC : Cx w0 G0 G w ⟨[], (O70 ++ (Ob ++ []))⟩ := hC
        replace hB : Bxs G w w0.heap.size [(b67, 27, [(.int .i64 x59.node), (.int .i64 0), (.int .i64 x59.seq), (.bool x59.commits), (.int .u8 (((x59.b).toNat : Int)))])] ⟨[], (O70 ++ (Ob ++ []))⟩ := hB
        refine wlVal (opEql rfl rfl) rfl ?_
        refine wlThen ?_
        cases h73 : (((sayI sa (IntKind.wrap .i64 (1 + ((bringI faults 2)))) ((Word.mk x59.node 0 x59.seq x59.commits x59.b))).2)) == 0
        · skip
          refine wcCondF rfl ?_
          refine wcSkip ?_
          refine wcOf ?_
          refine wcSeq ?_
          refine wcRegion ?_
          refine wlVal (opMove rfl) rfl ?_
          refine wlVal (opMove rfl) rfl ?_
          refine wlVal (opLen rfl isl22) rfl ?_
          refine wlVal (opLssN rfl rfl) rfl ?_
          refine wlThen ?_
          cases h74 : decide (k < toOther.length)
          · skip
            refine wcCondF rfl ?_
            refine wcSkip ?_
            refine wcOf ?_
            refine wcRegion ?_
            refine wlVal (opMove rfl) rfl ?_
            refine wlVal (opIncr rfl rfl (by have q1 := of_decide_eq_true h27; omega)) rfl ?_
            refine wlVal (opAssign rfl) rfl ?_
            refine wlRound ?_
            replace hC := hC.permH (List.perm_append_comm_assoc O70 Ob [])
            replace hB := hB.permH (List.perm_append_comm_assoc O70 Ob [])
            replace hC : Cx w0 G0 G w ⟨[], (Ob ++ (O70 ++ []))⟩ := hC
            replace hB : Bxs G w w0.heap.size [(b67, 27, [(.int .i64 x59.node), (.int .i64 0), (.int .i64 x59.seq), (.bool x59.commits), (.int .u8 (((x59.b).toNat : Int)))])] ⟨[], (Ob ++ (O70 ++ []))⟩ := hB
            exact (IH0 (k + 1, O70, (sayI sa (IntKind.wrap .i64 (1 + ((bringI faults 2)))) ((Word.mk x59.node 0 x59.seq x59.commits x59.b))).1, Ob, sb) _ _ ⟨hC, hB.tail, htoOne, htoOther, hs16, hs22, hsil, hs71, hKsb, (sj_one hJ rfl (.inr (by intro q1; have q2 := h73; rw [q1] at q2; cases q2))), hok72, hokb⟩ (by have := of_decide_eq_true h27; show 80 - (k + 1) < 80 - k; omega)).sub (fun _ ha => ((((((ha.start.cons ha (t := 1) rfl).cons ha (t := 2) rfl).cons ha (t := 7) rfl).cons ha (t := 8) rfl).cons ha (t := 9) rfl).cons ha (t := 10) rfl))
          · skip
            refine wcCondT rfl ?_
            refine wcSeq ?_
            refine wcRegion ?_
            refine wlVal (opMove rfl) rfl ?_
            refine wlVal (opMove rfl) rfl ?_
            obtain ⟨x75, hx76⟩ : ∃ y_, toOther[k]? = some y_ := ⟨_, List.getElem?_eq_getElem (of_decide_eq_true h74)⟩
            obtain ⟨b77, o78, row79, hA82, hr80, hi81⟩ := htoOther.elem hx76; subst hA82
            obtain rfl := hi81
            refine wlVal (opIndexAddr rfl rfl slo22 (of_decide_eq_true h74)) rfl ?_
            refine wlVal (opLoadRow (cs := x75.cells) rfl (RowG.range hC.holds hr80) row27 rfl) rfl ?_
            refine wlAlloc hC hB zero27 rfl ?_; intro b83 w hk hC hB
            refine wlStore 0 (vs := x75.cells) (cs := [(.int .i64 0), (.int .i64 0), (.int .i64 0), (.bool false), (.int .u8 0)]) (cs' := x75.cells) hC hB rfl rfl rfl sz27 rfl rfl rfl (by simp [Word.cells, Stand.cells, Wd.cells, Mark.cells]) rfl rfl ?_; intro w hC hB
            refine wlThen ?_
            refine wcSeq ?_
            refine wcRegion ?_
            refine wlVal (opFieldAddr rfl fo27_1) rfl ?_
            refine wlStore 0 (vs := [(.int .i64 0)]) (cs := x75.cells) (cs' := [(.int .i64 x75.node), (.int .i64 0), (.int .i64 x75.seq), (.bool x75.commits), (.int .u8 (((x75.b).toNat : Int)))]) hC hB rfl rfl rfl sz3 rfl rfl rfl (by simp [Word.cells, Stand.cells, Wd.cells, Mark.cells]) rfl rfl ?_; intro w hC hB
            refine wlThen ?_
            refine wcSeq ?_
            refine wcRegion ?_
            refine wlVal (opFieldAddr rfl fo27_0) rfl ?_
            refine wlVal (opLoadOne (v := (.int .i64 x75.node)) rfl (hB.cell (i := 0) rfl rfl) one3) rfl ?_
            refine wlVal (opMove rfl) rfl ?_
            refine wlVal (opMul rfl rfl) rfl ?_
            refine wlVal (opAdd rfl rfl) rfl ?_
            refine wlCallS hC hB rfl co20 rfl rfl (bring_ret _ _ hC.holds x75.node (IntKind.wrap .i64 (IntKind.wrap .i64 (3 * IntKind.wrap .i64 (1 + ((bringI faults 2)))) + 1))) ?_; intro w hk hC hB
            refine wlVal (opMove rfl) rfl ?_
            refine wlVal (opLss rfl rfl) rfl ?_
            refine wlThen ?_
            cases h84 : decide (((bringI x75.node (IntKind.wrap .i64 (IntKind.wrap .i64 (3 * IntKind.wrap .i64 (1 + ((bringI faults 2)))) + 1)))) < IntKind.wrap .i64 (1 + ((bringI faults 2))))
            · skip
              refine wcCondF rfl ?_
              refine wcSeq ?_
              refine wcRegion ?_
              refine wlVal (opMove rfl) rfl ?_
              refine wlVal (opMove rfl) rfl ?_
              refine wlVal (opLoadRow (cs := [(.int .i64 x75.node), (.int .i64 0), (.int .i64 x75.seq), (.bool x75.commits), (.int .u8 (((x75.b).toNat : Int)))]) rfl (hB.range (i := 0) (m := 5) rfl rfl) row27 rfl) rfl ?_
              replace hC := hC.permH (List.perm_append_comm_assoc O70 Ob [])
              replace hB := hB.permH (List.perm_append_comm_assoc O70 Ob [])
              replace hC : Cx w0 G0 G w ⟨[], (Ob ++ (O70 ++ []))⟩ := hC
              replace hB : Bxs G w w0.heap.size [(b83, 27, [(.int .i64 x75.node), (.int .i64 0), (.int .i64 x75.seq), (.bool x75.commits), (.int .u8 (((x75.b).toNat : Int)))]), (b67, 27, [(.int .i64 x59.node), (.int .i64 0), (.int .i64 x59.seq), (.bool x59.commits), (.int .u8 (((x59.b).toNat : Int)))])] ⟨[], (Ob ++ (O70 ++ []))⟩ := hB
              refine wlCallC (O := Ob) (B := (O70 ++ [])) hC hB rfl co9 rfl rfl (says_ret _ _ hC.holds b12 Ob sb hC.chunkHeld hC.chunkNd hKsb (IntKind.wrap .i64 (1 + ((bringI faults 2)))) ((Word.mk x75.node 0 x75.seq x75.commits x75.b)) hsil hokb) ?_; rintro v85 G O86 w hg hC hB ⟨hs87, rfl⟩
              replace htoOne := htoOne.mono hg; replace htoOther := htoOther.mono hg; replace hs16 := hs16.mono hg; replace hs22 := hs22.mono hg; replace hr64 := hr64.mono hg; replace hs71 := hs71.mono hg; replace hr80 := hr80.mono hg
              replace hsil := hsil.mono hg
              have hok88 : SlOk ((sayI sb (IntKind.wrap .i64 (1 + ((bringI faults 2)))) ((Word.mk x75.node 0 x75.seq x75.commits x75.b))).1) := (SlOk.say hokb)
              replace hC : Cx w0 G0 G w ⟨[], (O86 ++ (O70 ++ []))⟩ := hC
              replace hB : Bxs G w w0.heap.size [(b83, 27, [(.int .i64 x75.node), (.int .i64 0), (.int .i64 x75.seq), (.bool x75.commits), (.int .u8 (((x75.b).toNat : Int)))]), (b67, 27, [(.int .i64 x59.node), (.int .i64 0), (.int .i64 x59.seq), (.bool x59.commits), (.int .u8 (((x59.b).toNat : Int)))])] ⟨[], (O86 ++ (O70 ++ []))⟩ := hB
              refine wlVal (opEql rfl rfl) rfl ?_
              refine wlThen ?_
              cases h89 : (((sayI sb (IntKind.wrap .i64 (1 + ((bringI faults 2)))) ((Word.mk x75.node 0 x75.seq x75.commits x75.b))).2)) == 0
              · skip
                refine wcCondF rfl ?_
                refine wcSkip ?_
                refine wcOf ?_
                refine wcRegion ?_
                refine wlVal (opMove rfl) rfl ?_
                refine wlVal (opIncr rfl rfl (by have q1 := of_decide_eq_true h27; omega)) rfl ?_
                refine wlVal (opAssign rfl) rfl ?_
                refine wlRound ?_
                exact (IH0 (k + 1, O70, (sayI sa (IntKind.wrap .i64 (1 + ((bringI faults 2)))) ((Word.mk x59.node 0 x59.seq x59.commits x59.b))).1, O86, (sayI sb (IntKind.wrap .i64 (1 + ((bringI faults 2)))) ((Word.mk x75.node 0 x75.seq x75.commits x75.b))).1) _ _ ⟨hC, hB.tail.tail, htoOne, htoOther, hs16, hs22, hsil, hs71, hs87, (SJ.swap (sj_one (SJ.swap (sj_one hJ rfl (.inr (by intro q1; have q2 := h73; rw [q1] at q2; cases q2)))) rfl (.inr (by intro q1; have q2 := h89; rw [q1] at q2; cases q2)))), hok72, hok88⟩ (by have := of_decide_eq_true h27; show 80 - (k + 1) < 80 - k; omega)).sub (fun _ ha => ((((((ha.start.cons ha (t := 1) rfl).cons ha (t := 2) rfl).cons ha (t := 7) rfl).cons ha (t := 8) rfl).cons ha (t := 9) rfl).cons ha (t := 10) rfl))
              · skip
                refine wcCondT rfl ?_
                refine wcRegion ?_
                refine wlVal (opMove rfl) rfl ?_
                refine wlVal (opMove rfl) rfl ?_
                refine wlVal (opLoadRow (cs := [(.int .i64 x75.node), (.int .i64 0), (.int .i64 x75.seq), (.bool x75.commits), (.int .u8 (((x75.b).toNat : Int)))]) rfl (hB.range (i := 0) (m := 5) rfl rfl) row27 rfl) rfl ?_
                replace hC := hC.permH (List.perm_append_comm_assoc O86 O70 [])
                replace hB := hB.permH (List.perm_append_comm_assoc O86 O70 [])
                replace hC : Cx w0 G0 G w ⟨[], (O70 ++ (O86 ++ []))⟩ := hC
                replace hB : Bxs G w w0.heap.size [(b83, 27, [(.int .i64 x75.node), (.int .i64 0), (.int .i64 x75.seq), (.bool x75.commits), (.int .u8 (((x75.b).toNat : Int)))]), (b67, 27, [(.int .i64 x59.node), (.int .i64 0), (.int .i64 x59.seq), (.bool x59.commits), (.int .u8 (((x59.b).toNat : Int)))])] ⟨[], (O70 ++ (O86 ++ []))⟩ := hB
                refine wlCallC (O := O70) (B := (O86 ++ [])) hC hB rfl co9 rfl rfl (says_ret _ _ hC.holds b7 O70 ((sayI sa (IntKind.wrap .i64 (1 + ((bringI faults 2)))) ((Word.mk x59.node 0 x59.seq x59.commits x59.b))).1) hC.chunkHeld hC.chunkNd hs71 (IntKind.wrap .i64 (1 + ((bringI faults 2)))) ((Word.mk x75.node 0 x75.seq x75.commits x75.b)) hsil hok72) ?_; rintro v90 G O91 w hg hC hB ⟨hs92, rfl⟩
                replace htoOne := htoOne.mono hg; replace htoOther := htoOther.mono hg; replace hs16 := hs16.mono hg; replace hs22 := hs22.mono hg; replace hr64 := hr64.mono hg; replace hr80 := hr80.mono hg; replace hs87 := hs87.mono hg
                replace hsil := hsil.mono hg
                have hok93 : SlOk ((sayI ((sayI sa (IntKind.wrap .i64 (1 + ((bringI faults 2)))) ((Word.mk x59.node 0 x59.seq x59.commits x59.b))).1) (IntKind.wrap .i64 (1 + ((bringI faults 2)))) ((Word.mk x75.node 0 x75.seq x75.commits x75.b))).1) := (SlOk.say hok72)
                replace hC : Cx w0 G0 G w ⟨[], (O91 ++ (O86 ++ []))⟩ := hC
                replace hB : Bxs G w w0.heap.size [(b83, 27, [(.int .i64 x75.node), (.int .i64 0), (.int .i64 x75.seq), (.bool x75.commits), (.int .u8 (((x75.b).toNat : Int)))]), (b67, 27, [(.int .i64 x59.node), (.int .i64 0), (.int .i64 x59.seq), (.bool x59.commits), (.int .u8 (((x59.b).toNat : Int)))])] ⟨[], (O91 ++ (O86 ++ []))⟩ := hB
                refine wlNil ?_
                refine wcOf ?_
                refine wcRegion ?_
                refine wlVal (opMove rfl) rfl ?_
                refine wlVal (opIncr rfl rfl (by have q1 := of_decide_eq_true h27; omega)) rfl ?_
                refine wlVal (opAssign rfl) rfl ?_
                refine wlRound ?_
                replace hC := hC.permH (List.perm_append_comm_assoc O91 O86 [])
                replace hB := hB.permH (List.perm_append_comm_assoc O91 O86 [])
                replace hC : Cx w0 G0 G w ⟨[], (O86 ++ (O91 ++ []))⟩ := hC
                replace hB : Bxs G w w0.heap.size [(b83, 27, [(.int .i64 x75.node), (.int .i64 0), (.int .i64 x75.seq), (.bool x75.commits), (.int .u8 (((x75.b).toNat : Int)))]), (b67, 27, [(.int .i64 x59.node), (.int .i64 0), (.int .i64 x59.seq), (.bool x59.commits), (.int .u8 (((x59.b).toNat : Int)))])] ⟨[], (O86 ++ (O91 ++ []))⟩ := hB
                exact (IH0 (k + 1, O91, (sayI ((sayI sa (IntKind.wrap .i64 (1 + ((bringI faults 2)))) ((Word.mk x59.node 0 x59.seq x59.commits x59.b))).1) (IntKind.wrap .i64 (1 + ((bringI faults 2)))) ((Word.mk x75.node 0 x75.seq x75.commits x75.b))).1, O86, (sayI sb (IntKind.wrap .i64 (1 + ((bringI faults 2)))) ((Word.mk x75.node 0 x75.seq x75.commits x75.b))).1) _ _ ⟨hC, hB.tail.tail, htoOne, htoOther, hs16, hs22, hsil, hs92, hs87, (SJ.swap (sj_both (SJ.swap (sj_one hJ rfl (.inr (by intro q1; have q2 := h73; rw [q1] at q2; cases q2)))) rfl (wN_gt (f12 faults) h84) (eq_of_beq h89))), hok93, hok88⟩ (by have := of_decide_eq_true h27; show 80 - (k + 1) < 80 - k; omega)).sub (fun _ ha => ((((((ha.start.cons ha (t := 1) rfl).cons ha (t := 2) rfl).cons ha (t := 7) rfl).cons ha (t := 8) rfl).cons ha (t := 9) rfl).cons ha (t := 10) rfl))
            · skip
              refine wcCondT rfl ?_
              refine wcRegion ?_
              refine wlVal (opMove rfl) rfl ?_
              refine wlVal (opMove rfl) rfl ?_
              refine wlVal (opLoadRow (cs := [(.int .i64 x75.node), (.int .i64 0), (.int .i64 x75.seq), (.bool x75.commits), (.int .u8 (((x75.b).toNat : Int)))]) rfl (hB.range (i := 0) (m := 5) rfl rfl) row27 rfl) rfl ?_
              replace hC := hC.permH (List.perm_append_comm_assoc O70 Ob [])
              replace hB := hB.permH (List.perm_append_comm_assoc O70 Ob [])
              replace hC : Cx w0 G0 G w ⟨[], (Ob ++ (O70 ++ []))⟩ := hC
              replace hB : Bxs G w w0.heap.size [(b83, 27, [(.int .i64 x75.node), (.int .i64 0), (.int .i64 x75.seq), (.bool x75.commits), (.int .u8 (((x75.b).toNat : Int)))]), (b67, 27, [(.int .i64 x59.node), (.int .i64 0), (.int .i64 x59.seq), (.bool x59.commits), (.int .u8 (((x59.b).toNat : Int)))])] ⟨[], (Ob ++ (O70 ++ []))⟩ := hB
              refine wlCallC (O := Ob) (B := (O70 ++ [])) hC hB rfl co9 rfl rfl (says_ret _ _ hC.holds b12 Ob sb hC.chunkHeld hC.chunkNd hKsb (IntKind.wrap .i64 (1 + ((bringI faults 2)))) ((Word.mk x75.node 0 x75.seq x75.commits x75.b)) hsil hokb) ?_; rintro v94 G O95 w hg hC hB ⟨hs96, rfl⟩
              replace htoOne := htoOne.mono hg; replace htoOther := htoOther.mono hg; replace hs16 := hs16.mono hg; replace hs22 := hs22.mono hg; replace hr64 := hr64.mono hg; replace hs71 := hs71.mono hg; replace hr80 := hr80.mono hg
              replace hsil := hsil.mono hg
              have hok97 : SlOk ((sayI sb (IntKind.wrap .i64 (1 + ((bringI faults 2)))) ((Word.mk x75.node 0 x75.seq x75.commits x75.b))).1) := (SlOk.say hokb)
              replace hC : Cx w0 G0 G w ⟨[], (O95 ++ (O70 ++ []))⟩ := hC
              replace hB : Bxs G w w0.heap.size [(b83, 27, [(.int .i64 x75.node), (.int .i64 0), (.int .i64 x75.seq), (.bool x75.commits), (.int .u8 (((x75.b).toNat : Int)))]), (b67, 27, [(.int .i64 x59.node), (.int .i64 0), (.int .i64 x59.seq), (.bool x59.commits), (.int .u8 (((x59.b).toNat : Int)))])] ⟨[], (O95 ++ (O70 ++ []))⟩ := hB
              refine wlNil ?_
              refine wcOf ?_
              refine wcRegion ?_
              refine wlVal (opMove rfl) rfl ?_
              refine wlVal (opIncr rfl rfl (by have q1 := of_decide_eq_true h27; omega)) rfl ?_
              refine wlVal (opAssign rfl) rfl ?_
              refine wlRound ?_
              exact (IH0 (k + 1, O70, (sayI sa (IntKind.wrap .i64 (1 + ((bringI faults 2)))) ((Word.mk x59.node 0 x59.seq x59.commits x59.b))).1, O95, (sayI sb (IntKind.wrap .i64 (1 + ((bringI faults 2)))) ((Word.mk x75.node 0 x75.seq x75.commits x75.b))).1) _ _ ⟨hC, hB.tail.tail, htoOne, htoOther, hs16, hs22, hsil, hs71, hs96, (SJ.swap (sj_one (SJ.swap (sj_one hJ rfl (.inr (by intro q1; have q2 := h73; rw [q1] at q2; cases q2)))) rfl (.inl (wN_le (f12 faults) h84)))), hok72, hok97⟩ (by have := of_decide_eq_true h27; show 80 - (k + 1) < 80 - k; omega)).sub (fun _ ha => ((((((ha.start.cons ha (t := 1) rfl).cons ha (t := 2) rfl).cons ha (t := 7) rfl).cons ha (t := 8) rfl).cons ha (t := 9) rfl).cons ha (t := 10) rfl))
        · skip
          refine wcCondT rfl ?_
          refine wcRegion ?_
          refine wlVal (opMove rfl) rfl ?_
          refine wlVal (opMove rfl) rfl ?_
          refine wlVal (opLoadRow (cs := [(.int .i64 x59.node), (.int .i64 0), (.int .i64 x59.seq), (.bool x59.commits), (.int .u8 (((x59.b).toNat : Int)))]) rfl (hB.range (i := 0) (m := 5) rfl rfl) row27 rfl) rfl ?_
          replace hC := hC.permH (List.perm_append_comm_assoc O70 Ob [])
          replace hB := hB.permH (List.perm_append_comm_assoc O70 Ob [])
          replace hC : Cx w0 G0 G w ⟨[], (Ob ++ (O70 ++ []))⟩ := hC
          replace hB : Bxs G w w0.heap.size [(b67, 27, [(.int .i64 x59.node), (.int .i64 0), (.int .i64 x59.seq), (.bool x59.commits), (.int .u8 (((x59.b).toNat : Int)))])] ⟨[], (Ob ++ (O70 ++ []))⟩ := hB
          refine wlCallC (O := Ob) (B := (O70 ++ [])) hC hB rfl co9 rfl rfl (says_ret _ _ hC.holds b12 Ob sb hC.chunkHeld hC.chunkNd hKsb (IntKind.wrap .i64 (1 + ((bringI faults 2)))) ((Word.mk x59.node 0 x59.seq x59.commits x59.b)) hsil hokb) ?_; rintro v98 G O99 w hg hC hB ⟨hs100, rfl⟩
          replace htoOne := htoOne.mono hg; replace htoOther := htoOther.mono hg; replace hs16 := hs16.mono hg; replace hs22 := hs22.mono hg; replace hr64 := hr64.mono hg; replace hs71 := hs71.mono hg
          replace hsil := hsil.mono hg
          have hok101 : SlOk ((sayI sb (IntKind.wrap .i64 (1 + ((bringI faults 2)))) ((Word.mk x59.node 0 x59.seq x59.commits x59.b))).1) := (SlOk.say hokb)
          replace hC : Cx w0 G0 G w ⟨[], (O99 ++ (O70 ++ []))⟩ := hC
          replace hB : Bxs G w w0.heap.size [(b67, 27, [(.int .i64 x59.node), (.int .i64 0), (.int .i64 x59.seq), (.bool x59.commits), (.int .u8 (((x59.b).toNat : Int)))])] ⟨[], (O99 ++ (O70 ++ []))⟩ := hB
          refine wlThen ?_
          refine wcSeq ?_
          refine wcRegion ?_
          refine wlVal (opMove rfl) rfl ?_
          refine wlVal (opMove rfl) rfl ?_
          refine wlVal (opLen rfl isl22) rfl ?_
          refine wlVal (opLssN rfl rfl) rfl ?_
          refine wlThen ?_
          cases h102 : decide (k < toOther.length)
          · skip
            refine wcCondF rfl ?_
            refine wcSkip ?_
            refine wcOf ?_
            refine wcRegion ?_
            refine wlVal (opMove rfl) rfl ?_
            refine wlVal (opIncr rfl rfl (by have q1 := of_decide_eq_true h27; omega)) rfl ?_
            refine wlVal (opAssign rfl) rfl ?_
            refine wlRound ?_
            exact (IH0 (k + 1, O70, (sayI sa (IntKind.wrap .i64 (1 + ((bringI faults 2)))) ((Word.mk x59.node 0 x59.seq x59.commits x59.b))).1, O99, (sayI sb (IntKind.wrap .i64 (1 + ((bringI faults 2)))) ((Word.mk x59.node 0 x59.seq x59.commits x59.b))).1) _ _ ⟨hC, hB.tail, htoOne, htoOther, hs16, hs22, hsil, hs71, hs100, (sj_both hJ rfl (wN_gt (f12 faults) h68) (eq_of_beq h73)), hok72, hok101⟩ (by have := of_decide_eq_true h27; show 80 - (k + 1) < 80 - k; omega)).sub (fun _ ha => ((((((ha.start.cons ha (t := 1) rfl).cons ha (t := 2) rfl).cons ha (t := 7) rfl).cons ha (t := 8) rfl).cons ha (t := 9) rfl).cons ha (t := 10) rfl))
          · skip
            refine wcCondT rfl ?_
            refine wcSeq ?_
            refine wcRegion ?_
            refine wlVal (opMove rfl) rfl ?_
            refine wlVal (opMove rfl) rfl ?_
            obtain ⟨x103, hx104⟩ : ∃ y_, toOther[k]? = some y_ := ⟨_, List.getElem?_eq_getElem (of_decide_eq_true h102)⟩
            obtain ⟨b105, o106, row107, hA110, hr108, hi109⟩ := htoOther.elem hx104; subst hA110
            obtain rfl := hi109
            refine wlVal (opIndexAddr rfl rfl slo22 (of_decide_eq_true h102)) rfl ?_
            refine wlVal (opLoadRow (cs := x103.cells) rfl (RowG.range hC.holds hr108) row27 rfl) rfl ?_
            refine wlAlloc hC hB zero27 rfl ?_; intro b111 w hk hC hB
            refine wlStore 0 (vs := x103.cells) (cs := [(.int .i64 0), (.int .i64 0), (.int .i64 0), (.bool false), (.int .u8 0)]) (cs' := x103.cells) hC hB rfl rfl rfl sz27 rfl rfl rfl (by simp [Word.cells, Stand.cells, Wd.cells, Mark.cells]) rfl rfl ?_; intro w hC hB
            refine wlThen ?_
            refine wcSeq ?_
            refine wcRegion ?_
            refine wlVal (opFieldAddr rfl fo27_1) rfl ?_
            refine wlStore 0 (vs := [(.int .i64 0)]) (cs := x103.cells) (cs' := [(.int .i64 x103.node), (.int .i64 0), (.int .i64 x103.seq), (.bool x103.commits), (.int .u8 (((x103.b).toNat : Int)))]) hC hB rfl rfl rfl sz3 rfl rfl rfl (by simp [Word.cells, Stand.cells, Wd.cells, Mark.cells]) rfl rfl ?_; intro w hC hB
            refine wlThen ?_
            refine wcSeq ?_
            refine wcRegion ?_
            refine wlVal (opFieldAddr rfl fo27_0) rfl ?_
            refine wlVal (opLoadOne (v := (.int .i64 x103.node)) rfl (hB.cell (i := 0) rfl rfl) one3) rfl ?_
            refine wlVal (opMove rfl) rfl ?_
            refine wlVal (opMul rfl rfl) rfl ?_
            refine wlVal (opAdd rfl rfl) rfl ?_
            refine wlCallS hC hB rfl co20 rfl rfl (bring_ret _ _ hC.holds x103.node (IntKind.wrap .i64 (IntKind.wrap .i64 (3 * IntKind.wrap .i64 (1 + ((bringI faults 2)))) + 1))) ?_; intro w hk hC hB
            refine wlVal (opMove rfl) rfl ?_
            refine wlVal (opLss rfl rfl) rfl ?_
            refine wlThen ?_
            cases h112 : decide (((bringI x103.node (IntKind.wrap .i64 (IntKind.wrap .i64 (3 * IntKind.wrap .i64 (1 + ((bringI faults 2)))) + 1)))) < IntKind.wrap .i64 (1 + ((bringI faults 2))))
            · skip
              refine wcCondF rfl ?_
              refine wcSeq ?_
              refine wcRegion ?_
              refine wlVal (opMove rfl) rfl ?_
              refine wlVal (opMove rfl) rfl ?_
              refine wlVal (opLoadRow (cs := [(.int .i64 x103.node), (.int .i64 0), (.int .i64 x103.seq), (.bool x103.commits), (.int .u8 (((x103.b).toNat : Int)))]) rfl (hB.range (i := 0) (m := 5) rfl rfl) row27 rfl) rfl ?_
              refine wlCallC (O := O99) (B := (O70 ++ [])) hC hB rfl co9 rfl rfl (says_ret _ _ hC.holds b12 O99 ((sayI sb (IntKind.wrap .i64 (1 + ((bringI faults 2)))) ((Word.mk x59.node 0 x59.seq x59.commits x59.b))).1) hC.chunkHeld hC.chunkNd hs100 (IntKind.wrap .i64 (1 + ((bringI faults 2)))) ((Word.mk x103.node 0 x103.seq x103.commits x103.b)) hsil hok101) ?_; rintro v113 G O114 w hg hC hB ⟨hs115, rfl⟩
              replace htoOne := htoOne.mono hg; replace htoOther := htoOther.mono hg; replace hs16 := hs16.mono hg; replace hs22 := hs22.mono hg; replace hr64 := hr64.mono hg; replace hs71 := hs71.mono hg; replace hr108 := hr108.mono hg
              replace hsil := hsil.mono hg
              have hok116 : SlOk ((sayI ((sayI sb (IntKind.wrap .i64 (1 + ((bringI faults 2)))) ((Word.mk x59.node 0 x59.seq x59.commits x59.b))).1) (IntKind.wrap .i64 (1 + ((bringI faults 2)))) ((Word.mk x103.node 0 x103.seq x103.commits x103.b))).1) := (SlOk.say hok101)
              replace hC : Cx w0 G0 G w ⟨[], (O114 ++ (O70 ++ []))⟩ := hC
              replace hB : Bxs G w w0.heap.size [(b111, 27, [(.int .i64 x103.node), (.int .i64 0), (.int .i64 x103.seq), (.bool x103.commits), (.int .u8 (((x103.b).toNat : Int)))]), (b67, 27, [(.int .i64 x59.node), (.int .i64 0), (.int .i64 x59.seq), (.bool x59.commits), (.int .u8 (((x59.b).toNat : Int)))])] ⟨[], (O114 ++ (O70 ++ []))⟩ := hB
              refine wlVal (opEql rfl rfl) rfl ?_
              refine wlThen ?_
              cases h117 : (((sayI ((sayI sb (IntKind.wrap .i64 (1 + ((bringI faults 2)))) ((Word.mk x59.node 0 x59.seq x59.commits x59.b))).1) (IntKind.wrap .i64 (1 + ((bringI faults 2)))) ((Word.mk x103.node 0 x103.seq x103.commits x103.b))).2)) == 0
              · skip
                refine wcCondF rfl ?_
                refine wcSkip ?_
                refine wcOf ?_
                refine wcRegion ?_
                refine wlVal (opMove rfl) rfl ?_
                refine wlVal (opIncr rfl rfl (by have q1 := of_decide_eq_true h27; omega)) rfl ?_
                refine wlVal (opAssign rfl) rfl ?_
                refine wlRound ?_
                exact (IH0 (k + 1, O70, (sayI sa (IntKind.wrap .i64 (1 + ((bringI faults 2)))) ((Word.mk x59.node 0 x59.seq x59.commits x59.b))).1, O114, (sayI ((sayI sb (IntKind.wrap .i64 (1 + ((bringI faults 2)))) ((Word.mk x59.node 0 x59.seq x59.commits x59.b))).1) (IntKind.wrap .i64 (1 + ((bringI faults 2)))) ((Word.mk x103.node 0 x103.seq x103.commits x103.b))).1) _ _ ⟨hC, hB.tail.tail, htoOne, htoOther, hs16, hs22, hsil, hs71, hs115, (SJ.swap (sj_one (SJ.swap (sj_both hJ rfl (wN_gt (f12 faults) h68) (eq_of_beq h73))) rfl (.inr (by intro q1; have q2 := h117; rw [q1] at q2; cases q2)))), hok72, hok116⟩ (by have := of_decide_eq_true h27; show 80 - (k + 1) < 80 - k; omega)).sub (fun _ ha => ((((((ha.start.cons ha (t := 1) rfl).cons ha (t := 2) rfl).cons ha (t := 7) rfl).cons ha (t := 8) rfl).cons ha (t := 9) rfl).cons ha (t := 10) rfl))
              · skip
                refine wcCondT rfl ?_
                refine wcRegion ?_
                refine wlVal (opMove rfl) rfl ?_
                refine wlVal (opMove rfl) rfl ?_
                refine wlVal (opLoadRow (cs := [(.int .i64 x103.node), (.int .i64 0), (.int .i64 x103.seq), (.bool x103.commits), (.int .u8 (((x103.b).toNat : Int)))]) rfl (hB.range (i := 0) (m := 5) rfl rfl) row27 rfl) rfl ?_
                replace hC := hC.permH (List.perm_append_comm_assoc O114 O70 [])
                replace hB := hB.permH (List.perm_append_comm_assoc O114 O70 [])
                replace hC : Cx w0 G0 G w ⟨[], (O70 ++ (O114 ++ []))⟩ := hC
                replace hB : Bxs G w w0.heap.size [(b111, 27, [(.int .i64 x103.node), (.int .i64 0), (.int .i64 x103.seq), (.bool x103.commits), (.int .u8 (((x103.b).toNat : Int)))]), (b67, 27, [(.int .i64 x59.node), (.int .i64 0), (.int .i64 x59.seq), (.bool x59.commits), (.int .u8 (((x59.b).toNat : Int)))])] ⟨[], (O70 ++ (O114 ++ []))⟩ := hB
                refine wlCallC (O := O70) (B := (O114 ++ [])) hC hB rfl co9 rfl rfl (says_ret _ _ hC.holds b7 O70 ((sayI sa (IntKind.wrap .i64 (1 + ((bringI faults 2)))) ((Word.mk x59.node 0 x59.seq x59.commits x59.b))).1) hC.chunkHeld hC.chunkNd hs71 (IntKind.wrap .i64 (1 + ((bringI faults 2)))) ((Word.mk x103.node 0 x103.seq x103.commits x103.b)) hsil hok72) ?_; rintro v118 G O119 w hg hC hB ⟨hs120, rfl⟩
                replace htoOne := htoOne.mono hg; replace htoOther := htoOther.mono hg; replace hs16 := hs16.mono hg; replace hs22 := hs22.mono hg; replace hr64 := hr64.mono hg; replace hr108 := hr108.mono hg; replace hs115 := hs115.mono hg
                replace hsil := hsil.mono hg
                have hok121 : SlOk ((sayI ((sayI sa (IntKind.wrap .i64 (1 + ((bringI faults 2)))) ((Word.mk x59.node 0 x59.seq x59.commits x59.b))).1) (IntKind.wrap .i64 (1 + ((bringI faults 2)))) ((Word.mk x103.node 0 x103.seq x103.commits x103.b))).1) := (SlOk.say hok72)
                replace hC : Cx w0 G0 G w ⟨[], (O119 ++ (O114 ++ []))⟩ := hC
                replace hB : Bxs G w w0.heap.size [(b111, 27, [(.int .i64 x103.node), (.int .i64 0), (.int .i64 x103.seq), (.bool x103.commits), (.int .u8 (((x103.b).toNat : Int)))]), (b67, 27, [(.int .i64 x59.node), (.int .i64 0), (.int .i64 x59.seq), (.bool x59.commits), (.int .u8 (((x59.b).toNat : Int)))])] ⟨[], (O119 ++ (O114 ++ []))⟩ := hB
                refine wlNil ?_
                refine wcOf ?_
                refine wcRegion ?_
                refine wlVal (opMove rfl) rfl ?_
                refine wlVal (opIncr rfl rfl (by have q1 := of_decide_eq_true h27; omega)) rfl ?_
                refine wlVal (opAssign rfl) rfl ?_
                refine wlRound ?_
                replace hC := hC.permH (List.perm_append_comm_assoc O119 O114 [])
                replace hB := hB.permH (List.perm_append_comm_assoc O119 O114 [])
                replace hC : Cx w0 G0 G w ⟨[], (O114 ++ (O119 ++ []))⟩ := hC
                replace hB : Bxs G w w0.heap.size [(b111, 27, [(.int .i64 x103.node), (.int .i64 0), (.int .i64 x103.seq), (.bool x103.commits), (.int .u8 (((x103.b).toNat : Int)))]), (b67, 27, [(.int .i64 x59.node), (.int .i64 0), (.int .i64 x59.seq), (.bool x59.commits), (.int .u8 (((x59.b).toNat : Int)))])] ⟨[], (O114 ++ (O119 ++ []))⟩ := hB
                exact (IH0 (k + 1, O119, (sayI ((sayI sa (IntKind.wrap .i64 (1 + ((bringI faults 2)))) ((Word.mk x59.node 0 x59.seq x59.commits x59.b))).1) (IntKind.wrap .i64 (1 + ((bringI faults 2)))) ((Word.mk x103.node 0 x103.seq x103.commits x103.b))).1, O114, (sayI ((sayI sb (IntKind.wrap .i64 (1 + ((bringI faults 2)))) ((Word.mk x59.node 0 x59.seq x59.commits x59.b))).1) (IntKind.wrap .i64 (1 + ((bringI faults 2)))) ((Word.mk x103.node 0 x103.seq x103.commits x103.b))).1) _ _ ⟨hC, hB.tail.tail, htoOne, htoOther, hs16, hs22, hsil, hs120, hs115, (SJ.swap (sj_both (SJ.swap (sj_both hJ rfl (wN_gt (f12 faults) h68) (eq_of_beq h73))) rfl (wN_gt (f12 faults) h112) (eq_of_beq h117))), hok121, hok116⟩ (by have := of_decide_eq_true h27; show 80 - (k + 1) < 80 - k; omega)).sub (fun _ ha => ((((((ha.start.cons ha (t := 1) rfl).cons ha (t := 2) rfl).cons ha (t := 7) rfl).cons ha (t := 8) rfl).cons ha (t := 9) rfl).cons ha (t := 10) rfl))
            · skip
              refine wcCondT rfl ?_
              refine wcRegion ?_
              refine wlVal (opMove rfl) rfl ?_
              refine wlVal (opMove rfl) rfl ?_
              refine wlVal (opLoadRow (cs := [(.int .i64 x103.node), (.int .i64 0), (.int .i64 x103.seq), (.bool x103.commits), (.int .u8 (((x103.b).toNat : Int)))]) rfl (hB.range (i := 0) (m := 5) rfl rfl) row27 rfl) rfl ?_
              refine wlCallC (O := O99) (B := (O70 ++ [])) hC hB rfl co9 rfl rfl (says_ret _ _ hC.holds b12 O99 ((sayI sb (IntKind.wrap .i64 (1 + ((bringI faults 2)))) ((Word.mk x59.node 0 x59.seq x59.commits x59.b))).1) hC.chunkHeld hC.chunkNd hs100 (IntKind.wrap .i64 (1 + ((bringI faults 2)))) ((Word.mk x103.node 0 x103.seq x103.commits x103.b)) hsil hok101) ?_; rintro v122 G O123 w hg hC hB ⟨hs124, rfl⟩
              replace htoOne := htoOne.mono hg; replace htoOther := htoOther.mono hg; replace hs16 := hs16.mono hg; replace hs22 := hs22.mono hg; replace hr64 := hr64.mono hg; replace hs71 := hs71.mono hg; replace hr108 := hr108.mono hg
              replace hsil := hsil.mono hg
              have hok125 : SlOk ((sayI ((sayI sb (IntKind.wrap .i64 (1 + ((bringI faults 2)))) ((Word.mk x59.node 0 x59.seq x59.commits x59.b))).1) (IntKind.wrap .i64 (1 + ((bringI faults 2)))) ((Word.mk x103.node 0 x103.seq x103.commits x103.b))).1) := (SlOk.say hok101)
              replace hC : Cx w0 G0 G w ⟨[], (O123 ++ (O70 ++ []))⟩ := hC
              replace hB : Bxs G w w0.heap.size [(b111, 27, [(.int .i64 x103.node), (.int .i64 0), (.int .i64 x103.seq), (.bool x103.commits), (.int .u8 (((x103.b).toNat : Int)))]), (b67, 27, [(.int .i64 x59.node), (.int .i64 0), (.int .i64 x59.seq), (.bool x59.commits), (.int .u8 (((x59.b).toNat : Int)))])] ⟨[], (O123 ++ (O70 ++ []))⟩ := hB
              refine wlNil ?_
              refine wcOf ?_
              refine wcRegion ?_
              refine wlVal (opMove rfl) rfl ?_
              refine wlVal (opIncr rfl rfl (by have q1 := of_decide_eq_true h27; omega)) rfl ?_
              refine wlVal (opAssign rfl) rfl ?_
              refine wlRound ?_
              exact (IH0 (k + 1, O70, (sayI sa (IntKind.wrap .i64 (1 + ((bringI faults 2)))) ((Word.mk x59.node 0 x59.seq x59.commits x59.b))).1, O123, (sayI ((sayI sb (IntKind.wrap .i64 (1 + ((bringI faults 2)))) ((Word.mk x59.node 0 x59.seq x59.commits x59.b))).1) (IntKind.wrap .i64 (1 + ((bringI faults 2)))) ((Word.mk x103.node 0 x103.seq x103.commits x103.b))).1) _ _ ⟨hC, hB.tail.tail, htoOne, htoOther, hs16, hs22, hsil, hs71, hs124, (SJ.swap (sj_one (SJ.swap (sj_both hJ rfl (wN_gt (f12 faults) h68) (eq_of_beq h73))) rfl (.inl (wN_le (f12 faults) h112)))), hok72, hok125⟩ (by have := of_decide_eq_true h27; show 80 - (k + 1) < 80 - k; omega)).sub (fun _ ha => ((((((ha.start.cons ha (t := 1) rfl).cons ha (t := 2) rfl).cons ha (t := 7) rfl).cons ha (t := 8) rfl).cons ha (t := 9) rfl).cons ha (t := 10) rfl))
      · skip
        refine wcCondT rfl ?_
        refine wcRegion ?_
        refine wlVal (opMove rfl) rfl ?_
        refine wlVal (opMove rfl) rfl ?_
        refine wlVal (opLoadRow (cs := [(.int .i64 x59.node), (.int .i64 0), (.int .i64 x59.seq), (.bool x59.commits), (.int .u8 (((x59.b).toNat : Int)))]) rfl (hB.range (i := 0) (m := 5) rfl rfl) row27 rfl) rfl ?_
        replace hC := hC.permH (List.perm_append_comm_assoc Ob Oa [])
        replace hB := hB.permH (List.perm_append_comm_assoc Ob Oa [])
        replace hC : Cx w0 G0 G w ⟨[], (Oa ++ (Ob ++ []))⟩ := hC
        replace hB : Bxs G w w0.heap.size [(b67, 27, [(.int .i64 x59.node), (.int .i64 0), (.int .i64 x59.seq), (.bool x59.commits), (.int .u8 (((x59.b).toNat : Int)))])] ⟨[], (Oa ++ (Ob ++ []))⟩ := hB
        refine wlCallC (O := Oa) (B := (Ob ++ [])) hC hB rfl co9 rfl rfl (says_ret _ _ hC.holds b7 Oa sa hC.chunkHeld hC.chunkNd hKsa (IntKind.wrap .i64 (1 + ((bringI faults 2)))) ((Word.mk x59.node 0 x59.seq x59.commits x59.b)) hsil hoka) ?_; rintro v126 G O127 w hg hC hB ⟨hs128, rfl⟩
        replace htoOne := htoOne.mono hg; replace htoOther := htoOther.mono hg; replace hs16 := hs16.mono hg; replace hs22 := hs22.mono hg; replace hKsb := hKsb.mono hg; replace hr64 := hr64.mono hg
        replace hsil := hsil.mono hg
        have hok129 : SlOk ((sayI sa (IntKind.wrap .i64 (1 + ((bringI faults 2)))) ((Word.mk x59.node 0 x59.seq x59.commits x59.b))).1) := (SlOk.say hoka)
        replace hC : Cx w0 G0 G w ⟨[], (O127 ++ (Ob ++ []))⟩ := hC
        replace hB : Bxs G w w0.heap.size [(b67, 27, [(.int .i64 x59.node), (.int .i64 0), (.int .i64 x59.seq), (.bool x59.commits), (.int .u8 (((x59.b).toNat : Int)))])] ⟨[], (O127 ++ (Ob ++ []))⟩ := hB
        refine wlThen ?_
        refine wcSeq ?_
        refine wcRegion ?_
        refine wlVal (opMove rfl) rfl ?_
        refine wlVal (opMove rfl) rfl ?_
        refine wlVal (opLen rfl isl22) rfl ?_
        refine wlVal (opLssN rfl rfl) rfl ?_
        refine wlThen ?_
        cases h130 : decide (k < toOther.length)
        · skip
          refine wcCondF rfl ?_
          refine wcSkip ?_
          refine wcOf ?_
          refine wcRegion ?_
          refine wlVal (opMove rfl) rfl ?_
          refine wlVal (opIncr rfl rfl (by have q1 := of_decide_eq_true h27; omega)) rfl ?_
          refine wlVal (opAssign rfl) rfl ?_
          refine wlRound ?_
          replace hC := hC.permH (List.perm_append_comm_assoc O127 Ob [])
          replace hB := hB.permH (List.perm_append_comm_assoc O127 Ob [])
          replace hC : Cx w0 G0 G w ⟨[], (Ob ++ (O127 ++ []))⟩ := hC
          replace hB : Bxs G w w0.heap.size [(b67, 27, [(.int .i64 x59.node), (.int .i64 0), (.int .i64 x59.seq), (.bool x59.commits), (.int .u8 (((x59.b).toNat : Int)))])] ⟨[], (Ob ++ (O127 ++ []))⟩ := hB
          exact (IH0 (k + 1, O127, (sayI sa (IntKind.wrap .i64 (1 + ((bringI faults 2)))) ((Word.mk x59.node 0 x59.seq x59.commits x59.b))).1, Ob, sb) _ _ ⟨hC, hB.tail, htoOne, htoOther, hs16, hs22, hsil, hs128, hKsb, (sj_one hJ rfl (.inl (wN_le (f12 faults) h68))), hok129, hokb⟩ (by have := of_decide_eq_true h27; show 80 - (k + 1) < 80 - k; omega)).sub (fun _ ha => ((((((ha.start.cons ha (t := 1) rfl).cons ha (t := 2) rfl).cons ha (t := 7) rfl).cons ha (t := 8) rfl).cons ha (t := 9) rfl).cons ha (t := 10) rfl))
        · skip
          refine wcCondT rfl ?_
          refine wcSeq ?_
          refine wcRegion ?_
          refine wlVal (opMove rfl) rfl ?_
          refine wlVal (opMove rfl) rfl ?_
          obtain ⟨x131, hx132⟩ : ∃ y_, toOther[k]? = some y_ := ⟨_, List.getElem?_eq_getElem (of_decide_eq_true h130)⟩
          obtain ⟨b133, o134, row135, hA138, hr136, hi137⟩ := htoOther.elem hx132; subst hA138
          obtain rfl := hi137
          refine wlVal (opIndexAddr rfl rfl slo22 (of_decide_eq_true h130)) rfl ?_
          refine wlVal (opLoadRow (cs := x131.cells) rfl (RowG.range hC.holds hr136) row27 rfl) rfl ?_
          refine wlAlloc hC hB zero27 rfl ?_; intro b139 w hk hC hB
          refine wlStore 0 (vs := x131.cells) (cs := [(.int .i64 0), (.int .i64 0), (.int .i64 0), (.bool false), (.int .u8 0)]) (cs' := x131.cells) hC hB rfl rfl rfl sz27 rfl rfl rfl (by simp [Word.cells, Stand.cells, Wd.cells, Mark.cells]) rfl rfl ?_; intro w hC hB
          refine wlThen ?_
          refine wcSeq ?_
          refine wcRegion ?_
          refine wlVal (opFieldAddr rfl fo27_1) rfl ?_
          refine wlStore 0 (vs := [(.int .i64 0)]) (cs := x131.cells) (cs' := [(.int .i64 x131.node), (.int .i64 0), (.int .i64 x131.seq), (.bool x131.commits), (.int .u8 (((x131.b).toNat : Int)))]) hC hB rfl rfl rfl sz3 rfl rfl rfl (by simp [Word.cells, Stand.cells, Wd.cells, Mark.cells]) rfl rfl ?_; intro w hC hB
          refine wlThen ?_
          refine wcSeq ?_
          refine wcRegion ?_
          refine wlVal (opFieldAddr rfl fo27_0) rfl ?_
          refine wlVal (opLoadOne (v := (.int .i64 x131.node)) rfl (hB.cell (i := 0) rfl rfl) one3) rfl ?_
          refine wlVal (opMove rfl) rfl ?_
          refine wlVal (opMul rfl rfl) rfl ?_
          refine wlVal (opAdd rfl rfl) rfl ?_
          refine wlCallS hC hB rfl co20 rfl rfl (bring_ret _ _ hC.holds x131.node (IntKind.wrap .i64 (IntKind.wrap .i64 (3 * IntKind.wrap .i64 (1 + ((bringI faults 2)))) + 1))) ?_; intro w hk hC hB
          refine wlVal (opMove rfl) rfl ?_
          refine wlVal (opLss rfl rfl) rfl ?_
          refine wlThen ?_
          cases h140 : decide (((bringI x131.node (IntKind.wrap .i64 (IntKind.wrap .i64 (3 * IntKind.wrap .i64 (1 + ((bringI faults 2)))) + 1)))) < IntKind.wrap .i64 (1 + ((bringI faults 2))))
          · skip
            refine wcCondF rfl ?_
            refine wcSeq ?_
            refine wcRegion ?_
            refine wlVal (opMove rfl) rfl ?_
            refine wlVal (opMove rfl) rfl ?_
            refine wlVal (opLoadRow (cs := [(.int .i64 x131.node), (.int .i64 0), (.int .i64 x131.seq), (.bool x131.commits), (.int .u8 (((x131.b).toNat : Int)))]) rfl (hB.range (i := 0) (m := 5) rfl rfl) row27 rfl) rfl ?_
            replace hC := hC.permH (List.perm_append_comm_assoc O127 Ob [])
            replace hB := hB.permH (List.perm_append_comm_assoc O127 Ob [])
            replace hC : Cx w0 G0 G w ⟨[], (Ob ++ (O127 ++ []))⟩ := hC
            replace hB : Bxs G w w0.heap.size [(b139, 27, [(.int .i64 x131.node), (.int .i64 0), (.int .i64 x131.seq), (.bool x131.commits), (.int .u8 (((x131.b).toNat : Int)))]), (b67, 27, [(.int .i64 x59.node), (.int .i64 0), (.int .i64 x59.seq), (.bool x59.commits), (.int .u8 (((x59.b).toNat : Int)))])] ⟨[], (Ob ++ (O127 ++ []))⟩ := hB
            refine wlCallC (O := Ob) (B := (O127 ++ [])) hC hB rfl co9 rfl rfl (says_ret _ _ hC.holds b12 Ob sb hC.chunkHeld hC.chunkNd hKsb (IntKind.wrap .i64 (1 + ((bringI faults 2)))) ((Word.mk x131.node 0 x131.seq x131.commits x131.b)) hsil hokb) ?_; rintro v141 G O142 w hg hC hB ⟨hs143, rfl⟩
            replace htoOne := htoOne.mono hg; replace htoOther := htoOther.mono hg; replace hs16 := hs16.mono hg; replace hs22 := hs22.mono hg; replace hr64 := hr64.mono hg; replace hs128 := hs128.mono hg; replace hr136 := hr136.mono hg
            replace hsil := hsil.mono hg
            have hok144 : SlOk ((sayI sb (IntKind.wrap .i64 (1 + ((bringI faults 2)))) ((Word.mk x131.node 0 x131.seq x131.commits x131.b))).1) := (SlOk.say hokb)
            replace hC : Cx w0 G0 G w ⟨[], (O142 ++ (O127 ++ []))⟩ := hC
            replace hB : Bxs G w w0.heap.size [(b139, 27, [(.int .i64 x131.node), (.int .i64 0), (.int .i64 x131.seq), (.bool x131.commits), (.int .u8 (((x131.b).toNat : Int)))]), (b67, 27, [(.int .i64 x59.node), (.int .i64 0), (.int .i64 x59.seq), (.bool x59.commits), (.int .u8 (((x59.b).toNat : Int)))])] ⟨[], (O142 ++ (O127 ++ []))⟩ := hB
            refine wlVal (opEql rfl rfl) rfl ?_
            refine wlThen ?_
            cases h145 : (((sayI sb (IntKind.wrap .i64 (1 + ((bringI faults 2)))) ((Word.mk x131.node 0 x131.seq x131.commits x131.b))).2)) == 0
            · skip
              refine wcCondF rfl ?_
              refine wcSkip ?_
              refine wcOf ?_
              refine wcRegion ?_
              refine wlVal (opMove rfl) rfl ?_
              refine wlVal (opIncr rfl rfl (by have q1 := of_decide_eq_true h27; omega)) rfl ?_
              refine wlVal (opAssign rfl) rfl ?_
              refine wlRound ?_
              exact (IH0 (k + 1, O127, (sayI sa (IntKind.wrap .i64 (1 + ((bringI faults 2)))) ((Word.mk x59.node 0 x59.seq x59.commits x59.b))).1, O142, (sayI sb (IntKind.wrap .i64 (1 + ((bringI faults 2)))) ((Word.mk x131.node 0 x131.seq x131.commits x131.b))).1) _ _ ⟨hC, hB.tail.tail, htoOne, htoOther, hs16, hs22, hsil, hs128, hs143, (SJ.swap (sj_one (SJ.swap (sj_one hJ rfl (.inl (wN_le (f12 faults) h68)))) rfl (.inr (by intro q1; have q2 := h145; rw [q1] at q2; cases q2)))), hok129, hok144⟩ (by have := of_decide_eq_true h27; show 80 - (k + 1) < 80 - k; omega)).sub (fun _ ha => ((((((ha.start.cons ha (t := 1) rfl).cons ha (t := 2) rfl).cons ha (t := 7) rfl).cons ha (t := 8) rfl).cons ha (t := 9) rfl).cons ha (t := 10) rfl))
            · skip
              refine wcCondT rfl ?_
              refine wcRegion ?_
              refine wlVal (opMove rfl) rfl ?_
              refine wlVal (opMove rfl) rfl ?_
              refine wlVal (opLoadRow (cs := [(.int .i64 x131.node), (.int .i64 0), (.int .i64 x131.seq), (.bool x131.commits), (.int .u8 (((x131.b).toNat : Int)))]) rfl (hB.range (i := 0) (m := 5) rfl rfl) row27 rfl) rfl ?_
              replace hC := hC.permH (List.perm_append_comm_assoc O142 O127 [])
              replace hB := hB.permH (List.perm_append_comm_assoc O142 O127 [])
              replace hC : Cx w0 G0 G w ⟨[], (O127 ++ (O142 ++ []))⟩ := hC
              replace hB : Bxs G w w0.heap.size [(b139, 27, [(.int .i64 x131.node), (.int .i64 0), (.int .i64 x131.seq), (.bool x131.commits), (.int .u8 (((x131.b).toNat : Int)))]), (b67, 27, [(.int .i64 x59.node), (.int .i64 0), (.int .i64 x59.seq), (.bool x59.commits), (.int .u8 (((x59.b).toNat : Int)))])] ⟨[], (O127 ++ (O142 ++ []))⟩ := hB
              refine wlCallC (O := O127) (B := (O142 ++ [])) hC hB rfl co9 rfl rfl (says_ret _ _ hC.holds b7 O127 ((sayI sa (IntKind.wrap .i64 (1 + ((bringI faults 2)))) ((Word.mk x59.node 0 x59.seq x59.commits x59.b))).1) hC.chunkHeld hC.chunkNd hs128 (IntKind.wrap .i64 (1 + ((bringI faults 2)))) ((Word.mk x131.node 0 x131.seq x131.commits x131.b)) hsil hok129) ?_; rintro v146 G O147 w hg hC hB ⟨hs148, rfl⟩
              replace htoOne := htoOne.mono hg; replace htoOther := htoOther.mono hg; replace hs16 := hs16.mono hg; replace hs22 := hs22.mono hg; replace hr64 := hr64.mono hg; replace hr136 := hr136.mono hg; replace hs143 := hs143.mono hg
              replace hsil := hsil.mono hg
              have hok149 : SlOk ((sayI ((sayI sa (IntKind.wrap .i64 (1 + ((bringI faults 2)))) ((Word.mk x59.node 0 x59.seq x59.commits x59.b))).1) (IntKind.wrap .i64 (1 + ((bringI faults 2)))) ((Word.mk x131.node 0 x131.seq x131.commits x131.b))).1) := (SlOk.say hok129)
              replace hC : Cx w0 G0 G w ⟨[], (O147 ++ (O142 ++ []))⟩ := hC
              replace hB : Bxs G w w0.heap.size [(b139, 27, [(.int .i64 x131.node), (.int .i64 0), (.int .i64 x131.seq), (.bool x131.commits), (.int .u8 (((x131.b).toNat : Int)))]), (b67, 27, [(.int .i64 x59.node), (.int .i64 0), (.int .i64 x59.seq), (.bool x59.commits), (.int .u8 (((x59.b).toNat : Int)))])] ⟨[], (O147 ++ (O142 ++ []))⟩ := hB
              refine wlNil ?_
              refine wcOf ?_
              refine wcRegion ?_
              refine wlVal (opMove rfl) rfl ?_
              refine wlVal (opIncr rfl rfl (by have q1 := of_decide_eq_true h27; omega)) rfl ?_
              refine wlVal (opAssign rfl) rfl ?_
              refine wlRound ?_
              replace hC := hC.permH (List.perm_append_comm_assoc O147 O142 [])
              replace hB := hB.permH (List.perm_append_comm_assoc O147 O142 [])
              replace hC : Cx w0 G0 G w ⟨[], (O142 ++ (O147 ++ []))⟩ := hC
              replace hB : Bxs G w w0.heap.size [(b139, 27, [(.int .i64 x131.node), (.int .i64 0), (.int .i64 x131.seq), (.bool x131.commits), (.int .u8 (((x131.b).toNat : Int)))]), (b67, 27, [(.int .i64 x59.node), (.int .i64 0), (.int .i64 x59.seq), (.bool x59.commits), (.int .u8 (((x59.b).toNat : Int)))])] ⟨[], (O142 ++ (O147 ++ []))⟩ := hB
              exact (IH0 (k + 1, O147, (sayI ((sayI sa (IntKind.wrap .i64 (1 + ((bringI faults 2)))) ((Word.mk x59.node 0 x59.seq x59.commits x59.b))).1) (IntKind.wrap .i64 (1 + ((bringI faults 2)))) ((Word.mk x131.node 0 x131.seq x131.commits x131.b))).1, O142, (sayI sb (IntKind.wrap .i64 (1 + ((bringI faults 2)))) ((Word.mk x131.node 0 x131.seq x131.commits x131.b))).1) _ _ ⟨hC, hB.tail.tail, htoOne, htoOther, hs16, hs22, hsil, hs148, hs143, (SJ.swap (sj_both (SJ.swap (sj_one hJ rfl (.inl (wN_le (f12 faults) h68)))) rfl (wN_gt (f12 faults) h140) (eq_of_beq h145))), hok149, hok144⟩ (by have := of_decide_eq_true h27; show 80 - (k + 1) < 80 - k; omega)).sub (fun _ ha => ((((((ha.start.cons ha (t := 1) rfl).cons ha (t := 2) rfl).cons ha (t := 7) rfl).cons ha (t := 8) rfl).cons ha (t := 9) rfl).cons ha (t := 10) rfl))
          · skip
            refine wcCondT rfl ?_
            refine wcRegion ?_
            refine wlVal (opMove rfl) rfl ?_
            refine wlVal (opMove rfl) rfl ?_
            refine wlVal (opLoadRow (cs := [(.int .i64 x131.node), (.int .i64 0), (.int .i64 x131.seq), (.bool x131.commits), (.int .u8 (((x131.b).toNat : Int)))]) rfl (hB.range (i := 0) (m := 5) rfl rfl) row27 rfl) rfl ?_
            replace hC := hC.permH (List.perm_append_comm_assoc O127 Ob [])
            replace hB := hB.permH (List.perm_append_comm_assoc O127 Ob [])
            replace hC : Cx w0 G0 G w ⟨[], (Ob ++ (O127 ++ []))⟩ := hC
            replace hB : Bxs G w w0.heap.size [(b139, 27, [(.int .i64 x131.node), (.int .i64 0), (.int .i64 x131.seq), (.bool x131.commits), (.int .u8 (((x131.b).toNat : Int)))]), (b67, 27, [(.int .i64 x59.node), (.int .i64 0), (.int .i64 x59.seq), (.bool x59.commits), (.int .u8 (((x59.b).toNat : Int)))])] ⟨[], (Ob ++ (O127 ++ []))⟩ := hB
            refine wlCallC (O := Ob) (B := (O127 ++ [])) hC hB rfl co9 rfl rfl (says_ret _ _ hC.holds b12 Ob sb hC.chunkHeld hC.chunkNd hKsb (IntKind.wrap .i64 (1 + ((bringI faults 2)))) ((Word.mk x131.node 0 x131.seq x131.commits x131.b)) hsil hokb) ?_; rintro v150 G O151 w hg hC hB ⟨hs152, rfl⟩
            replace htoOne := htoOne.mono hg; replace htoOther := htoOther.mono hg; replace hs16 := hs16.mono hg; replace hs22 := hs22.mono hg; replace hr64 := hr64.mono hg; replace hs128 := hs128.mono hg; replace hr136 := hr136.mono hg
            replace hsil := hsil.mono hg
            have hok153 : SlOk ((sayI sb (IntKind.wrap .i64 (1 + ((bringI faults 2)))) ((Word.mk x131.node 0 x131.seq x131.commits x131.b))).1) := (SlOk.say hokb)
            replace hC : Cx w0 G0 G w ⟨[], (O151 ++ (O127 ++ []))⟩ := hC
            replace hB : Bxs G w w0.heap.size [(b139, 27, [(.int .i64 x131.node), (.int .i64 0), (.int .i64 x131.seq), (.bool x131.commits), (.int .u8 (((x131.b).toNat : Int)))]), (b67, 27, [(.int .i64 x59.node), (.int .i64 0), (.int .i64 x59.seq), (.bool x59.commits), (.int .u8 (((x59.b).toNat : Int)))])] ⟨[], (O151 ++ (O127 ++ []))⟩ := hB
            refine wlNil ?_
            refine wcOf ?_
            refine wcRegion ?_
            refine wlVal (opMove rfl) rfl ?_
            refine wlVal (opIncr rfl rfl (by have q1 := of_decide_eq_true h27; omega)) rfl ?_
            refine wlVal (opAssign rfl) rfl ?_
            refine wlRound ?_
            exact (IH0 (k + 1, O127, (sayI sa (IntKind.wrap .i64 (1 + ((bringI faults 2)))) ((Word.mk x59.node 0 x59.seq x59.commits x59.b))).1, O151, (sayI sb (IntKind.wrap .i64 (1 + ((bringI faults 2)))) ((Word.mk x131.node 0 x131.seq x131.commits x131.b))).1) _ _ ⟨hC, hB.tail.tail, htoOne, htoOther, hs16, hs22, hsil, hs128, hs152, (SJ.swap (sj_one (SJ.swap (sj_one hJ rfl (.inl (wN_le (f12 faults) h68)))) rfl (.inl (wN_le (f12 faults) h140)))), hok129, hok153⟩ (by have := of_decide_eq_true h27; show 80 - (k + 1) < 80 - k; omega)).sub (fun _ ha => ((((((ha.start.cons ha (t := 1) rfl).cons ha (t := 2) rfl).cons ha (t := 7) rfl).cons ha (t := 8) rfl).cons ha (t := 9) rfl).cons ha (t := 10) rfl))

end Go.Proofs.YtljcgggflgbenaaDoor
