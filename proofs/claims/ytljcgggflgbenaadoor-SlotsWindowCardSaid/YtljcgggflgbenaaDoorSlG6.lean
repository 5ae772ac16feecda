/- What functions of the slots seat return, part 6. No condition. -/
import Derived.Test.YtljcgggflgbenaaDoorSlG5
import Derived.Test.YtljcgggflgbenaaDoorSlLaw2
set_option linter.all false
namespace Go.Proofs.YtljcgggflgbenaaDoor
open Go Go.Gx Go.RowKit
theorem ub4 : Tryd.prog.underlying 4 = some .bool := by kernel_rfl
theorem co24 : callOk Tryd.prog 24 = true := by kernel_rfl
theorem co21 : callOk Tryd.prog 21 = true := by kernel_rfl
theorem window_ret (G0 : Gh) (w0 : World) (hw : Holds G0 w0) (low : Int) (seq : Int) (more : Int) (hsil : RowG G0 0 0 silence.cells) :
    RetS Tryd.prog 6 #[.int .i64 low, .int .i64 seq, .int .i64 more] G0 w0 (.bool true) := by
  have hC := Cx.refl hw
  have hB : Bxs G0 w0 w0.heap.size [] := Bxs.nil _ _ _
  refine callsOf Tryd.func6 rfl _ Tryd.ntmps6 rfl _ (argsCons (argsCons (argsCons argsNil (t := 0) rfl) (t := 1) rfl) (t := 2) rfl) ?_; intro Q0 hQ
  refine wcSeq ?_
  refine wcRegion ?_
  refine wlVal (opAssign rfl) rfl ?_
  refine wlThen ?_
  refine wcSeq ?_
  refine wcRegion ?_
  refine wlVal (opMove rfl) rfl ?_
  refine wlCallS hC hB rfl co20 rfl rfl (bring_ret _ _ hC.holds low 1099511627776) ?_; intro w hk hC hB
  refine wlVal (opAssign rfl) rfl ?_
  refine wlThen ?_
  refine wcSeq ?_
  refine wcRegion ?_
  refine wlCallG hC hB rfl co23 rfl rfl (crewOf1_ret _ _ hC.holds ) ?_; rintro v3 G w hk hC hB ⟨r1, rfl, hr2⟩
  replace hsil := hsil.mono hk.gle
  obtain ⟨v4, rfl, hs5⟩ := Crew.opIs hr2
  obtain ⟨A6, cap7, rfl⟩ := hs5.form
  refine wlVal (opMove rfl) rfl ?_
  replace hC : Cx w0 G0 G w ⟨[], []⟩ := hC
  replace hB : Bxs G w w0.heap.size [] ⟨[], []⟩ := hB
  refine wlCallNew hC hB rfl co22 rfl rfl (new_ok _ _ hC.holds _ (((crewI 1))) (Crew.mkIs (x := ((crewI 1))) hs5) 1 (((bringI low 1099511627776))) hsil (w_new (bring_in (n := low) (m := 1099511627776) (by decide) (by decide)))) ?_; rintro v8 G O9 w hg hC hB ⟨b10, rfl, hs11⟩
  replace hs5 := hs5.mono hg
  replace hsil := hsil.mono hg
  have hok12 : SlOk ((newSl (((crewI 1))) (((bringI low 1099511627776))))) := (newOk_ok (w_new (bring_in (n := low) (m := 1099511627776) (by decide) (by decide))))
  replace hC : Cx w0 G0 G w ⟨[], (O9 ++ [])⟩ := hC
  replace hB : Bxs G w w0.heap.size [] ⟨[], (O9 ++ [])⟩ := hB
  refine wlVal (opMove rfl) rfl ?_
  refine wlVal (opExtract rfl rfl) rfl ?_
  refine wlVal (opExtract rfl rfl) rfl ?_
  refine wlVal (opAssign rfl) rfl ?_
  refine wlVal (opAssign rfl) rfl ?_
  refine wlThen ?_
  refine wcSeq ?_
  refine wcRegion ?_
  refine wlVal (opMove rfl) rfl ?_
  refine wlVal (opSub rfl rfl) rfl ?_
  refine wlVal (opMove rfl) rfl ?_
  refine wlCallS hC hB rfl co20 rfl rfl (bring_ret _ _ hC.holds seq 20) ?_; intro w hk hC hB
  refine wlVal (opAdd rfl rfl) rfl ?_
  refine wlVal (opAssign rfl) rfl ?_
  refine wlThen ?_
  refine wcSeq ?_
  refine wcRegion ?_
  refine wlVal (opMove rfl) rfl ?_
  refine wlVal (opMove rfl) rfl ?_
  refine wlCallS hC hB rfl co17 rfl rfl (digest_ret _ _ hC.holds ((9 : UInt8))) ?_; intro w hk hC hB
  refine wlCallC (O := O9) (B := []) hC hB rfl co18 rfl rfl (propose_ret _ _ hC.holds b10 O9 ((newSl (((crewI 1))) (((bringI low 1099511627776))))) hC.chunkHeld hC.chunkNd hs11 2 (IntKind.wrap .i64 (IntKind.wrap .i64 (((bringI low 1099511627776)) - 5) + ((bringI seq 20)))) (((digN ((9 : UInt8))))) hsil hok12) ?_; rintro v13 G O14 w hg hC hB ⟨hs15, rfl⟩
  replace hs5 := hs5.mono hg
  replace hsil := hsil.mono hg
  have hok16 : SlOk ((propI ((newSl (((crewI 1))) (((bringI low 1099511627776))))) 2 (IntKind.wrap .i64 (IntKind.wrap .i64 (((bringI low 1099511627776)) - 5) + ((bringI seq 20)))) (((digN ((9 : UInt8)))))).1) := (SlOk.prop hok12)
  replace hC : Cx w0 G0 G w ⟨[], (O14 ++ [])⟩ := hC
  replace hB : Bxs G w w0.heap.size [] ⟨[], (O14 ++ [])⟩ := hB
  refine wlVal (opAssign rfl) rfl ?_
  refine wlThen ?_
  refine wcSeq ?_
  refine wcRegion ?_
  refine wlVal (opMove rfl) rfl ?_
  refine wlVal (opMove rfl) rfl ?_
  refine wlVal (opGtr rfl rfl) rfl ?_
  refine wlVal (opMove rfl) rfl ?_
  cases h17 : decide (((bringI low 1099511627776)) < IntKind.wrap .i64 (IntKind.wrap .i64 (((bringI low 1099511627776)) - 5) + ((bringI seq 20))))
  · skip
    refine wlOff rfl rfl rfl rfl ?_
    refine wlOff rfl rfl rfl rfl ?_
    refine wlOff rfl rfl rfl rfl ?_
    refine wlOff rfl rfl rfl rfl ?_
    refine wlVal (opPickF rfl rfl) rfl ?_
    refine wlVal (opAssign rfl) rfl ?_
    refine wlThen ?_
    refine wcSeq ?_
    refine wcRegion ?_
    refine wlVal (opMove rfl) rfl ?_
    refine wlCallS hC hB rfl co20 rfl rfl (bring_ret _ _ hC.holds more 12) ?_; intro w hk hC hB
    refine wlVal (opAssign rfl) rfl ?_
    refine wlThen ?_
    refine wcSeq ?_
    refine wcSeq ?_
    refine wcRegion ?_
    refine wlVal (opMove rfl) rfl ?_
    refine wlVal (opNeq rfl rfl) rfl ?_
    refine wlVal (opMove rfl) rfl ?_
    refine wlOn rfl rfl ?_
    refine wlVal (opMove rfl) rfl ?_
    refine wlOn rfl rfl ?_
    refine wlVal (opEql rfl rfl) rfl ?_
    refine wlOn rfl rfl ?_
    refine wlVal (opMove rfl) rfl ?_
    refine wlOn rfl rfl ?_
    refine wlVal (opNeBool ub4 rfl rfl) rfl ?_
    refine wlVal (opPickF rfl rfl) rfl ?_
    refine wlVal (opMove rfl) rfl ?_
    cases h18 : ((((propI ((newSl (((crewI 1))) (((bringI low 1099511627776))))) 2 (IntKind.wrap .i64 (IntKind.wrap .i64 (((bringI low 1099511627776)) - 5) + ((bringI seq 20)))) (((digN ((9 : UInt8)))))).2)) == 0) != false
    · skip
      refine wlOn rfl rfl ?_
      refine wlVal (opMove rfl) rfl ?_
      refine wlOn rfl rfl ?_
      refine wlVal (opNot rfl) rfl ?_
      refine wlOn rfl rfl ?_
      refine wlVal (opMove rfl) rfl ?_
      refine wlOn rfl rfl ?_
      refine wlVal (opMove rfl) rfl ?_
      refine wlOn rfl rfl ?_
      refine wlVal (opNeq rfl rfl) rfl ?_
      refine wlOn rfl rfl ?_
      refine wlVal (opPickT rfl rfl) rfl ?_
      refine wlVal (opPickF rfl rfl) rfl ?_
      refine wlVal (opMove rfl) rfl ?_
      cases h19 : (((propI ((newSl (((crewI 1))) (((bringI low 1099511627776))))) 2 (IntKind.wrap .i64 (IntKind.wrap .i64 (((bringI low 1099511627776)) - 5) + ((bringI seq 20)))) (((digN ((9 : UInt8)))))).2)) != 150
      · skip
        refine wlOn rfl rfl ?_
        refine wlVal (opMove rfl) rfl ?_
        refine wlOn rfl rfl ?_
        refine wlVal (opMove rfl) rfl ?_
        refine wlOn rfl rfl ?_
        refine wlVal (opMove rfl) rfl ?_
        refine wlOn rfl rfl ?_
        refine wlVal (opAdd rfl rfl) rfl ?_
        refine wlOn rfl rfl ?_
        refine wlCallC (O := O14) (B := []) hC hB rfl co24 rfl rfl (raise_ret _ _ hC.holds b10 O14 ((propI ((newSl (((crewI 1))) (((bringI low 1099511627776))))) 2 (IntKind.wrap .i64 (IntKind.wrap .i64 (((bringI low 1099511627776)) - 5) + ((bringI seq 20)))) (((digN ((9 : UInt8)))))).1) hC.chunkHeld hC.chunkNd hs15 (IntKind.wrap .i64 (((bringI low 1099511627776)) + ((bringI more 12)))) hsil hok16) ?_; rintro v20 G O21 w hg hC hB ⟨hs22, rfl⟩
        replace hs5 := hs5.mono hg
        replace hsil := hsil.mono hg
        have hok23 : SlOk ((raiseI ((propI ((newSl (((crewI 1))) (((bringI low 1099511627776))))) 2 (IntKind.wrap .i64 (IntKind.wrap .i64 (((bringI low 1099511627776)) - 5) + ((bringI seq 20)))) (((digN ((9 : UInt8)))))).1) (IntKind.wrap .i64 (((bringI low 1099511627776)) + ((bringI more 12))))).1) := (SlOk.raise hok16)
        replace hC : Cx w0 G0 G w ⟨[], (O21 ++ [])⟩ := hC
        replace hB : Bxs G w w0.heap.size [] ⟨[], (O21 ++ [])⟩ := hB
        refine wlOn rfl rfl ?_
        refine wlVal (opNeq rfl rfl) rfl ?_
        refine wlVal (opPickF rfl rfl) rfl ?_
        refine wlVal (opMove rfl) rfl ?_
        cases h24 : (((raiseI ((propI ((newSl (((crewI 1))) (((bringI low 1099511627776))))) 2 (IntKind.wrap .i64 (IntKind.wrap .i64 (((bringI low 1099511627776)) - 5) + ((bringI seq 20)))) (((digN ((9 : UInt8)))))).1) (IntKind.wrap .i64 (((bringI low 1099511627776)) + ((bringI more 12))))).2)) != 0
        · skip
          refine wlOn rfl rfl ?_
          refine wlVal (opMove rfl) rfl ?_
          refine wlOn rfl rfl ?_
          refine wlCallS hC hB rfl co25 rfl rfl (RetS.lend hC (fun G_ hg_ hh_ hL_ => lowW_ret _ _ hh_ b10 O21 ((raiseI ((propI ((newSl (((crewI 1))) (((bringI low 1099511627776))))) 2 (IntKind.wrap .i64 (IntKind.wrap .i64 (((bringI low 1099511627776)) - 5) + ((bringI seq 20)))) (((digN ((9 : UInt8)))))).1) (IntKind.wrap .i64 (((bringI low 1099511627776)) + ((bringI more 12))))).1) (fun y hy => hL_ y (List.mem_append_left _ hy)) (hs22.mono hg_))) ?_; intro w hk hC hB
          refine wlOn rfl rfl ?_
          refine wlVal (opMove rfl) rfl ?_
          refine wlOn rfl rfl ?_
          refine wlVal (opMove rfl) rfl ?_
          refine wlOn rfl rfl ?_
          refine wlVal (opAdd rfl rfl) rfl ?_
          refine wlOn rfl rfl ?_
          refine wlVal (opNeq rfl rfl) rfl ?_
          refine wlVal (opPickF rfl rfl) rfl ?_
          refine wlVal (opMove rfl) rfl ?_
          cases h25 : ((((raiseI ((propI ((newSl (((crewI 1))) (((bringI low 1099511627776))))) 2 (IntKind.wrap .i64 (IntKind.wrap .i64 (((bringI low 1099511627776)) - 5) + ((bringI seq 20)))) (((digN ((9 : UInt8)))))).1) (IntKind.wrap .i64 (((bringI low 1099511627776)) + ((bringI more 12))))).1).low)) != (IntKind.wrap .i64 (((bringI low 1099511627776)) + ((bringI more 12))))
          · skip
            refine wlOn rfl rfl ?_
            refine wlVal (opMove rfl) rfl ?_
            refine wlOn rfl rfl ?_
            refine wlVal (opMove rfl) rfl ?_
            refine wlOn rfl rfl ?_
            refine wlVal (opMove rfl) rfl ?_
            refine wlOn rfl rfl ?_
            refine wlVal (opAdd rfl rfl) rfl ?_
            refine wlOn rfl rfl ?_
            refine wlVal (opSub rfl rfl) rfl ?_
            refine wlOn rfl rfl ?_
            refine wlCallC (O := O21) (B := []) hC hB rfl co24 rfl rfl (raise_ret _ _ hC.holds b10 O21 ((raiseI ((propI ((newSl (((crewI 1))) (((bringI low 1099511627776))))) 2 (IntKind.wrap .i64 (IntKind.wrap .i64 (((bringI low 1099511627776)) - 5) + ((bringI seq 20)))) (((digN ((9 : UInt8)))))).1) (IntKind.wrap .i64 (((bringI low 1099511627776)) + ((bringI more 12))))).1) hC.chunkHeld hC.chunkNd hs22 (IntKind.wrap .i64 (IntKind.wrap .i64 (((bringI low 1099511627776)) + ((bringI more 12))) - 1)) hsil hok23) ?_; rintro v26 G O27 w hg hC hB ⟨hs28, rfl⟩
            replace hs5 := hs5.mono hg
            replace hsil := hsil.mono hg
            have hok29 : SlOk ((raiseI ((raiseI ((propI ((newSl (((crewI 1))) (((bringI low 1099511627776))))) 2 (IntKind.wrap .i64 (IntKind.wrap .i64 (((bringI low 1099511627776)) - 5) + ((bringI seq 20)))) (((digN ((9 : UInt8)))))).1) (IntKind.wrap .i64 (((bringI low 1099511627776)) + ((bringI more 12))))).1) (IntKind.wrap .i64 (IntKind.wrap .i64 (((bringI low 1099511627776)) + ((bringI more 12))) - 1))).1) := (SlOk.raise hok23)
            replace hC : Cx w0 G0 G w ⟨[], (O27 ++ [])⟩ := hC
            replace hB : Bxs G w w0.heap.size [] ⟨[], (O27 ++ [])⟩ := hB
            refine wlOn rfl rfl ?_
            refine wlVal (opNeq rfl rfl) rfl ?_
            refine wlVal (opPickF rfl rfl) rfl ?_
            refine wlThen ?_
            cases h30 : (((raiseI ((raiseI ((propI ((newSl (((crewI 1))) (((bringI low 1099511627776))))) 2 (IntKind.wrap .i64 (IntKind.wrap .i64 (((bringI low 1099511627776)) - 5) + ((bringI seq 20)))) (((digN ((9 : UInt8)))))).1) (IntKind.wrap .i64 (((bringI low 1099511627776)) + ((bringI more 12))))).1) (IntKind.wrap .i64 (IntKind.wrap .i64 (((bringI low 1099511627776)) + ((bringI more 12))) - 1))).2)) != 9
            · skip
              refine wcCondF rfl ?_
              refine wcSkip ?_
              refine wcOf ?_
              refine wcSeq ?_
              refine wcRegion ?_
              refine wlVal (opMove rfl) rfl ?_
              refine wlVal (opMove rfl) rfl ?_
              refine wlCallS hC hB rfl co21 rfl rfl (RetS.lend hC (fun G_ hg_ hh_ hL_ => at_ret _ _ hh_ b10 O27 ((raiseI ((raiseI ((propI ((newSl (((crewI 1))) (((bringI low 1099511627776))))) 2 (IntKind.wrap .i64 (IntKind.wrap .i64 (((bringI low 1099511627776)) - 5) + ((bringI seq 20)))) (((digN ((9 : UInt8)))))).1) (IntKind.wrap .i64 (((bringI low 1099511627776)) + ((bringI more 12))))).1) (IntKind.wrap .i64 (IntKind.wrap .i64 (((bringI low 1099511627776)) + ((bringI more 12))) - 1))).1) (fun y hy => hL_ y (List.mem_append_left _ hy)) (hs28.mono hg_) (IntKind.wrap .i64 (IntKind.wrap .i64 (((bringI low 1099511627776)) - 5) + ((bringI seq 20)))) (hsil.mono hg_))) ?_; intro w hk hC hB
              refine wlVal (opMove rfl) rfl ?_
              refine wlVal (opExtract rfl rfl) rfl ?_
              refine wlVal (opExtract rfl rfl) rfl ?_
              refine wlAlloc hC hB zero43 rfl ?_; intro b31 w hk hC hB
              refine wlStore 0 (vs := (((atI ((raiseI ((raiseI ((propI ((newSl (((crewI 1))) (((bringI low 1099511627776))))) 2 (IntKind.wrap .i64 (IntKind.wrap .i64 (((bringI low 1099511627776)) - 5) + ((bringI seq 20)))) (((digN ((9 : UInt8)))))).1) (IntKind.wrap .i64 (((bringI low 1099511627776)) + ((bringI more 12))))).1) (IntKind.wrap .i64 (IntKind.wrap .i64 (((bringI low 1099511627776)) + ((bringI more 12))) - 1))).1) (IntKind.wrap .i64 (IntKind.wrap .i64 (((bringI low 1099511627776)) - 5) + ((bringI seq 20))))).1)).cells) (cs := ((.int .i64 0) :: (Dig.zero.cells ++ ((.int .i64 0) :: [])))) (cs' := (((atI ((raiseI ((raiseI ((propI ((newSl (((crewI 1))) (((bringI low 1099511627776))))) 2 (IntKind.wrap .i64 (IntKind.wrap .i64 (((bringI low 1099511627776)) - 5) + ((bringI seq 20)))) (((digN ((9 : UInt8)))))).1) (IntKind.wrap .i64 (((bringI low 1099511627776)) + ((bringI more 12))))).1) (IntKind.wrap .i64 (IntKind.wrap .i64 (((bringI low 1099511627776)) + ((bringI more 12))) - 1))).1) (IntKind.wrap .i64 (IntKind.wrap .i64 (((bringI low 1099511627776)) - 5) + ((bringI seq 20))))).1)).cells) hC hB rfl rfl rfl sz43 rfl (by simp [Word.cells, Stand.cells, Wd.cells, Mark.cells]) (by simp [Word.cells, Stand.cells, Wd.cells, Mark.cells, Value.oneCell']) (by simp [Word.cells, Stand.cells, Wd.cells, Mark.cells]) (by simp [Word.cells, Stand.cells, Wd.cells, Mark.cells]) rfl ?_; intro w hC hB
              refine wlVal (opAssign rfl) rfl ?_
              refine wlThen ?_
              refine wcSeq ?_
              refine wcDrawS 25 [0, 0, 2, 6, 6, 6, 54, 126, 254, 511, 1023, 2047, 4095, 8191, 16383, 16383, 16383, 114687, 262143, 524287, 1048575, 2097151, 4194303, 8388607, 16777215] fmix (by kernel_rfl) (by kernel_rfl) rfl hC hB ?_; intro w hC hB
              refine wdRo 0 rfl (by kernel_rfl) rfl (fun _ => (opMove rfl)) rfl ?_
              refine wdRo 1 rfl (by kernel_rfl) rfl (fun _ => (opMove rfl)) rfl ?_
              refine wdRo 2 rfl (by kernel_rfl) rfl (fun _ => (opMove rfl)) rfl ?_
              refine wdOff 3 rfl (by kernel_rfl) rfl rfl rfl rfl rfl ?_
              refine wdOff 4 rfl (by kernel_rfl) rfl rfl rfl rfl rfl ?_
              refine wdOff 5 rfl (by kernel_rfl) rfl rfl rfl rfl rfl ?_
              refine wdOff 6 rfl (by kernel_rfl) rfl rfl rfl rfl rfl ?_
              refine wdOff 7 rfl (by kernel_rfl) rfl rfl rfl rfl rfl ?_
              refine wdRo 8 rfl (by kernel_rfl) rfl (fun _ => (opPickF rfl rfl)) rfl ?_
              refine wdRo 9 rfl (by kernel_rfl) rfl (fun _ => (opEqBool ub4 rfl rfl)) rfl ?_
              refine wdRo 10 rfl (by kernel_rfl) rfl (fun _ => (opMove rfl)) rfl ?_
              cases h32 : (((atI ((raiseI ((raiseI ((propI ((newSl (((crewI 1))) (((bringI low 1099511627776))))) 2 (IntKind.wrap .i64 (IntKind.wrap .i64 (((bringI low 1099511627776)) - 5) + ((bringI seq 20)))) (((digN ((9 : UInt8)))))).1) (IntKind.wrap .i64 (((bringI low 1099511627776)) + ((bringI more 12))))).1) (IntKind.wrap .i64 (IntKind.wrap .i64 (((bringI low 1099511627776)) + ((bringI more 12))) - 1))).1) (IntKind.wrap .i64 (IntKind.wrap .i64 (((bringI low 1099511627776)) - 5) + ((bringI seq 20))))).2)) == false
              · skip
                exact (wx_at1 (bring_in (n := low) (m := 1099511627776) (by decide) (by decide)) (bring_in (n := more) (m := 12) (by decide) (by decide)) h32 (by simp only [h17, Bool.and_true, Bool.true_and, Bool.and_false, Bool.false_and])).elim
              · skip
                refine wdRoG 11 rfl (by kernel_rfl) rfl rfl rfl (fun _ => (opMove rfl)) rfl ?_
                refine wdRoG 12 rfl (by kernel_rfl) rfl rfl rfl (fun _ => (opNot rfl)) rfl ?_
                refine wdRoG 13 rfl (by kernel_rfl) rfl rfl rfl (fun _ => (opMove rfl)) rfl ?_
                cases h33 : ((atI ((raiseI ((raiseI ((propI ((newSl (((crewI 1))) (((bringI low 1099511627776))))) 2 (IntKind.wrap .i64 (IntKind.wrap .i64 (((bringI low 1099511627776)) - 5) + ((bringI seq 20)))) (((digN ((9 : UInt8)))))).1) (IntKind.wrap .i64 (((bringI low 1099511627776)) + ((bringI more 12))))).1) (IntKind.wrap .i64 (IntKind.wrap .i64 (((bringI low 1099511627776)) + ((bringI more 12))) - 1))).1) (IntKind.wrap .i64 (IntKind.wrap .i64 (((bringI low 1099511627776)) - 5) + ((bringI seq 20))))).2)
                · skip
                  refine wdOff 14 rfl (by kernel_rfl) rfl rfl rfl rfl rfl ?_
                  refine wdOff 15 rfl (by kernel_rfl) rfl rfl rfl rfl rfl ?_
                  refine wdOff 16 rfl (by kernel_rfl) rfl rfl rfl rfl rfl ?_
                  refine wdOff 17 rfl (by kernel_rfl) rfl rfl rfl rfl rfl ?_
                  refine wdOff 18 rfl (by kernel_rfl) rfl rfl rfl rfl rfl ?_
                  refine wdRoG 19 rfl (by kernel_rfl) rfl rfl rfl (fun _ => (opPickT rfl rfl)) rfl ?_
                  refine wdRo 20 rfl (by kernel_rfl) rfl (fun _ => (opPickT rfl rfl)) rfl ?_
                  refine wdRo 21 rfl (by kernel_rfl) rfl (fun _ => (opMove rfl)) rfl ?_
                  refine wdAll [22] (by kernel_rfl) rfl ⟨wd1 rfl ?_, trivial⟩
                  intro hGd
                  refine wlOn rfl rfl ?_
                  refine wlCallS hC hB rfl co16 rfl rfl (awake_ret _ _ hC.holds hsil) ?_; intro w hk hC hB
                  refine wdNext hGd rfl kpNil (Tk.nil _) ?_
                  refine wdRo 23 rfl (by kernel_rfl) rfl (fun _ => (opPickT rfl rfl)) rfl ?_
                  refine wdRo 24 rfl (by kernel_rfl) rfl (fun _ => (opAssign rfl)) rfl ?_
                  refine wdDone (by kernel_rfl) ?_
                  refine wcOf ?_
                  refine wcRet ?_
                  exact fun ac_ ha => hQ _ _ _ (results1 ha rfl rfl) ha.df (endS hC hw rfl)
                · skip
                  exact (wx_at2 (b := false) (bring_in (n := low) (m := 1099511627776) (by decide) (by decide)) (bring_in (n := more) (m := 12) (by decide) (by decide)) h33 (by simp only [h17, Bool.and_true, Bool.true_and, Bool.and_false, Bool.false_and])).elim
            · skip
              exact (wx_again (bring_in (n := low) (m := 1099511627776) (by decide) (by decide)) (bring_in (n := more) (m := 12) (by decide) (by decide)) h30).elim
          · skip
            exact (wx_low (bring_in (n := low) (m := 1099511627776) (by decide) (by decide)) (bring_in (n := more) (m := 12) (by decide) (by decide)) h25).elim
        · skip
          exact (wx_raise (bring_in (n := low) (m := 1099511627776) (by decide) (by decide)) (bring_in (n := more) (m := 12) (by decide) (by decide)) h24).elim
      · skip
        exact (wx_prop2 (bring_in (n := low) (m := 1099511627776) (by decide) (by decide)) h19 (by simp only [h17, Bool.and_true, Bool.true_and, Bool.and_false, Bool.false_and])).elim
    · skip
      exact (wx_prop (bring_in (n := low) (m := 1099511627776) (by decide) (by decide)) h18 (by simp only [h17, Bool.and_true, Bool.true_and, Bool.and_false, Bool.false_and])).elim
  · skip
    refine wlOn rfl rfl ?_
    refine wlVal (opMove rfl) rfl ?_
    refine wlOn rfl rfl ?_
    refine wlVal (opMove rfl) rfl ?_
    refine wlOn rfl rfl ?_
    refine wlVal (opAdd rfl rfl) rfl ?_
    refine wlOn rfl rfl ?_
    refine wlVal (opLeq rfl rfl) rfl ?_
    refine wlVal (opPickT rfl rfl) rfl ?_
    refine wlVal (opAssign rfl) rfl ?_
    refine wlThen ?_
    refine wcSeq ?_
    refine wcRegion ?_
    refine wlVal (opMove rfl) rfl ?_
    refine wlCallS hC hB rfl co20 rfl rfl (bring_ret _ _ hC.holds more 12) ?_; intro w hk hC hB
    refine wlVal (opAssign rfl) rfl ?_
    refine wlThen ?_
    refine wcSeq ?_
    refine wcSeq ?_
    refine wcRegion ?_
    refine wlVal (opMove rfl) rfl ?_
    refine wlVal (opNeq rfl rfl) rfl ?_
    refine wlVal (opMove rfl) rfl ?_
    refine wlOn rfl rfl ?_
    refine wlVal (opMove rfl) rfl ?_
    refine wlOn rfl rfl ?_
    refine wlVal (opEql rfl rfl) rfl ?_
    refine wlOn rfl rfl ?_
    refine wlVal (opMove rfl) rfl ?_
    refine wlOn rfl rfl ?_
    refine wlVal (opNeBool ub4 rfl rfl) rfl ?_
    refine wlVal (opPickF rfl rfl) rfl ?_
    refine wlVal (opMove rfl) rfl ?_
    cases h34 : ((((propI ((newSl (((crewI 1))) (((bringI low 1099511627776))))) 2 (IntKind.wrap .i64 (IntKind.wrap .i64 (((bringI low 1099511627776)) - 5) + ((bringI seq 20)))) (((digN ((9 : UInt8)))))).2)) == 0) != (decide (IntKind.wrap .i64 (IntKind.wrap .i64 (((bringI low 1099511627776)) - 5) + ((bringI seq 20))) ≤ IntKind.wrap .i64 (((bringI low 1099511627776)) + 8)))
    · skip
      refine wlOn rfl rfl ?_
      refine wlVal (opMove rfl) rfl ?_
      refine wlOn rfl rfl ?_
      refine wlVal (opNot rfl) rfl ?_
      refine wlOn rfl rfl ?_
      refine wlVal (opMove rfl) rfl ?_
      cases h35 : decide (IntKind.wrap .i64 (IntKind.wrap .i64 (((bringI low 1099511627776)) - 5) + ((bringI seq 20))) ≤ IntKind.wrap .i64 (((bringI low 1099511627776)) + 8))
      · skip
        refine wlOn rfl rfl ?_
        refine wlVal (opMove rfl) rfl ?_
        refine wlOn rfl rfl ?_
        refine wlVal (opNeq rfl rfl) rfl ?_
        refine wlOn rfl rfl ?_
        refine wlVal (opPickT rfl rfl) rfl ?_
        refine wlVal (opPickF rfl rfl) rfl ?_
        refine wlVal (opMove rfl) rfl ?_
        cases h36 : (((propI ((newSl (((crewI 1))) (((bringI low 1099511627776))))) 2 (IntKind.wrap .i64 (IntKind.wrap .i64 (((bringI low 1099511627776)) - 5) + ((bringI seq 20)))) (((digN ((9 : UInt8)))))).2)) != 150
        · skip
          refine wlOn rfl rfl ?_
          refine wlVal (opMove rfl) rfl ?_
          refine wlOn rfl rfl ?_
          refine wlVal (opMove rfl) rfl ?_
          refine wlOn rfl rfl ?_
          refine wlVal (opMove rfl) rfl ?_
          refine wlOn rfl rfl ?_
          refine wlVal (opAdd rfl rfl) rfl ?_
          refine wlOn rfl rfl ?_
          refine wlCallC (O := O14) (B := []) hC hB rfl co24 rfl rfl (raise_ret _ _ hC.holds b10 O14 ((propI ((newSl (((crewI 1))) (((bringI low 1099511627776))))) 2 (IntKind.wrap .i64 (IntKind.wrap .i64 (((bringI low 1099511627776)) - 5) + ((bringI seq 20)))) (((digN ((9 : UInt8)))))).1) hC.chunkHeld hC.chunkNd hs15 (IntKind.wrap .i64 (((bringI low 1099511627776)) + ((bringI more 12)))) hsil hok16) ?_; rintro v37 G O38 w hg hC hB ⟨hs39, rfl⟩
          replace hs5 := hs5.mono hg
          replace hsil := hsil.mono hg
          have hok40 : SlOk ((raiseI ((propI ((newSl (((crewI 1))) (((bringI low 1099511627776))))) 2 (IntKind.wrap .i64 (IntKind.wrap .i64 (((bringI low 1099511627776)) - 5) + ((bringI seq 20)))) (((digN ((9 : UInt8)))))).1) (IntKind.wrap .i64 (((bringI low 1099511627776)) + ((bringI more 12))))).1) := (SlOk.raise hok16)
          replace hC : Cx w0 G0 G w ⟨[], (O38 ++ [])⟩ := hC
          replace hB : Bxs G w w0.heap.size [] ⟨[], (O38 ++ [])⟩ := hB
          refine wlOn rfl rfl ?_
          refine wlVal (opNeq rfl rfl) rfl ?_
          refine wlVal (opPickF rfl rfl) rfl ?_
          refine wlVal (opMove rfl) rfl ?_
          cases h41 : (((raiseI ((propI ((newSl (((crewI 1))) (((bringI low 1099511627776))))) 2 (IntKind.wrap .i64 (IntKind.wrap .i64 (((bringI low 1099511627776)) - 5) + ((bringI seq 20)))) (((digN ((9 : UInt8)))))).1) (IntKind.wrap .i64 (((bringI low 1099511627776)) + ((bringI more 12))))).2)) != 0
          · skip
            refine wlOn rfl rfl ?_
            refine wlVal (opMove rfl) rfl ?_
            refine wlOn rfl rfl ?_
            refine wlCallS hC hB rfl co25 rfl rfl (RetS.lend hC (fun G_ hg_ hh_ hL_ => lowW_ret _ _ hh_ b10 O38 ((raiseI ((propI ((newSl (((crewI 1))) (((bringI low 1099511627776))))) 2 (IntKind.wrap .i64 (IntKind.wrap .i64 (((bringI low 1099511627776)) - 5) + ((bringI seq 20)))) (((digN ((9 : UInt8)))))).1) (IntKind.wrap .i64 (((bringI low 1099511627776)) + ((bringI more 12))))).1) (fun y hy => hL_ y (List.mem_append_left _ hy)) (hs39.mono hg_))) ?_; intro w hk hC hB
            refine wlOn rfl rfl ?_
            refine wlVal (opMove rfl) rfl ?_
            refine wlOn rfl rfl ?_
            refine wlVal (opMove rfl) rfl ?_
            refine wlOn rfl rfl ?_
            refine wlVal (opAdd rfl rfl) rfl ?_
            refine wlOn rfl rfl ?_
            refine wlVal (opNeq rfl rfl) rfl ?_
            refine wlVal (opPickF rfl rfl) rfl ?_
            refine wlVal (opMove rfl) rfl ?_
            cases h42 : ((((raiseI ((propI ((newSl (((crewI 1))) (((bringI low 1099511627776))))) 2 (IntKind.wrap .i64 (IntKind.wrap .i64 (((bringI low 1099511627776)) - 5) + ((bringI seq 20)))) (((digN ((9 : UInt8)))))).1) (IntKind.wrap .i64 (((bringI low 1099511627776)) + ((bringI more 12))))).1).low)) != (IntKind.wrap .i64 (((bringI low 1099511627776)) + ((bringI more 12))))
            · skip
              refine wlOn rfl rfl ?_
              refine wlVal (opMove rfl) rfl ?_
              refine wlOn rfl rfl ?_
              refine wlVal (opMove rfl) rfl ?_
              refine wlOn rfl rfl ?_
              refine wlVal (opMove rfl) rfl ?_
              refine wlOn rfl rfl ?_
              refine wlVal (opAdd rfl rfl) rfl ?_
              refine wlOn rfl rfl ?_
              refine wlVal (opSub rfl rfl) rfl ?_
              refine wlOn rfl rfl ?_
              refine wlCallC (O := O38) (B := []) hC hB rfl co24 rfl rfl (raise_ret _ _ hC.holds b10 O38 ((raiseI ((propI ((newSl (((crewI 1))) (((bringI low 1099511627776))))) 2 (IntKind.wrap .i64 (IntKind.wrap .i64 (((bringI low 1099511627776)) - 5) + ((bringI seq 20)))) (((digN ((9 : UInt8)))))).1) (IntKind.wrap .i64 (((bringI low 1099511627776)) + ((bringI more 12))))).1) hC.chunkHeld hC.chunkNd hs39 (IntKind.wrap .i64 (IntKind.wrap .i64 (((bringI low 1099511627776)) + ((bringI more 12))) - 1)) hsil hok40) ?_; rintro v43 G O44 w hg hC hB ⟨hs45, rfl⟩
              replace hs5 := hs5.mono hg
              replace hsil := hsil.mono hg
              have hok46 : SlOk ((raiseI ((raiseI ((propI ((newSl (((crewI 1))) (((bringI low 1099511627776))))) 2 (IntKind.wrap .i64 (IntKind.wrap .i64 (((bringI low 1099511627776)) - 5) + ((bringI seq 20)))) (((digN ((9 : UInt8)))))).1) (IntKind.wrap .i64 (((bringI low 1099511627776)) + ((bringI more 12))))).1) (IntKind.wrap .i64 (IntKind.wrap .i64 (((bringI low 1099511627776)) + ((bringI more 12))) - 1))).1) := (SlOk.raise hok40)
              replace hC : Cx w0 G0 G w ⟨[], (O44 ++ [])⟩ := hC
              replace hB : Bxs G w w0.heap.size [] ⟨[], (O44 ++ [])⟩ := hB
              refine wlOn rfl rfl ?_
              refine wlVal (opNeq rfl rfl) rfl ?_
              refine wlVal (opPickF rfl rfl) rfl ?_
              refine wlThen ?_
              cases h47 : (((raiseI ((raiseI ((propI ((newSl (((crewI 1))) (((bringI low 1099511627776))))) 2 (IntKind.wrap .i64 (IntKind.wrap .i64 (((bringI low 1099511627776)) - 5) + ((bringI seq 20)))) (((digN ((9 : UInt8)))))).1) (IntKind.wrap .i64 (((bringI low 1099511627776)) + ((bringI more 12))))).1) (IntKind.wrap .i64 (IntKind.wrap .i64 (((bringI low 1099511627776)) + ((bringI more 12))) - 1))).2)) != 9
              · skip
                refine wcCondF rfl ?_
                refine wcSkip ?_
                refine wcOf ?_
                refine wcSeq ?_
                refine wcRegion ?_
                refine wlVal (opMove rfl) rfl ?_
                refine wlVal (opMove rfl) rfl ?_
                refine wlCallS hC hB rfl co21 rfl rfl (RetS.lend hC (fun G_ hg_ hh_ hL_ => at_ret _ _ hh_ b10 O44 ((raiseI ((raiseI ((propI ((newSl (((crewI 1))) (((bringI low 1099511627776))))) 2 (IntKind.wrap .i64 (IntKind.wrap .i64 (((bringI low 1099511627776)) - 5) + ((bringI seq 20)))) (((digN ((9 : UInt8)))))).1) (IntKind.wrap .i64 (((bringI low 1099511627776)) + ((bringI more 12))))).1) (IntKind.wrap .i64 (IntKind.wrap .i64 (((bringI low 1099511627776)) + ((bringI more 12))) - 1))).1) (fun y hy => hL_ y (List.mem_append_left _ hy)) (hs45.mono hg_) (IntKind.wrap .i64 (IntKind.wrap .i64 (((bringI low 1099511627776)) - 5) + ((bringI seq 20)))) (hsil.mono hg_))) ?_; intro w hk hC hB
                refine wlVal (opMove rfl) rfl ?_
                refine wlVal (opExtract rfl rfl) rfl ?_
                refine wlVal (opExtract rfl rfl) rfl ?_
                refine wlAlloc hC hB zero43 rfl ?_; intro b48 w hk hC hB
                refine wlStore 0 (vs := (((atI ((raiseI ((raiseI ((propI ((newSl (((crewI 1))) (((bringI low 1099511627776))))) 2 (IntKind.wrap .i64 (IntKind.wrap .i64 (((bringI low 1099511627776)) - 5) + ((bringI seq 20)))) (((digN ((9 : UInt8)))))).1) (IntKind.wrap .i64 (((bringI low 1099511627776)) + ((bringI more 12))))).1) (IntKind.wrap .i64 (IntKind.wrap .i64 (((bringI low 1099511627776)) + ((bringI more 12))) - 1))).1) (IntKind.wrap .i64 (IntKind.wrap .i64 (((bringI low 1099511627776)) - 5) + ((bringI seq 20))))).1)).cells) (cs := ((.int .i64 0) :: (Dig.zero.cells ++ ((.int .i64 0) :: [])))) (cs' := (((atI ((raiseI ((raiseI ((propI ((newSl (((crewI 1))) (((bringI low 1099511627776))))) 2 (IntKind.wrap .i64 (IntKind.wrap .i64 (((bringI low 1099511627776)) - 5) + ((bringI seq 20)))) (((digN ((9 : UInt8)))))).1) (IntKind.wrap .i64 (((bringI low 1099511627776)) + ((bringI more 12))))).1) (IntKind.wrap .i64 (IntKind.wrap .i64 (((bringI low 1099511627776)) + ((bringI more 12))) - 1))).1) (IntKind.wrap .i64 (IntKind.wrap .i64 (((bringI low 1099511627776)) - 5) + ((bringI seq 20))))).1)).cells) hC hB rfl rfl rfl sz43 rfl (by simp [Word.cells, Stand.cells, Wd.cells, Mark.cells]) (by simp [Word.cells, Stand.cells, Wd.cells, Mark.cells, Value.oneCell']) (by simp [Word.cells, Stand.cells, Wd.cells, Mark.cells]) (by simp [Word.cells, Stand.cells, Wd.cells, Mark.cells]) rfl ?_; intro w hC hB
                refine wlVal (opAssign rfl) rfl ?_
                refine wlThen ?_
                refine wcSeq ?_
                refine wcDrawS 25 [0, 0, 2, 6, 6, 6, 54, 126, 254, 511, 1023, 2047, 4095, 8191, 16383, 16383, 16383, 114687, 262143, 524287, 1048575, 2097151, 4194303, 8388607, 16777215] fmix (by kernel_rfl) (by kernel_rfl) rfl hC hB ?_; intro w hC hB
                refine wdRo 0 rfl (by kernel_rfl) rfl (fun _ => (opMove rfl)) rfl ?_
                refine wdRo 1 rfl (by kernel_rfl) rfl (fun _ => (opMove rfl)) rfl ?_
                refine wdRo 2 rfl (by kernel_rfl) rfl (fun _ => (opMove rfl)) rfl ?_
                refine wdOff 3 rfl (by kernel_rfl) rfl rfl rfl rfl rfl ?_
                refine wdOff 4 rfl (by kernel_rfl) rfl rfl rfl rfl rfl ?_
                refine wdOff 5 rfl (by kernel_rfl) rfl rfl rfl rfl rfl ?_
                refine wdOff 6 rfl (by kernel_rfl) rfl rfl rfl rfl rfl ?_
                refine wdOff 7 rfl (by kernel_rfl) rfl rfl rfl rfl rfl ?_
                refine wdRo 8 rfl (by kernel_rfl) rfl (fun _ => (opPickF rfl rfl)) rfl ?_
                refine wdRo 9 rfl (by kernel_rfl) rfl (fun _ => (opEqBool ub4 rfl rfl)) rfl ?_
                refine wdRo 10 rfl (by kernel_rfl) rfl (fun _ => (opMove rfl)) rfl ?_
                cases h49 : (((atI ((raiseI ((raiseI ((propI ((newSl (((crewI 1))) (((bringI low 1099511627776))))) 2 (IntKind.wrap .i64 (IntKind.wrap .i64 (((bringI low 1099511627776)) - 5) + ((bringI seq 20)))) (((digN ((9 : UInt8)))))).1) (IntKind.wrap .i64 (((bringI low 1099511627776)) + ((bringI more 12))))).1) (IntKind.wrap .i64 (IntKind.wrap .i64 (((bringI low 1099511627776)) + ((bringI more 12))) - 1))).1) (IntKind.wrap .i64 (IntKind.wrap .i64 (((bringI low 1099511627776)) - 5) + ((bringI seq 20))))).2)) == false
                · skip
                  exact (wx_at1 (bring_in (n := low) (m := 1099511627776) (by decide) (by decide)) (bring_in (n := more) (m := 12) (by decide) (by decide)) h49 (by simp only [h17, h35, Bool.and_true, Bool.true_and, Bool.and_false, Bool.false_and])).elim
                · skip
                  refine wdRoG 11 rfl (by kernel_rfl) rfl rfl rfl (fun _ => (opMove rfl)) rfl ?_
                  refine wdRoG 12 rfl (by kernel_rfl) rfl rfl rfl (fun _ => (opNot rfl)) rfl ?_
                  refine wdRoG 13 rfl (by kernel_rfl) rfl rfl rfl (fun _ => (opMove rfl)) rfl ?_
                  cases h50 : ((atI ((raiseI ((raiseI ((propI ((newSl (((crewI 1))) (((bringI low 1099511627776))))) 2 (IntKind.wrap .i64 (IntKind.wrap .i64 (((bringI low 1099511627776)) - 5) + ((bringI seq 20)))) (((digN ((9 : UInt8)))))).1) (IntKind.wrap .i64 (((bringI low 1099511627776)) + ((bringI more 12))))).1) (IntKind.wrap .i64 (IntKind.wrap .i64 (((bringI low 1099511627776)) + ((bringI more 12))) - 1))).1) (IntKind.wrap .i64 (IntKind.wrap .i64 (((bringI low 1099511627776)) - 5) + ((bringI seq 20))))).2)
                  · skip
                    refine wdOff 14 rfl (by kernel_rfl) rfl rfl rfl rfl rfl ?_
                    refine wdOff 15 rfl (by kernel_rfl) rfl rfl rfl rfl rfl ?_
                    refine wdOff 16 rfl (by kernel_rfl) rfl rfl rfl rfl rfl ?_
                    refine wdOff 17 rfl (by kernel_rfl) rfl rfl rfl rfl rfl ?_
                    refine wdOff 18 rfl (by kernel_rfl) rfl rfl rfl rfl rfl ?_
                    refine wdRoG 19 rfl (by kernel_rfl) rfl rfl rfl (fun _ => (opPickT rfl rfl)) rfl ?_
                    refine wdRo 20 rfl (by kernel_rfl) rfl (fun _ => (opPickT rfl rfl)) rfl ?_
                    refine wdRo 21 rfl (by kernel_rfl) rfl (fun _ => (opMove rfl)) rfl ?_
                    refine wdAll [22] (by kernel_rfl) rfl ⟨wd1 rfl ?_, trivial⟩
                    intro hGd
                    refine wlOn rfl rfl ?_
                    refine wlCallS hC hB rfl co16 rfl rfl (awake_ret _ _ hC.holds hsil) ?_; intro w hk hC hB
                    refine wdNext hGd rfl kpNil (Tk.nil _) ?_
                    refine wdRo 23 rfl (by kernel_rfl) rfl (fun _ => (opPickT rfl rfl)) rfl ?_
                    refine wdRo 24 rfl (by kernel_rfl) rfl (fun _ => (opAssign rfl)) rfl ?_
                    refine wdDone (by kernel_rfl) ?_
                    refine wcOf ?_
                    refine wcRet ?_
                    exact fun ac_ ha => hQ _ _ _ (results1 ha rfl rfl) ha.df (endS hC hw rfl)
                  · skip
                    exact (wx_at2 (b := false) (bring_in (n := low) (m := 1099511627776) (by decide) (by decide)) (bring_in (n := more) (m := 12) (by decide) (by decide)) h50 (by simp only [h17, h35, Bool.and_true, Bool.true_and, Bool.and_false, Bool.false_and])).elim
              · skip
                exact (wx_again (bring_in (n := low) (m := 1099511627776) (by decide) (by decide)) (bring_in (n := more) (m := 12) (by decide) (by decide)) h47).elim
            · skip
              exact (wx_low (bring_in (n := low) (m := 1099511627776) (by decide) (by decide)) (bring_in (n := more) (m := 12) (by decide) (by decide)) h42).elim
          · skip
            exact (wx_raise (bring_in (n := low) (m := 1099511627776) (by decide) (by decide)) (bring_in (n := more) (m := 12) (by decide) (by decide)) h41).elim
        · skip
          exact (wx_prop2 (bring_in (n := low) (m := 1099511627776) (by decide) (by decide)) h36 (by simp only [h17, h35, Bool.and_true, Bool.true_and, Bool.and_false, Bool.false_and])).elim
      · skip
        refine wlOff rfl rfl rfl rfl ?_
        refine wlOff rfl rfl rfl rfl ?_
        refine wlOn rfl rfl ?_
        refine wlVal (opPickF rfl rfl) rfl ?_
        refine wlVal (opPickF rfl rfl) rfl ?_
        refine wlVal (opMove rfl) rfl ?_
        refine wlOn rfl rfl ?_
        refine wlVal (opMove rfl) rfl ?_
        refine wlOn rfl rfl ?_
        refine wlVal (opMove rfl) rfl ?_
        refine wlOn rfl rfl ?_
        refine wlVal (opMove rfl) rfl ?_
        refine wlOn rfl rfl ?_
        refine wlVal (opAdd rfl rfl) rfl ?_
        refine wlOn rfl rfl ?_
        refine wlCallC (O := O14) (B := []) hC hB rfl co24 rfl rfl (raise_ret _ _ hC.holds b10 O14 ((propI ((newSl (((crewI 1))) (((bringI low 1099511627776))))) 2 (IntKind.wrap .i64 (IntKind.wrap .i64 (((bringI low 1099511627776)) - 5) + ((bringI seq 20)))) (((digN ((9 : UInt8)))))).1) hC.chunkHeld hC.chunkNd hs15 (IntKind.wrap .i64 (((bringI low 1099511627776)) + ((bringI more 12)))) hsil hok16) ?_; rintro v51 G O52 w hg hC hB ⟨hs53, rfl⟩
        replace hs5 := hs5.mono hg
        replace hsil := hsil.mono hg
        have hok54 : SlOk ((raiseI ((propI ((newSl (((crewI 1))) (((bringI low 1099511627776))))) 2 (IntKind.wrap .i64 (IntKind.wrap .i64 (((bringI low 1099511627776)) - 5) + ((bringI seq 20)))) (((digN ((9 : UInt8)))))).1) (IntKind.wrap .i64 (((bringI low 1099511627776)) + ((bringI more 12))))).1) := (SlOk.raise hok16)
        replace hC : Cx w0 G0 G w ⟨[], (O52 ++ [])⟩ := hC
        replace hB : Bxs G w w0.heap.size [] ⟨[], (O52 ++ [])⟩ := hB
        refine wlOn rfl rfl ?_
        refine wlVal (opNeq rfl rfl) rfl ?_
        refine wlVal (opPickF rfl rfl) rfl ?_
        refine wlVal (opMove rfl) rfl ?_
        cases h55 : (((raiseI ((propI ((newSl (((crewI 1))) (((bringI low 1099511627776))))) 2 (IntKind.wrap .i64 (IntKind.wrap .i64 (((bringI low 1099511627776)) - 5) + ((bringI seq 20)))) (((digN ((9 : UInt8)))))).1) (IntKind.wrap .i64 (((bringI low 1099511627776)) + ((bringI more 12))))).2)) != 0
        · skip
          refine wlOn rfl rfl ?_
          refine wlVal (opMove rfl) rfl ?_
          refine wlOn rfl rfl ?_
          refine wlCallS hC hB rfl co25 rfl rfl (RetS.lend hC (fun G_ hg_ hh_ hL_ => lowW_ret _ _ hh_ b10 O52 ((raiseI ((propI ((newSl (((crewI 1))) (((bringI low 1099511627776))))) 2 (IntKind.wrap .i64 (IntKind.wrap .i64 (((bringI low 1099511627776)) - 5) + ((bringI seq 20)))) (((digN ((9 : UInt8)))))).1) (IntKind.wrap .i64 (((bringI low 1099511627776)) + ((bringI more 12))))).1) (fun y hy => hL_ y (List.mem_append_left _ hy)) (hs53.mono hg_))) ?_; intro w hk hC hB
          refine wlOn rfl rfl ?_
          refine wlVal (opMove rfl) rfl ?_
          refine wlOn rfl rfl ?_
          refine wlVal (opMove rfl) rfl ?_
          refine wlOn rfl rfl ?_
          refine wlVal (opAdd rfl rfl) rfl ?_
          refine wlOn rfl rfl ?_
          refine wlVal (opNeq rfl rfl) rfl ?_
          refine wlVal (opPickF rfl rfl) rfl ?_
          refine wlVal (opMove rfl) rfl ?_
          cases h56 : ((((raiseI ((propI ((newSl (((crewI 1))) (((bringI low 1099511627776))))) 2 (IntKind.wrap .i64 (IntKind.wrap .i64 (((bringI low 1099511627776)) - 5) + ((bringI seq 20)))) (((digN ((9 : UInt8)))))).1) (IntKind.wrap .i64 (((bringI low 1099511627776)) + ((bringI more 12))))).1).low)) != (IntKind.wrap .i64 (((bringI low 1099511627776)) + ((bringI more 12))))
          · skip
            refine wlOn rfl rfl ?_
            refine wlVal (opMove rfl) rfl ?_
            refine wlOn rfl rfl ?_
            refine wlVal (opMove rfl) rfl ?_
            refine wlOn rfl rfl ?_
            refine wlVal (opMove rfl) rfl ?_
            refine wlOn rfl rfl ?_
            refine wlVal (opAdd rfl rfl) rfl ?_
            refine wlOn rfl rfl ?_
            refine wlVal (opSub rfl rfl) rfl ?_
            refine wlOn rfl rfl ?_
            refine wlCallC (O := O52) (B := []) hC hB rfl co24 rfl rfl (raise_ret _ _ hC.holds b10 O52 ((raiseI ((propI ((newSl (((crewI 1))) (((bringI low 1099511627776))))) 2 (IntKind.wrap .i64 (IntKind.wrap .i64 (((bringI low 1099511627776)) - 5) + ((bringI seq 20)))) (((digN ((9 : UInt8)))))).1) (IntKind.wrap .i64 (((bringI low 1099511627776)) + ((bringI more 12))))).1) hC.chunkHeld hC.chunkNd hs53 (IntKind.wrap .i64 (IntKind.wrap .i64 (((bringI low 1099511627776)) + ((bringI more 12))) - 1)) hsil hok54) ?_; rintro v57 G O58 w hg hC hB ⟨hs59, rfl⟩
            replace hs5 := hs5.mono hg
            replace hsil := hsil.mono hg
            have hok60 : SlOk ((raiseI ((raiseI ((propI ((newSl (((crewI 1))) (((bringI low 1099511627776))))) 2 (IntKind.wrap .i64 (IntKind.wrap .i64 (((bringI low 1099511627776)) - 5) + ((bringI seq 20)))) (((digN ((9 : UInt8)))))).1) (IntKind.wrap .i64 (((bringI low 1099511627776)) + ((bringI more 12))))).1) (IntKind.wrap .i64 (IntKind.wrap .i64 (((bringI low 1099511627776)) + ((bringI more 12))) - 1))).1) := (SlOk.raise hok54)
            replace hC : Cx w0 G0 G w ⟨[], (O58 ++ [])⟩ := hC
            replace hB : Bxs G w w0.heap.size [] ⟨[], (O58 ++ [])⟩ := hB
            refine wlOn rfl rfl ?_
            refine wlVal (opNeq rfl rfl) rfl ?_
            refine wlVal (opPickF rfl rfl) rfl ?_
            refine wlThen ?_
            cases h61 : (((raiseI ((raiseI ((propI ((newSl (((crewI 1))) (((bringI low 1099511627776))))) 2 (IntKind.wrap .i64 (IntKind.wrap .i64 (((bringI low 1099511627776)) - 5) + ((bringI seq 20)))) (((digN ((9 : UInt8)))))).1) (IntKind.wrap .i64 (((bringI low 1099511627776)) + ((bringI more 12))))).1) (IntKind.wrap .i64 (IntKind.wrap .i64 (((bringI low 1099511627776)) + ((bringI more 12))) - 1))).2)) != 9
            · skip
              refine wcCondF rfl ?_
              refine wcSkip ?_
              refine wcOf ?_
              refine wcSeq ?_
              refine wcRegion ?_
              refine wlVal (opMove rfl) rfl ?_
              refine wlVal (opMove rfl) rfl ?_
              refine wlCallS hC hB rfl co21 rfl rfl (RetS.lend hC (fun G_ hg_ hh_ hL_ => at_ret _ _ hh_ b10 O58 ((raiseI ((raiseI ((propI ((newSl (((crewI 1))) (((bringI low 1099511627776))))) 2 (IntKind.wrap .i64 (IntKind.wrap .i64 (((bringI low 1099511627776)) - 5) + ((bringI seq 20)))) (((digN ((9 : UInt8)))))).1) (IntKind.wrap .i64 (((bringI low 1099511627776)) + ((bringI more 12))))).1) (IntKind.wrap .i64 (IntKind.wrap .i64 (((bringI low 1099511627776)) + ((bringI more 12))) - 1))).1) (fun y hy => hL_ y (List.mem_append_left _ hy)) (hs59.mono hg_) (IntKind.wrap .i64 (IntKind.wrap .i64 (((bringI low 1099511627776)) - 5) + ((bringI seq 20)))) (hsil.mono hg_))) ?_; intro w hk hC hB
              refine wlVal (opMove rfl) rfl ?_
              refine wlVal (opExtract rfl rfl) rfl ?_
              refine wlVal (opExtract rfl rfl) rfl ?_
              refine wlAlloc hC hB zero43 rfl ?_; intro b62 w hk hC hB
              refine wlStore 0 (vs := (((atI ((raiseI ((raiseI ((propI ((newSl (((crewI 1))) (((bringI low 1099511627776))))) 2 (IntKind.wrap .i64 (IntKind.wrap .i64 (((bringI low 1099511627776)) - 5) + ((bringI seq 20)))) (((digN ((9 : UInt8)))))).1) (IntKind.wrap .i64 (((bringI low 1099511627776)) + ((bringI more 12))))).1) (IntKind.wrap .i64 (IntKind.wrap .i64 (((bringI low 1099511627776)) + ((bringI more 12))) - 1))).1) (IntKind.wrap .i64 (IntKind.wrap .i64 (((bringI low 1099511627776)) - 5) + ((bringI seq 20))))).1)).cells) (cs := ((.int .i64 0) :: (Dig.zero.cells ++ ((.int .i64 0) :: [])))) (cs' := (((atI ((raiseI ((raiseI ((propI ((newSl (((crewI 1))) (((bringI low 1099511627776))))) 2 (IntKind.wrap .i64 (IntKind.wrap .i64 (((bringI low 1099511627776)) - 5) + ((bringI seq 20)))) (((digN ((9 : UInt8)))))).1) (IntKind.wrap .i64 (((bringI low 1099511627776)) + ((bringI more 12))))).1) (IntKind.wrap .i64 (IntKind.wrap .i64 (((bringI low 1099511627776)) + ((bringI more 12))) - 1))).1) (IntKind.wrap .i64 (IntKind.wrap .i64 (((bringI low 1099511627776)) - 5) + ((bringI seq 20))))).1)).cells) hC hB rfl rfl rfl sz43 rfl (by simp [Word.cells, Stand.cells, Wd.cells, Mark.cells]) (by simp [Word.cells, Stand.cells, Wd.cells, Mark.cells, Value.oneCell']) (by simp [Word.cells, Stand.cells, Wd.cells, Mark.cells]) (by simp [Word.cells, Stand.cells, Wd.cells, Mark.cells]) rfl ?_; intro w hC hB
              refine wlVal (opAssign rfl) rfl ?_
              refine wlThen ?_
              refine wcSeq ?_
              refine wcDrawS 25 [0, 0, 2, 6, 6, 6, 54, 126, 254, 511, 1023, 2047, 4095, 8191, 16383, 16383, 16383, 114687, 262143, 524287, 1048575, 2097151, 4194303, 8388607, 16777215] fmix (by kernel_rfl) (by kernel_rfl) rfl hC hB ?_; intro w hC hB
              refine wdRo 0 rfl (by kernel_rfl) rfl (fun _ => (opMove rfl)) rfl ?_
              refine wdRo 1 rfl (by kernel_rfl) rfl (fun _ => (opMove rfl)) rfl ?_
              refine wdRo 2 rfl (by kernel_rfl) rfl (fun _ => (opMove rfl)) rfl ?_
              refine wdRoG 3 rfl (by kernel_rfl) rfl rfl rfl (fun _ => (opMove rfl)) rfl ?_
              refine wdRoG 4 rfl (by kernel_rfl) rfl rfl rfl (fun _ => (opMove rfl)) rfl ?_
              refine wdRoG 5 rfl (by kernel_rfl) rfl rfl rfl (fun _ => (opMove rfl)) rfl ?_
              refine wdRoG 6 rfl (by kernel_rfl) rfl rfl rfl (fun _ => (opAdd rfl rfl)) rfl ?_
              refine wdRoG 7 rfl (by kernel_rfl) rfl rfl rfl (fun _ => (opGtr rfl rfl)) rfl ?_
              refine wdRo 8 rfl (by kernel_rfl) rfl (fun _ => (opPickT rfl rfl)) rfl ?_
              refine wdRo 9 rfl (by kernel_rfl) rfl (fun _ => (opEqBool ub4 rfl rfl)) rfl ?_
              refine wdRo 10 rfl (by kernel_rfl) rfl (fun _ => (opMove rfl)) rfl ?_
              cases h63 : (((atI ((raiseI ((raiseI ((propI ((newSl (((crewI 1))) (((bringI low 1099511627776))))) 2 (IntKind.wrap .i64 (IntKind.wrap .i64 (((bringI low 1099511627776)) - 5) + ((bringI seq 20)))) (((digN ((9 : UInt8)))))).1) (IntKind.wrap .i64 (((bringI low 1099511627776)) + ((bringI more 12))))).1) (IntKind.wrap .i64 (IntKind.wrap .i64 (((bringI low 1099511627776)) + ((bringI more 12))) - 1))).1) (IntKind.wrap .i64 (IntKind.wrap .i64 (((bringI low 1099511627776)) - 5) + ((bringI seq 20))))).2)) == (decide (IntKind.wrap .i64 (((bringI low 1099511627776)) + ((bringI more 12))) < IntKind.wrap .i64 (IntKind.wrap .i64 (((bringI low 1099511627776)) - 5) + ((bringI seq 20)))))
              · skip
                exact (wx_at1 (bring_in (n := low) (m := 1099511627776) (by decide) (by decide)) (bring_in (n := more) (m := 12) (by decide) (by decide)) h63 (by simp only [h17, h35, Bool.and_true, Bool.true_and, Bool.and_false, Bool.false_and])).elim
              · skip
                refine wdRoG 11 rfl (by kernel_rfl) rfl rfl rfl (fun _ => (opMove rfl)) rfl ?_
                refine wdRoG 12 rfl (by kernel_rfl) rfl rfl rfl (fun _ => (opNot rfl)) rfl ?_
                refine wdRoG 13 rfl (by kernel_rfl) rfl rfl rfl (fun _ => (opMove rfl)) rfl ?_
                cases h64 : ((atI ((raiseI ((raiseI ((propI ((newSl (((crewI 1))) (((bringI low 1099511627776))))) 2 (IntKind.wrap .i64 (IntKind.wrap .i64 (((bringI low 1099511627776)) - 5) + ((bringI seq 20)))) (((digN ((9 : UInt8)))))).1) (IntKind.wrap .i64 (((bringI low 1099511627776)) + ((bringI more 12))))).1) (IntKind.wrap .i64 (IntKind.wrap .i64 (((bringI low 1099511627776)) + ((bringI more 12))) - 1))).1) (IntKind.wrap .i64 (IntKind.wrap .i64 (((bringI low 1099511627776)) - 5) + ((bringI seq 20))))).2)
                · skip
                  refine wdOff 14 rfl (by kernel_rfl) rfl rfl rfl rfl rfl ?_
                  refine wdOff 15 rfl (by kernel_rfl) rfl rfl rfl rfl rfl ?_
                  refine wdOff 16 rfl (by kernel_rfl) rfl rfl rfl rfl rfl ?_
                  refine wdOff 17 rfl (by kernel_rfl) rfl rfl rfl rfl rfl ?_
                  refine wdOff 18 rfl (by kernel_rfl) rfl rfl rfl rfl rfl ?_
                  refine wdRoG 19 rfl (by kernel_rfl) rfl rfl rfl (fun _ => (opPickT rfl rfl)) rfl ?_
                  refine wdRo 20 rfl (by kernel_rfl) rfl (fun _ => (opPickT rfl rfl)) rfl ?_
                  refine wdRo 21 rfl (by kernel_rfl) rfl (fun _ => (opMove rfl)) rfl ?_
                  refine wdAll [22] (by kernel_rfl) rfl ⟨wd1 rfl ?_, trivial⟩
                  intro hGd
                  refine wlOn rfl rfl ?_
                  refine wlCallS hC hB rfl co16 rfl rfl (awake_ret _ _ hC.holds hsil) ?_; intro w hk hC hB
                  refine wdNext hGd rfl kpNil (Tk.nil _) ?_
                  refine wdRo 23 rfl (by kernel_rfl) rfl (fun _ => (opPickT rfl rfl)) rfl ?_
                  refine wdRo 24 rfl (by kernel_rfl) rfl (fun _ => (opAssign rfl)) rfl ?_
                  refine wdDone (by kernel_rfl) ?_
                  refine wcOf ?_
                  refine wcRet ?_
                  exact fun ac_ ha => hQ _ _ _ (results1 ha rfl rfl) ha.df (endS hC hw rfl)
                · skip
                  refine wdTakeG 14 rfl (by kernel_rfl) rfl rfl rfl (opLoadRow (cs := (((atI ((raiseI ((raiseI ((propI ((newSl (((crewI 1))) (((bringI low 1099511627776))))) 2 (IntKind.wrap .i64 (IntKind.wrap .i64 (((bringI low 1099511627776)) - 5) + ((bringI seq 20)))) (((digN ((9 : UInt8)))))).1) (IntKind.wrap .i64 (((bringI low 1099511627776)) + ((bringI more 12))))).1) (IntKind.wrap .i64 (IntKind.wrap .i64 (((bringI low 1099511627776)) + ((bringI more 12))) - 1))).1) (IntKind.wrap .i64 (IntKind.wrap .i64 (((bringI low 1099511627776)) - 5) + ((bringI seq 20))))).1)).cells) rfl (hB.range (i := 0) (m := 34) rfl (by simp [Word.cells, Stand.cells, Wd.cells, Mark.cells])) row43 (by simp [Word.cells, Stand.cells, Wd.cells, Mark.cells])) rfl ?_
                  refine wdRoG 15 rfl (by kernel_rfl) rfl rfl rfl (fun _ => (opMove rfl)) rfl ?_
                  refine wdAll [16] (by kernel_rfl) rfl ⟨wd1 rfl ?_, trivial⟩
                  intro hGd
                  refine wlOn rfl rfl ?_
                  refine wlCallS hC hB rfl co17 rfl rfl (digest_ret _ _ hC.holds ((9 : UInt8))) ?_; intro w hk hC hB
                  refine wdNext hGd rfl (kpKeep rfl kpNil) (Tk.cons (p := (_, fun w => OpVal _ _ _ w _ _)) (opLoadRow (cs := (((atI ((raiseI ((raiseI ((propI ((newSl (((crewI 1))) (((bringI low 1099511627776))))) 2 (IntKind.wrap .i64 (IntKind.wrap .i64 (((bringI low 1099511627776)) - 5) + ((bringI seq 20)))) (((digN ((9 : UInt8)))))).1) (IntKind.wrap .i64 (((bringI low 1099511627776)) + ((bringI more 12))))).1) (IntKind.wrap .i64 (IntKind.wrap .i64 (((bringI low 1099511627776)) + ((bringI more 12))) - 1))).1) (IntKind.wrap .i64 (IntKind.wrap .i64 (((bringI low 1099511627776)) - 5) + ((bringI seq 20))))).1)).cells) rfl (hB.range (i := 0) (m := 34) rfl (by simp [Word.cells, Stand.cells, Wd.cells, Mark.cells])) row43 (by simp [Word.cells, Stand.cells, Wd.cells, Mark.cells])) (Tk.nil _)) ?_
                  refine wdRoG 17 rfl (by kernel_rfl) rfl rfl rfl (fun _ => (opBuild (ps := [(0, .tmp 106), (1, .tmp 107), (2, .const (.int .i64 2))]) (cs := ((.int .i64 (IntKind.wrap .i64 (IntKind.wrap .i64 (((bringI low 1099511627776)) - 5) + ((bringI seq 20))))) :: ((((digN ((9 : UInt8))))).cells ++ ((.int .i64 2) :: [])))) so43 zero43 rfl rfl (by first | (simp [buildCells, Value.cells]; done) | simp [buildCells, Value.cells, Word.cells, Stand.cells, Wd.cells, Mark.cells]))) rfl ?_
                  refine wdRoG 18 rfl (by kernel_rfl) rfl rfl rfl (fun _ => (opEqRow (eq43 _ (((atI ((raiseI ((raiseI ((propI ((newSl (((crewI 1))) (((bringI low 1099511627776))))) 2 (IntKind.wrap .i64 (IntKind.wrap .i64 (((bringI low 1099511627776)) - 5) + ((bringI seq 20)))) (((digN ((9 : UInt8)))))).1) (IntKind.wrap .i64 (((bringI low 1099511627776)) + ((bringI more 12))))).1) (IntKind.wrap .i64 (IntKind.wrap .i64 (((bringI low 1099511627776)) + ((bringI more 12))) - 1))).1) (IntKind.wrap .i64 (IntKind.wrap .i64 (((bringI low 1099511627776)) - 5) + ((bringI seq 20))))).1)) ((Stand.mk (IntKind.wrap .i64 (IntKind.wrap .i64 (((bringI low 1099511627776)) - 5) + ((bringI seq 20)))) (((digN ((9 : UInt8))))) 2))) eg43 rfl rfl)) rfl ?_
                  refine wdRoG 19 rfl (by kernel_rfl) rfl rfl rfl (fun _ => (opPickF rfl rfl)) rfl ?_
                  refine wdRo 20 rfl (by kernel_rfl) rfl (fun _ => (opPickT rfl rfl)) rfl ?_
                  refine wdRo 21 rfl (by kernel_rfl) rfl (fun _ => (opMove rfl)) rfl ?_
                  cases h65 : decide (((atI ((raiseI ((raiseI ((propI ((newSl (((crewI 1))) (((bringI low 1099511627776))))) 2 (IntKind.wrap .i64 (IntKind.wrap .i64 (((bringI low 1099511627776)) - 5) + ((bringI seq 20)))) (((digN ((9 : UInt8)))))).1) (IntKind.wrap .i64 (((bringI low 1099511627776)) + ((bringI more 12))))).1) (IntKind.wrap .i64 (IntKind.wrap .i64 (((bringI low 1099511627776)) + ((bringI more 12))) - 1))).1) (IntKind.wrap .i64 (IntKind.wrap .i64 (((bringI low 1099511627776)) - 5) + ((bringI seq 20))))).1) = (Stand.mk (IntKind.wrap .i64 (IntKind.wrap .i64 (((bringI low 1099511627776)) - 5) + ((bringI seq 20)))) (((digN ((9 : UInt8))))) 2))
                  · skip
                    exact (wx_at3 (bring_in (n := low) (m := 1099511627776) (by decide) (by decide)) (bring_in (n := more) (m := 12) (by decide) (by decide)) h65 h64).elim
                  · skip
                    refine wdAll [22] (by kernel_rfl) rfl ⟨wd1 rfl ?_, trivial⟩
                    intro hGd
                    refine wlOn rfl rfl ?_
                    refine wlCallS hC hB rfl co16 rfl rfl (awake_ret _ _ hC.holds hsil) ?_; intro w hk hC hB
                    refine wdNext hGd rfl (kpDrop rfl kpNil) (Tk.nil _) ?_
                    refine wdRo 23 rfl (by kernel_rfl) rfl (fun _ => (opPickT rfl rfl)) rfl ?_
                    refine wdRo 24 rfl (by kernel_rfl) rfl (fun _ => (opAssign rfl)) rfl ?_
                    refine wdDone (by kernel_rfl) ?_
                    refine wcOf ?_
                    refine wcRet ?_
                    exact fun ac_ ha => hQ _ _ _ (results1 ha rfl rfl) ha.df (endS hC hw rfl)
            · skip
              exact (wx_again (bring_in (n := low) (m := 1099511627776) (by decide) (by decide)) (bring_in (n := more) (m := 12) (by decide) (by decide)) h61).elim
          · skip
            exact (wx_low (bring_in (n := low) (m := 1099511627776) (by decide) (by decide)) (bring_in (n := more) (m := 12) (by decide) (by decide)) h56).elim
        · skip
          exact (wx_raise (bring_in (n := low) (m := 1099511627776) (by decide) (by decide)) (bring_in (n := more) (m := 12) (by decide) (by decide)) h55).elim
    · skip
      exact (wx_prop (bring_in (n := low) (m := 1099511627776) (by decide) (by decide)) h34 (by simp only [h17, Bool.and_true, Bool.true_and, Bool.and_false, Bool.false_and])).elim

end Go.Proofs.YtljcgggflgbenaaDoor
