/- What functions of the slots seat return, part 5. No condition. -/
import Derived.Test.YtljcgggflgbenaaDoorSlG4
import Derived.Test.YtljcgggflgbenaaDoorSlLaw
set_option linter.all false
namespace Go.Proofs.YtljcgggflgbenaaDoor
open Go Go.Gx Go.RowKit
theorem co16 : callOk Tryd.prog 16 = true := by kernel_rfl
set_option maxRecDepth 8000 in
theorem keeps_ret (G0 : Gh) (w0 : World) (hw : Holds G0 w0) (vl : Value) (l : List UInt8) (hl : Sl G0 vl l) (hsil : RowG G0 0 0 silence.cells) :
    RetS Tryd.prog 4 #[vl] G0 w0 (.bool true) := by
  have hC := Cx.refl hw
  have hB : Bxs G0 w0 w0.heap.size [] := Bxs.nil _ _ _
  obtain ⟨A1, cap2, rfl⟩ := hl.form
  refine callsOf Tryd.func4 rfl _ Tryd.ntmps4 rfl _ (argsCons argsNil (t := 0) rfl) ?_; intro Q0 hQ
  refine wcSeq ?_
  refine wcRegion ?_
  refine wlVal (opAssign rfl) rfl ?_
  refine wlThen ?_
  refine wcSeq ?_
  refine wcRegion ?_
  replace hC : Cx w0 G0 G0 w0 ⟨[], []⟩ := hC
  replace hB : Bxs G0 w0 w0.heap.size [] ⟨[], []⟩ := hB
  refine wlCallNew hC hB rfl co8 rfl rfl (fresh1_ret _ _ hC.holds 2 hsil nk1_2) ?_; rintro v3 G O4 w hg hC hB ⟨b5, rfl, hs6⟩
  replace hl := hl.mono hg
  replace hsil := hsil.mono hg
  have hok7 : SlOk ((newSl (crewI 1) 0)) := (newOk_ok nk1_2)
  replace hC : Cx w0 G0 G w ⟨[], (O4 ++ [])⟩ := hC
  replace hB : Bxs G w w0.heap.size [] ⟨[], (O4 ++ [])⟩ := hB
  refine wlVal (opAssign rfl) rfl ?_
  refine wlThen ?_
  refine wcSeq ?_
  refine wcRegion ?_
  refine wlBuildSlice (α := Stand) (ps := []) (xs := []) (rows := []) elo33 rfl rfl hC hB rfl rfl rfl trivial rfl ?_; intro b8 G w hk hC hB hs9
  replace hl := hl.mono hk.gle; replace hs6 := hs6.mono hk.gle
  replace hsil := hsil.mono hk.gle
  refine wlVal (opAssign rfl) rfl ?_
  refine wlThen ?_
  refine wcSeq ?_
  refine wcSeq ?_
  refine wcRegion ?_
  refine wlVal (opAssign rfl) rfl ?_
  refine wlThen ?_
  refine wcBlock ?_
  refine WC.sub (wrInd (ι := Nat × (Option Addr) × Nat × (List Stand) × (List (Nat × Obj)) × SlS) (fun i => match i with | (k, wantA, wantC, want, Oa, sa) => l.length - k) (fun i G w => match i with | (k, wantA, wantC, want, Oa, sa) => Cx w0 G0 G w ⟨[], (Oa ++ [])⟩ ∧ Bxs G w w0.heap.size [] ⟨[], (Oa ++ [])⟩ ∧ Sl G (.slice A1 l.length cap2) l ∧ Sl G (.slice (some ⟨b8, 0, none⟩) 0 0) ([]) ∧ RowG G 0 0 silence.cells ∧ Sl G (.slice wantA want.length wantC) want ∧ SlO G b5 Oa sa ∧ KJ sa k want ∧ SlOk sa) (fun i => match i with | (k, wantA, wantC, want, Oa, sa) => ((((Env.nil.put 0 (.slice A1 l.length cap2)).put 3 (.pointer (some ⟨b5, 0, none⟩))).put 4 (.slice wantA want.length wantC)).put 5 (.int .i64 (((k : Nat) : Int))))) ?_ (0, (some ⟨b8, 0, none⟩), 0, [], O4, (newSl (crewI 1) 0)) _ _ ⟨hC, hB, hl, hs9, hsil, hs9, hs6, kj_new, hok7⟩) (fun _ ha => ((((ha.start.cons ha (t := 0) rfl).cons ha (t := 3) rfl).cons ha (t := 4) rfl).cons ha (t := 5) rfl))
  rintro ⟨k, wantA, wantC, want, Oa, sa⟩ G w N0 IH0 ⟨hC, hB, hl, hs9, hsil, hSwant, hKsa, hJ, hok2⟩
  show WC _ _ _ _ ((((Env.nil.put 0 (.slice A1 l.length cap2)).put 3 (.pointer (some ⟨b5, 0, none⟩))).put 4 (.slice wantA want.length wantC)).put 5 (.int .i64 (((k : Nat) : Int)))) w
  refine wcSeq ?_
  refine wcSeq ?_
  refine wcRegion ?_
  refine wlVal (opMove rfl) rfl ?_
  refine wlVal (opMove rfl) rfl ?_
  refine wlVal (opLen rfl isl23) rfl ?_
  refine wlVal (opLssN rfl rfl) rfl ?_
  refine wlVal (opMove rfl) rfl ?_
  cases h10 : decide (k < l.length)
  · skip
    refine wlOff rfl rfl rfl rfl ?_
    refine wlOff rfl rfl rfl rfl ?_
    refine wlVal (opPickF rfl rfl) rfl ?_
    refine wlThen ?_
    refine wcCondF rfl ?_
    refine wcExit ?_
    refine wcOf ?_
    refine wcSeq ?_
    refine wcRegion ?_
    refine wlCallS hC hB rfl co16 rfl rfl (awake_ret _ _ hC.holds hsil) ?_; intro w hk hC hB
    refine wlVal (opAssign rfl) rfl ?_
    refine wlThen ?_
    refine wcRet ?_
    exact fun ac_ ha => hQ _ _ _ (results1 ha rfl rfl) ha.df (endS hC hw rfl)
  · skip
    refine wlOn rfl rfl ?_
    refine wlVal (opMove rfl) rfl ?_
    refine wlOn rfl rfl ?_
    refine wlVal (opLssN (b := 20) rfl rfl) rfl ?_
    refine wlVal (opPickT rfl rfl) rfl ?_
    refine wlThen ?_
    cases h11 : decide (k < 20)
    · skip
      refine wcCondF rfl ?_
      refine wcExit ?_
      refine wcOf ?_
      refine wcSeq ?_
      refine wcRegion ?_
      refine wlCallS hC hB rfl co16 rfl rfl (awake_ret _ _ hC.holds hsil) ?_; intro w hk hC hB
      refine wlVal (opAssign rfl) rfl ?_
      refine wlThen ?_
      refine wcRet ?_
      exact fun ac_ ha => hQ _ _ _ (results1 ha rfl rfl) ha.df (endS hC hw rfl)
    · skip
      refine wcCondT rfl ?_
      refine wcSkip ?_
      refine wcOf ?_
      refine wcSeq ?_
      refine wcBlock ?_
      refine wcSeq ?_
      refine wcRegion ?_
      refine wlVal (opMove rfl) rfl ?_
      refine wlVal (opMove rfl) rfl ?_
      obtain ⟨x12, hx13⟩ : ∃ y_, l[k]? = some y_ := ⟨_, List.getElem?_eq_getElem (of_decide_eq_true h10)⟩
      obtain ⟨b14, o15, row16, hA19, hr17, hi18⟩ := hl.elem hx13; subst hA19
      obtain rfl := hi18
      refine wlVal (opIndexAddr rfl rfl slo23 (of_decide_eq_true h10)) rfl ?_
      refine wlVal (opLoadOne (v := (.int .u8 (((x12).toNat : Int)))) rfl (RowG.cell0 hC.holds hr17 rfl) one5) rfl ?_
      refine wlVal (opAndU8 (a := x12) (b := (7 : UInt8)) rfl rfl) rfl ?_
      refine wlCallS hC hB rfl co17 rfl rfl (digest_ret _ _ hC.holds ((x12 &&& (7 : UInt8)))) ?_; intro w hk hC hB
      refine wlAlloc hC hB zero38 rfl ?_; intro b20 w hk hC hB
      refine wlStore 0 (vs := (((digN ((x12 &&& (7 : UInt8)))))).cells) (cs := Dig.zero.cells) (cs' := (((digN ((x12 &&& (7 : UInt8)))))).cells) hC hB rfl rfl rfl sz38 rfl (by simp [Word.cells, Stand.cells, Wd.cells, Mark.cells]) (by simp [Word.cells, Stand.cells, Wd.cells, Mark.cells, Value.oneCell']) (by simp [Word.cells, Stand.cells, Wd.cells, Mark.cells]) (by simp [Word.cells, Stand.cells, Wd.cells, Mark.cells]) rfl ?_; intro w hC hB
      refine wlThen ?_
      refine wcSeq ?_
      refine wcSeq ?_
      refine wcRegion ?_
      refine wlVal (opMove rfl) rfl ?_
      refine wlVal (opMove rfl) rfl ?_
      refine wlVal (opLoadRow (cs := (((digN ((x12 &&& (7 : UInt8)))))).cells) rfl (hB.range (i := 0) (m := 32) rfl (by simp [Word.cells, Stand.cells, Wd.cells, Mark.cells])) row38 (by simp [Word.cells, Stand.cells, Wd.cells, Mark.cells])) rfl ?_
      refine wlCallC (O := Oa) (B := []) hC hB rfl co18 rfl rfl (propose_ret _ _ hC.holds b5 Oa sa hC.chunkHeld hC.chunkNd hKsa (((k : Nat) : Int)) 1 (((digN ((x12 &&& (7 : UInt8)))))) hsil hok2) ?_; rintro v21 G O22 w hg hC hB ⟨hs23, rfl⟩
      replace hl := hl.mono hg; replace hs9 := hs9.mono hg; replace hSwant := hSwant.mono hg; replace hr17 := hr17.mono hg
      replace hsil := hsil.mono hg
      have hok24 : SlOk ((propI sa (((k : Nat) : Int)) 1 (((digN ((x12 &&& (7 : UInt8))))))).1) := (SlOk.prop hok2)
      replace hC : Cx w0 G0 G w ⟨[], (O22 ++ [])⟩ := hC
      replace hB : Bxs G w w0.heap.size [(b20, 38, (((digN ((x12 &&& (7 : UInt8)))))).cells)] ⟨[], (O22 ++ [])⟩ := hB
      refine wlVal (opNeq rfl rfl) rfl ?_
      refine wlThen ?_
      cases h25 : (((propI sa (((k : Nat) : Int)) 1 (((digN ((x12 &&& (7 : UInt8))))))).2)) != 0
      · skip
        refine wcCondF rfl ?_
        refine wcSkip ?_
        refine wcOf ?_
        refine wcSeq ?_
        refine wcSeq ?_
        refine wcRegion ?_
        refine wlVal (opMove rfl) rfl ?_
        refine wlVal (opMove rfl) rfl ?_
        refine wlVal (opIndexAddr rfl rfl slo23 (of_decide_eq_true h10)) rfl ?_
        refine wlVal (opLoadOne (v := (.int .u8 (((x12).toNat : Int)))) rfl (RowG.cell0 hC.holds hr17 rfl) one5) rfl ?_
        refine wlVal (opAndU8 (a := x12) (b := (8 : UInt8)) rfl rfl) rfl ?_
        refine wlVal (opEql rfl rfl) rfl ?_
        refine wlThen ?_
        cases h26 : ((((x12 &&& (8 : UInt8))).toNat : Int)) == 8
        · skip
          refine wcCondF rfl ?_
          refine wcSkip ?_
          refine wcOf ?_
          refine wcSeq ?_
          refine wcSeq ?_
          refine wcRegion ?_
          refine wlVal (opMove rfl) rfl ?_
          refine wlCallO (bl := [(b20, 38, (((digN ((x12 &&& (7 : UInt8)))))).cells)]) (r := []) hC hB rfl co14 rfl rfl (RetO.lend hC (fun _ _ _ _ ⟨A, cap, e, h⟩ => ⟨A, cap, e, h.any (fun _ _ _ _ h => h)⟩) (fun G_ hg_ hh_ hL_ => p_ret _ _ hh_ b5 O22 ((propI sa (((k : Nat) : Int)) 1 (((digN ((x12 &&& (7 : UInt8))))))).1) (fun y hy => hL_ y (List.mem_append_left _ hy)) (hs23.mono hg_) (hsil.mono hg_) hok24.low)) ?_; rintro v31 G o29 w hk hC hB ⟨A27, cap28, rfl, hO30⟩
          replace hl := hl.mono hk.gle; replace hs9 := hs9.mono hk.gle; replace hSwant := hSwant.mono hk.gle; replace hr17 := hr17.mono hk.gle; replace hs23 := hs23.mono hk.gle
          replace hsil := hsil.mono hk.gle
          refine wlVal (opMove rfl) rfl ?_
          refine wlCallS hC hB rfl co13 rfl rfl (RetS.borrow (bl := [(b20, 38, (((digN ((x12 &&& (7 : UInt8)))))).cells)]) (r := []) hO30 hC hB (Nat.le_trans (pI_len _ _ _) (by decide : (8 : Nat) ≤ maxL)) (fun G_ hglent hhlent hlent => stands_ret _ _ hhlent _ (((pI ((propI sa (((k : Nat) : Int)) 1 (((digN ((x12 &&& (7 : UInt8))))))).1).f (((propI sa (((k : Nat) : Int)) 1 (((digN ((x12 &&& (7 : UInt8))))))).1).low + 1) 8))) hlent _ want (hSwant.mono hglent))) ?_; intro w hk hC hB
          refine wlVal (opNot rfl) rfl ?_
          refine wlThen ?_
          cases h32 : (decide ((((pI ((propI sa (((k : Nat) : Int)) 1 (((digN ((x12 &&& (7 : UInt8))))))).1).f (((propI sa (((k : Nat) : Int)) 1 (((digN ((x12 &&& (7 : UInt8))))))).1).low + 1) 8))) = want))
          · skip
            exact absurd (kj_p ((kj_prop hJ (of_decide_eq_true h11)).2.1)) (of_decide_eq_false h32)
          · skip
            refine wcCondF rfl ?_
            refine wcSkip ?_
            refine wcOf ?_
            refine wcSeq ?_
            refine wcRegion ?_
            refine wlVal (opMove rfl) rfl ?_
            refine wlCallO (bl := [(b20, 38, (((digN ((x12 &&& (7 : UInt8)))))).cells)]) (r := (Option.toList o29 ++ [])) hC hB rfl co15 rfl rfl (RetO.lend hC (fun _ _ _ _ ⟨A, cap, e, h⟩ => ⟨A, cap, e, h.any (fun _ _ _ _ h => h)⟩) (fun G_ hg_ hh_ hL_ => q_ret _ _ hh_ b5 O22 ((propI sa (((k : Nat) : Int)) 1 (((digN ((x12 &&& (7 : UInt8))))))).1) (fun y hy => hL_ y (List.mem_append_left _ hy)) (hs23.mono hg_) hok24.low (fun k t h => Nat.le_trans (hok24.q4 k t h) (by decide)))) ?_; rintro v37 G o35 w hk hC hB ⟨A33, cap34, rfl, hO36⟩
            replace hl := hl.mono hk.gle; replace hs9 := hs9.mono hk.gle; replace hSwant := hSwant.mono hk.gle; replace hr17 := hr17.mono hk.gle; replace hs23 := hs23.mono hk.gle; replace hO30 := hO30.mono hk.gle
            replace hsil := hsil.mono hk.gle
            refine wlVal (opAssign rfl) rfl ?_
            refine wlThen ?_
            refine wcSeq ?_
            refine wcDrawS 20 [0, 1, 3, 7, 15, 31, 63, 127, 255, 511, 511, 1535, 3583, 8191, 16383, 511, 511, 98815, 262143, 524287] fmix (by kernel_rfl) (by kernel_rfl) rfl hC hB ?_; intro w hC hB
            refine wdRo 0 rfl (by kernel_rfl) rfl (fun _ => (opMove rfl)) rfl ?_
            refine wdRo 1 rfl (by kernel_rfl) rfl (fun _ => (opLen rfl isl33)) rfl ?_
            refine wdRo 2 rfl (by kernel_rfl) rfl (fun _ => (opEql rfl rfl)) rfl ?_
            refine wdRo 3 rfl (by kernel_rfl) rfl (fun _ => (opMove rfl)) rfl ?_
            cases h38 : ((((((qI ((propI sa (((k : Nat) : Int)) 1 (((digN ((x12 &&& (7 : UInt8))))))).1).f (((propI sa (((k : Nat) : Int)) 1 (((digN ((x12 &&& (7 : UInt8))))))).1).low + 1) 8))).length : Nat) : Int)) == 0
            · skip
              refine wdRoG 4 rfl (by kernel_rfl) rfl rfl rfl (fun _ => (opMove rfl)) rfl ?_
              refine wdRoG 5 rfl (by kernel_rfl) rfl rfl rfl (fun _ => (opLen rfl isl33)) rfl ?_
              refine wdRoG 6 rfl (by kernel_rfl) rfl rfl rfl (fun _ => (opGtr rfl rfl)) rfl ?_
              refine wdRo 7 rfl (by kernel_rfl) rfl (fun _ => (opPickF rfl rfl)) rfl ?_
              refine wdRo 8 rfl (by kernel_rfl) rfl (fun _ => (opMove rfl)) rfl ?_
              cases h39 : decide (4 < (((((qI ((propI sa (((k : Nat) : Int)) 1 (((digN ((x12 &&& (7 : UInt8))))))).1).f (((propI sa (((k : Nat) : Int)) 1 (((digN ((x12 &&& (7 : UInt8))))))).1).low + 1) 8))).length : Nat) : Int))
              · skip
                refine wdRoG 9 rfl (by kernel_rfl) rfl rfl rfl (fun _ => (opMove rfl)) rfl ?_
                refine wdRoG 10 rfl (by kernel_rfl) rfl rfl rfl (fun _ => (opMove rfl)) rfl ?_
                refine wdRoG 11 rfl (by kernel_rfl) rfl rfl rfl (fun _ => (opLen rfl isl33)) rfl ?_
                refine wdRoG 12 rfl (by kernel_rfl) rfl rfl rfl (fun _ => (opDecr rfl rfl (kj_q0 ((kj_prop hJ (of_decide_eq_true h11)).2.1) (kj_propL hJ (of_decide_eq_true h11))) (Nat.lt_of_le_of_lt (kj_q ((kj_prop hJ (of_decide_eq_true h11)).2.1) (kj_propL hJ (of_decide_eq_true h11))).2 (by decide)))) rfl ?_
                obtain ⟨G, hg41, hC, hB, hs40⟩ := Ow.freeze' (bl := [(b20, 38, (((digN ((x12 &&& (7 : UInt8)))))).cells)]) (r := (Option.toList o29 ++ [])) hO36 hC (Nat.le_refl _) hB (Nat.le_trans (kj_q ((kj_prop hJ (of_decide_eq_true h11)).2.1) (kj_propL hJ (of_decide_eq_true h11))).2 (by decide : (4 : Nat) ≤ maxL))
                replace hl := hl.mono hg41; replace hs9 := hs9.mono hg41; replace hSwant := hSwant.mono hg41; replace hr17 := hr17.mono hg41; replace hs23 := hs23.mono hg41; replace hO30 := hO30.mono hg41
                replace hsil := hsil.mono hg41
                obtain ⟨x42, hx43⟩ : ∃ y_, (((qI ((propI sa (((k : Nat) : Int)) 1 (((digN ((x12 &&& (7 : UInt8))))))).1).f (((propI sa (((k : Nat) : Int)) 1 (((digN ((x12 &&& (7 : UInt8))))))).1).low + 1) 8)))[((((qI ((propI sa (((k : Nat) : Int)) 1 (((digN ((x12 &&& (7 : UInt8))))))).1).f (((propI sa (((k : Nat) : Int)) 1 (((digN ((x12 &&& (7 : UInt8))))))).1).low + 1) 8))).length - 1)]? = some y_ := ⟨_, List.getElem?_eq_getElem (Nat.sub_lt (kj_q0 ((kj_prop hJ (of_decide_eq_true h11)).2.1) (kj_propL hJ (of_decide_eq_true h11))) (by decide))⟩
                obtain ⟨b44, o45, row46, hA49, hr47, hi48⟩ := hs40.elem hx43; subst hA49
                obtain rfl := hi48
                refine wdRoG 13 rfl (by kernel_rfl) rfl rfl rfl (fun _ => (opIndexAddr rfl rfl slo33 (Nat.sub_lt (kj_q0 ((kj_prop hJ (of_decide_eq_true h11)).2.1) (kj_propL hJ (of_decide_eq_true h11))) (by decide)))) rfl ?_
                refine wdTakeG 14 rfl (by kernel_rfl) rfl rfl rfl (opLoadRow (cs := x42.cells) rfl (RowG.range hC.holds hr47) row43 (by simp [Word.cells, Stand.cells, Wd.cells, Mark.cells])) rfl ?_
                refine wdTakeG 15 rfl (by kernel_rfl) rfl rfl rfl (opLoadRow (cs := (((digN ((x12 &&& (7 : UInt8)))))).cells) rfl (hB.range (i := 0) (m := 32) rfl (by simp [Word.cells, Stand.cells, Wd.cells, Mark.cells])) row38 (by simp [Word.cells, Stand.cells, Wd.cells, Mark.cells])) rfl ?_
                refine wdRoG 16 rfl (by kernel_rfl) rfl rfl rfl (fun _ => (opMove rfl)) rfl ?_
                refine wdRoG 17 rfl (by kernel_rfl) rfl rfl rfl (fun _ => (opBuild (ps := [(0, .const (.int .i64 1)), (1, .tmp 73), (2, .tmp 74)]) (cs := ((.int .i64 1) :: ((((digN ((x12 &&& (7 : UInt8)))))).cells ++ ((Value.int .i64 (((k : Nat) : Int))) :: [])))) so43 zero43 rfl rfl (by first | (simp [buildCells, Value.cells]; done) | simp [buildCells, Value.cells, Word.cells, Stand.cells, Wd.cells, Mark.cells]))) rfl ?_
                refine wdRoG 18 rfl (by kernel_rfl) rfl rfl rfl (fun _ => (opNeRow (eq43 _ x42 ((Stand.mk 1 (((digN ((x12 &&& (7 : UInt8)))))) (((k : Nat) : Int))))) eg43 rfl rfl)) rfl ?_
                refine wdRo 19 rfl (by kernel_rfl) rfl (fun _ => (opPickF rfl rfl)) rfl ?_
                refine wdDone (by kernel_rfl) ?_
                refine wcOf ?_
                cases h50 : decide (x42 = (Stand.mk 1 (((digN ((x12 &&& (7 : UInt8)))))) (((k : Nat) : Int))))
                · skip
                  exact absurd (Option.some.inj (hx43.symm.trans ((List.getLast?_eq_getElem? ..).symm.trans (kj_q ((kj_prop hJ (of_decide_eq_true h11)).2.1) (kj_propL hJ (of_decide_eq_true h11))).1))) (of_decide_eq_false h50)
                · skip
                  refine wcCondF rfl ?_
                  refine wcSkip ?_
                  refine wcOf ?_
                  refine wcRegion ?_
                  refine wlVal (opMove rfl) rfl ?_
                  refine wlVal (opIncr rfl rfl (incr_ok (of_decide_eq_true h10) hl.le)) rfl ?_
                  refine wlVal (opAssign rfl) rfl ?_
                  refine wlRound ?_
                  replace hB := hB.sub ((List.sublist_append_right _ _).append_left _)
                  exact (IH0 (k + 1, wantA, wantC, want, O22, (propI sa (((k : Nat) : Int)) 1 (((digN ((x12 &&& (7 : UInt8))))))).1) _ _ ⟨hC, hB.tail, hl, hs9, hsil, hSwant, hs23, ((kj_prop hJ (of_decide_eq_true h11)).2.1), hok24⟩ (by have := of_decide_eq_true h10; show l.length - (k + 1) < l.length - k; omega)).sub (fun _ ha => ((((ha.start.cons ha (t := 0) rfl).cons ha (t := 3) rfl).cons ha (t := 4) rfl).cons ha (t := 5) rfl))
              · skip
                exact (len4 h39 (kj_q ((kj_prop hJ (of_decide_eq_true h11)).2.1) (kj_propL hJ (of_decide_eq_true h11))).2).elim
            · skip
              exact (len_ne h38 (kj_q0 ((kj_prop hJ (of_decide_eq_true h11)).2.1) (kj_propL hJ (of_decide_eq_true h11)))).elim
        · skip
          refine wcCondT rfl ?_
          refine wcSeq ?_
          refine wcSeq ?_
          refine wcRegion ?_
          refine wlVal (opAssign rfl) rfl ?_
          refine wlThen ?_
          refine wcBlock ?_
          refine wcLoop 6 ?_
          refine wrSucc ?_
          refine wcSeq ?_
          refine wcSeq ?_
          refine wcRegion ?_
          refine wlVal (opMove rfl) rfl ?_
          refine wlVal (opLss rfl rfl) rfl ?_
          refine wlThen ?_
          refine wcCondT rfl ?_
          refine wcSkip ?_
          refine wcOf ?_
          refine wcSeq ?_
          refine wcBlock ?_
          refine wcRegion ?_
          refine wlVal (opMove rfl) rfl ?_
          refine wlVal (opMove rfl) rfl ?_
          refine wlVal (opMove rfl) rfl ?_
          refine wlVal (opLoadRow (cs := (((digN ((x12 &&& (7 : UInt8)))))).cells) rfl (hB.range (i := 0) (m := 32) rfl (by simp [Word.cells, Stand.cells, Wd.cells, Mark.cells])) row38 (by simp [Word.cells, Stand.cells, Wd.cells, Mark.cells])) rfl ?_
          refine wlCallC (O := O22) (B := []) hC hB rfl co19 rfl rfl (prepare_ret _ _ hC.holds b5 O22 ((propI sa (((k : Nat) : Int)) 1 (((digN ((x12 &&& (7 : UInt8))))))).1) hC.chunkHeld hC.chunkNd hs23 1 (((k : Nat) : Int)) 1 (((digN ((x12 &&& (7 : UInt8)))))) hsil) ?_; rintro v51 G O52 w hg hC hB ⟨hs53, rfl⟩
          replace hl := hl.mono hg; replace hs9 := hs9.mono hg; replace hSwant := hSwant.mono hg; replace hr17 := hr17.mono hg
          replace hsil := hsil.mono hg
          have hok54 : SlOk ((prepI ((propI sa (((k : Nat) : Int)) 1 (((digN ((x12 &&& (7 : UInt8))))))).1) 1 (((k : Nat) : Int)) 1 (((digN ((x12 &&& (7 : UInt8))))))).1) := (SlOk.prep hok24)
          replace hC : Cx w0 G0 G w ⟨[], (O52 ++ [])⟩ := hC
          replace hB : Bxs G w w0.heap.size [(b20, 38, (((digN ((x12 &&& (7 : UInt8)))))).cells)] ⟨[], (O52 ++ [])⟩ := hB
          refine wlNil ?_
          refine wcOf ?_
          refine wcRegion ?_
          refine wlVal (opMove rfl) rfl ?_
          refine wlVal (OpVal.cast (v' := .int .i64 2) (opAdd rfl rfl) (congrArg (Value.int .i64) (by decide))) rfl ?_
          refine wlVal (opAssign rfl) rfl ?_
          refine wlRound ?_
          refine wrSucc ?_
          refine wcSeq ?_
          refine wcSeq ?_
          refine wcRegion ?_
          refine wlVal (opMove rfl) rfl ?_
          refine wlVal (opLss rfl rfl) rfl ?_
          refine wlThen ?_
          refine wcCondT rfl ?_
          refine wcSkip ?_
          refine wcOf ?_
          refine wcSeq ?_
          refine wcBlock ?_
          refine wcRegion ?_
          refine wlVal (opMove rfl) rfl ?_
          refine wlVal (opMove rfl) rfl ?_
          refine wlVal (opMove rfl) rfl ?_
          refine wlVal (opLoadRow (cs := (((digN ((x12 &&& (7 : UInt8)))))).cells) rfl (hB.range (i := 0) (m := 32) rfl (by simp [Word.cells, Stand.cells, Wd.cells, Mark.cells])) row38 (by simp [Word.cells, Stand.cells, Wd.cells, Mark.cells])) rfl ?_
          refine wlCallC (O := O52) (B := []) hC hB rfl co19 rfl rfl (prepare_ret _ _ hC.holds b5 O52 ((prepI ((propI sa (((k : Nat) : Int)) 1 (((digN ((x12 &&& (7 : UInt8))))))).1) 1 (((k : Nat) : Int)) 1 (((digN ((x12 &&& (7 : UInt8))))))).1) hC.chunkHeld hC.chunkNd hs53 2 (((k : Nat) : Int)) 1 (((digN ((x12 &&& (7 : UInt8)))))) hsil) ?_; rintro v55 G O56 w hg hC hB ⟨hs57, rfl⟩
          replace hl := hl.mono hg; replace hs9 := hs9.mono hg; replace hSwant := hSwant.mono hg; replace hr17 := hr17.mono hg
          replace hsil := hsil.mono hg
          have hok58 : SlOk ((prepI ((prepI ((propI sa (((k : Nat) : Int)) 1 (((digN ((x12 &&& (7 : UInt8))))))).1) 1 (((k : Nat) : Int)) 1 (((digN ((x12 &&& (7 : UInt8))))))).1) 2 (((k : Nat) : Int)) 1 (((digN ((x12 &&& (7 : UInt8))))))).1) := (SlOk.prep hok54)
          replace hC : Cx w0 G0 G w ⟨[], (O56 ++ [])⟩ := hC
          replace hB : Bxs G w w0.heap.size [(b20, 38, (((digN ((x12 &&& (7 : UInt8)))))).cells)] ⟨[], (O56 ++ [])⟩ := hB
          refine wlNil ?_
          refine wcOf ?_
          refine wcRegion ?_
          refine wlVal (opMove rfl) rfl ?_
          refine wlVal (OpVal.cast (v' := .int .i64 3) (opAdd rfl rfl) (congrArg (Value.int .i64) (by decide))) rfl ?_
          refine wlVal (opAssign rfl) rfl ?_
          refine wlRound ?_
          refine wrSucc ?_
          refine wcSeq ?_
          refine wcSeq ?_
          refine wcRegion ?_
          refine wlVal (opMove rfl) rfl ?_
          refine wlVal (opLss rfl rfl) rfl ?_
          refine wlThen ?_
          refine wcCondT rfl ?_
          refine wcSkip ?_
          refine wcOf ?_
          refine wcSeq ?_
          refine wcBlock ?_
          refine wcRegion ?_
          refine wlVal (opMove rfl) rfl ?_
          refine wlVal (opMove rfl) rfl ?_
          refine wlVal (opMove rfl) rfl ?_
          refine wlVal (opLoadRow (cs := (((digN ((x12 &&& (7 : UInt8)))))).cells) rfl (hB.range (i := 0) (m := 32) rfl (by simp [Word.cells, Stand.cells, Wd.cells, Mark.cells])) row38 (by simp [Word.cells, Stand.cells, Wd.cells, Mark.cells])) rfl ?_
          refine wlCallC (O := O56) (B := []) hC hB rfl co19 rfl rfl (prepare_ret _ _ hC.holds b5 O56 ((prepI ((prepI ((propI sa (((k : Nat) : Int)) 1 (((digN ((x12 &&& (7 : UInt8))))))).1) 1 (((k : Nat) : Int)) 1 (((digN ((x12 &&& (7 : UInt8))))))).1) 2 (((k : Nat) : Int)) 1 (((digN ((x12 &&& (7 : UInt8))))))).1) hC.chunkHeld hC.chunkNd hs57 3 (((k : Nat) : Int)) 1 (((digN ((x12 &&& (7 : UInt8)))))) hsil) ?_; rintro v59 G O60 w hg hC hB ⟨hs61, rfl⟩
          replace hl := hl.mono hg; replace hs9 := hs9.mono hg; replace hSwant := hSwant.mono hg; replace hr17 := hr17.mono hg
          replace hsil := hsil.mono hg
          have hok62 : SlOk ((prepI ((prepI ((prepI ((propI sa (((k : Nat) : Int)) 1 (((digN ((x12 &&& (7 : UInt8))))))).1) 1 (((k : Nat) : Int)) 1 (((digN ((x12 &&& (7 : UInt8))))))).1) 2 (((k : Nat) : Int)) 1 (((digN ((x12 &&& (7 : UInt8))))))).1) 3 (((k : Nat) : Int)) 1 (((digN ((x12 &&& (7 : UInt8))))))).1) := (SlOk.prep hok58)
          replace hC : Cx w0 G0 G w ⟨[], (O60 ++ [])⟩ := hC
          replace hB : Bxs G w w0.heap.size [(b20, 38, (((digN ((x12 &&& (7 : UInt8)))))).cells)] ⟨[], (O60 ++ [])⟩ := hB
          refine wlNil ?_
          refine wcOf ?_
          refine wcRegion ?_
          refine wlVal (opMove rfl) rfl ?_
          refine wlVal (OpVal.cast (v' := .int .i64 4) (opAdd rfl rfl) (congrArg (Value.int .i64) (by decide))) rfl ?_
          refine wlVal (opAssign rfl) rfl ?_
          refine wlRound ?_
          refine wrSucc ?_
          refine wcSeq ?_
          refine wcSeq ?_
          refine wcRegion ?_
          refine wlVal (opMove rfl) rfl ?_
          refine wlVal (opLss rfl rfl) rfl ?_
          refine wlThen ?_
          refine wcCondT rfl ?_
          refine wcSkip ?_
          refine wcOf ?_
          refine wcSeq ?_
          refine wcBlock ?_
          refine wcRegion ?_
          refine wlVal (opMove rfl) rfl ?_
          refine wlVal (opMove rfl) rfl ?_
          refine wlVal (opMove rfl) rfl ?_
          refine wlVal (opLoadRow (cs := (((digN ((x12 &&& (7 : UInt8)))))).cells) rfl (hB.range (i := 0) (m := 32) rfl (by simp [Word.cells, Stand.cells, Wd.cells, Mark.cells])) row38 (by simp [Word.cells, Stand.cells, Wd.cells, Mark.cells])) rfl ?_
          refine wlCallC (O := O60) (B := []) hC hB rfl co19 rfl rfl (prepare_ret _ _ hC.holds b5 O60 ((prepI ((prepI ((prepI ((propI sa (((k : Nat) : Int)) 1 (((digN ((x12 &&& (7 : UInt8))))))).1) 1 (((k : Nat) : Int)) 1 (((digN ((x12 &&& (7 : UInt8))))))).1) 2 (((k : Nat) : Int)) 1 (((digN ((x12 &&& (7 : UInt8))))))).1) 3 (((k : Nat) : Int)) 1 (((digN ((x12 &&& (7 : UInt8))))))).1) hC.chunkHeld hC.chunkNd hs61 4 (((k : Nat) : Int)) 1 (((digN ((x12 &&& (7 : UInt8)))))) hsil) ?_; rintro v63 G O64 w hg hC hB ⟨hs65, rfl⟩
          replace hl := hl.mono hg; replace hs9 := hs9.mono hg; replace hSwant := hSwant.mono hg; replace hr17 := hr17.mono hg
          replace hsil := hsil.mono hg
          have hok66 : SlOk ((prepI ((prepI ((prepI ((prepI ((propI sa (((k : Nat) : Int)) 1 (((digN ((x12 &&& (7 : UInt8))))))).1) 1 (((k : Nat) : Int)) 1 (((digN ((x12 &&& (7 : UInt8))))))).1) 2 (((k : Nat) : Int)) 1 (((digN ((x12 &&& (7 : UInt8))))))).1) 3 (((k : Nat) : Int)) 1 (((digN ((x12 &&& (7 : UInt8))))))).1) 4 (((k : Nat) : Int)) 1 (((digN ((x12 &&& (7 : UInt8))))))).1) := (SlOk.prep hok62)
          replace hC : Cx w0 G0 G w ⟨[], (O64 ++ [])⟩ := hC
          replace hB : Bxs G w w0.heap.size [(b20, 38, (((digN ((x12 &&& (7 : UInt8)))))).cells)] ⟨[], (O64 ++ [])⟩ := hB
          refine wlNil ?_
          refine wcOf ?_
          refine wcRegion ?_
          refine wlVal (opMove rfl) rfl ?_
          refine wlVal (OpVal.cast (v' := .int .i64 5) (opAdd rfl rfl) (congrArg (Value.int .i64) (by decide))) rfl ?_
          refine wlVal (opAssign rfl) rfl ?_
          refine wlRound ?_
          refine wrSucc ?_
          refine wcSeq ?_
          refine wcSeq ?_
          refine wcRegion ?_
          refine wlVal (opMove rfl) rfl ?_
          refine wlVal (opLss rfl rfl) rfl ?_
          refine wlThen ?_
          refine wcCondF rfl ?_
          refine wcExit ?_
          refine wcOf ?_
          refine wcRegion ?_
          refine wlVal (opLoadRow (cs := (((digN ((x12 &&& (7 : UInt8)))))).cells) rfl (hB.range (i := 0) (m := 32) rfl (by simp [Word.cells, Stand.cells, Wd.cells, Mark.cells])) row38 (by simp [Word.cells, Stand.cells, Wd.cells, Mark.cells])) rfl ?_
          refine wlVal (opMove rfl) rfl ?_
          refine wlVal (opBuild (ps := [(0, .const (.int .i64 1)), (1, .tmp 47), (2, .tmp 48)]) (cs := ((.int .i64 1) :: ((((digN ((x12 &&& (7 : UInt8)))))).cells ++ ((Value.int .i64 (((k : Nat) : Int))) :: [])))) so43 zero43 rfl rfl (by first | (simp [buildCells, Value.cells]; done) | simp [buildCells, Value.cells, Word.cells, Stand.cells, Wd.cells, Mark.cells])) rfl ?_
          refine wlBuildSlice (α := Stand) (ps := [(0, .tmp 49)]) (xs := [(Stand.mk 1 (((digN ((x12 &&& (7 : UInt8)))))) (((k : Nat) : Int)))]) (rows := [((.int .i64 1) :: ((((digN ((x12 &&& (7 : UInt8)))))).cells ++ ((Value.int .i64 (((k : Nat) : Int))) :: [])))]) elo33 rfl rfl hC hB rfl rfl rfl ⟨rfl, trivial⟩ rfl ?_; intro b67 G w hk hC hB hs68
          replace hl := hl.mono hk.gle; replace hs9 := hs9.mono hk.gle; replace hSwant := hSwant.mono hk.gle; replace hr17 := hr17.mono hk.gle; replace hs65 := hs65.mono hk.gle
          replace hsil := hsil.mono hk.gle
          refine wlVal (opAssign rfl) rfl ?_
          refine wlThen ?_
          refine wcSeq ?_
          refine wcSeq ?_
          refine wcRegion ?_
          refine wlVal (opMove rfl) rfl ?_
          refine wlCallO (bl := [(b20, 38, (((digN ((x12 &&& (7 : UInt8)))))).cells)]) (r := []) hC hB rfl co14 rfl rfl (RetO.lend hC (fun _ _ _ _ ⟨A, cap, e, h⟩ => ⟨A, cap, e, h.any (fun _ _ _ _ h => h)⟩) (fun G_ hg_ hh_ hL_ => p_ret _ _ hh_ b5 O64 ((prepI ((prepI ((prepI ((prepI ((propI sa (((k : Nat) : Int)) 1 (((digN ((x12 &&& (7 : UInt8))))))).1) 1 (((k : Nat) : Int)) 1 (((digN ((x12 &&& (7 : UInt8))))))).1) 2 (((k : Nat) : Int)) 1 (((digN ((x12 &&& (7 : UInt8))))))).1) 3 (((k : Nat) : Int)) 1 (((digN ((x12 &&& (7 : UInt8))))))).1) 4 (((k : Nat) : Int)) 1 (((digN ((x12 &&& (7 : UInt8))))))).1) (fun y hy => hL_ y (List.mem_append_left _ hy)) (hs65.mono hg_) (hsil.mono hg_) hok66.low)) ?_; rintro v73 G o71 w hk hC hB ⟨A69, cap70, rfl, hO72⟩
          replace hl := hl.mono hk.gle; replace hs9 := hs9.mono hk.gle; replace hSwant := hSwant.mono hk.gle; replace hr17 := hr17.mono hk.gle; replace hs65 := hs65.mono hk.gle; replace hs68 := hs68.mono hk.gle
          replace hsil := hsil.mono hk.gle
          refine wlVal (opMove rfl) rfl ?_
          refine wlCallS hC hB rfl co13 rfl rfl (RetS.borrow (bl := [(b20, 38, (((digN ((x12 &&& (7 : UInt8)))))).cells)]) (r := []) hO72 hC hB (Nat.le_trans (pI_len _ _ _) (by decide : (8 : Nat) ≤ maxL)) (fun G_ hglent hhlent hlent => stands_ret _ _ hhlent _ (((pI ((prepI ((prepI ((prepI ((prepI ((propI sa (((k : Nat) : Int)) 1 (((digN ((x12 &&& (7 : UInt8))))))).1) 1 (((k : Nat) : Int)) 1 (((digN ((x12 &&& (7 : UInt8))))))).1) 2 (((k : Nat) : Int)) 1 (((digN ((x12 &&& (7 : UInt8))))))).1) 3 (((k : Nat) : Int)) 1 (((digN ((x12 &&& (7 : UInt8))))))).1) 4 (((k : Nat) : Int)) 1 (((digN ((x12 &&& (7 : UInt8))))))).1).f (((prepI ((prepI ((prepI ((prepI ((propI sa (((k : Nat) : Int)) 1 (((digN ((x12 &&& (7 : UInt8))))))).1) 1 (((k : Nat) : Int)) 1 (((digN ((x12 &&& (7 : UInt8))))))).1) 2 (((k : Nat) : Int)) 1 (((digN ((x12 &&& (7 : UInt8))))))).1) 3 (((k : Nat) : Int)) 1 (((digN ((x12 &&& (7 : UInt8))))))).1) 4 (((k : Nat) : Int)) 1 (((digN ((x12 &&& (7 : UInt8))))))).1).low + 1) 8))) hlent _ ([(Stand.mk 1 (((digN ((x12 &&& (7 : UInt8)))))) (((k : Nat) : Int)))]) (hs68.mono hglent))) ?_; intro w hk hC hB
          refine wlVal (opNot rfl) rfl ?_
          refine wlThen ?_
          cases h74 : (decide ((((pI ((prepI ((prepI ((prepI ((prepI ((propI sa (((k : Nat) : Int)) 1 (((digN ((x12 &&& (7 : UInt8))))))).1) 1 (((k : Nat) : Int)) 1 (((digN ((x12 &&& (7 : UInt8))))))).1) 2 (((k : Nat) : Int)) 1 (((digN ((x12 &&& (7 : UInt8))))))).1) 3 (((k : Nat) : Int)) 1 (((digN ((x12 &&& (7 : UInt8))))))).1) 4 (((k : Nat) : Int)) 1 (((digN ((x12 &&& (7 : UInt8))))))).1).f (((prepI ((prepI ((prepI ((prepI ((propI sa (((k : Nat) : Int)) 1 (((digN ((x12 &&& (7 : UInt8))))))).1) 1 (((k : Nat) : Int)) 1 (((digN ((x12 &&& (7 : UInt8))))))).1) 2 (((k : Nat) : Int)) 1 (((digN ((x12 &&& (7 : UInt8))))))).1) 3 (((k : Nat) : Int)) 1 (((digN ((x12 &&& (7 : UInt8))))))).1) 4 (((k : Nat) : Int)) 1 (((digN ((x12 &&& (7 : UInt8))))))).1).low + 1) 8))) = ([(Stand.mk 1 (((digN ((x12 &&& (7 : UInt8)))))) (((k : Nat) : Int)))])))
          · skip
            exact absurd (kj_p ((kj_four hJ (of_decide_eq_true h11)).1)) (of_decide_eq_false h74)
          · skip
            refine wcCondF rfl ?_
            refine wcSkip ?_
            refine wcOf ?_
            refine wcSeq ?_
            refine wcRegion ?_
            refine wlVal (opMove rfl) rfl ?_
            refine wlCallO (bl := [(b20, 38, (((digN ((x12 &&& (7 : UInt8)))))).cells)]) (r := (Option.toList o71 ++ [])) hC hB rfl co15 rfl rfl (RetO.lend hC (fun _ _ _ _ ⟨A, cap, e, h⟩ => ⟨A, cap, e, h.any (fun _ _ _ _ h => h)⟩) (fun G_ hg_ hh_ hL_ => q_ret _ _ hh_ b5 O64 ((prepI ((prepI ((prepI ((prepI ((propI sa (((k : Nat) : Int)) 1 (((digN ((x12 &&& (7 : UInt8))))))).1) 1 (((k : Nat) : Int)) 1 (((digN ((x12 &&& (7 : UInt8))))))).1) 2 (((k : Nat) : Int)) 1 (((digN ((x12 &&& (7 : UInt8))))))).1) 3 (((k : Nat) : Int)) 1 (((digN ((x12 &&& (7 : UInt8))))))).1) 4 (((k : Nat) : Int)) 1 (((digN ((x12 &&& (7 : UInt8))))))).1) (fun y hy => hL_ y (List.mem_append_left _ hy)) (hs65.mono hg_) hok66.low (fun k t h => Nat.le_trans (hok66.q4 k t h) (by decide)))) ?_; rintro v79 G o77 w hk hC hB ⟨A75, cap76, rfl, hO78⟩
            replace hl := hl.mono hk.gle; replace hs9 := hs9.mono hk.gle; replace hSwant := hSwant.mono hk.gle; replace hr17 := hr17.mono hk.gle; replace hs65 := hs65.mono hk.gle; replace hs68 := hs68.mono hk.gle; replace hO72 := hO72.mono hk.gle
            replace hsil := hsil.mono hk.gle
            refine wlVal (opAssign rfl) rfl ?_
            refine wlThen ?_
            refine wcSeq ?_
            refine wcDrawS 20 [0, 1, 3, 7, 15, 31, 63, 127, 255, 511, 511, 1535, 3583, 8191, 16383, 511, 511, 98815, 262143, 524287] fmix (by kernel_rfl) (by kernel_rfl) rfl hC hB ?_; intro w hC hB
            refine wdRo 0 rfl (by kernel_rfl) rfl (fun _ => (opMove rfl)) rfl ?_
            refine wdRo 1 rfl (by kernel_rfl) rfl (fun _ => (opLen rfl isl33)) rfl ?_
            refine wdRo 2 rfl (by kernel_rfl) rfl (fun _ => (opEql rfl rfl)) rfl ?_
            refine wdRo 3 rfl (by kernel_rfl) rfl (fun _ => (opMove rfl)) rfl ?_
            cases h80 : ((((((qI ((prepI ((prepI ((prepI ((prepI ((propI sa (((k : Nat) : Int)) 1 (((digN ((x12 &&& (7 : UInt8))))))).1) 1 (((k : Nat) : Int)) 1 (((digN ((x12 &&& (7 : UInt8))))))).1) 2 (((k : Nat) : Int)) 1 (((digN ((x12 &&& (7 : UInt8))))))).1) 3 (((k : Nat) : Int)) 1 (((digN ((x12 &&& (7 : UInt8))))))).1) 4 (((k : Nat) : Int)) 1 (((digN ((x12 &&& (7 : UInt8))))))).1).f (((prepI ((prepI ((prepI ((prepI ((propI sa (((k : Nat) : Int)) 1 (((digN ((x12 &&& (7 : UInt8))))))).1) 1 (((k : Nat) : Int)) 1 (((digN ((x12 &&& (7 : UInt8))))))).1) 2 (((k : Nat) : Int)) 1 (((digN ((x12 &&& (7 : UInt8))))))).1) 3 (((k : Nat) : Int)) 1 (((digN ((x12 &&& (7 : UInt8))))))).1) 4 (((k : Nat) : Int)) 1 (((digN ((x12 &&& (7 : UInt8))))))).1).low + 1) 8))).length : Nat) : Int)) == 0
            · skip
              refine wdRoG 4 rfl (by kernel_rfl) rfl rfl rfl (fun _ => (opMove rfl)) rfl ?_
              refine wdRoG 5 rfl (by kernel_rfl) rfl rfl rfl (fun _ => (opLen rfl isl33)) rfl ?_
              refine wdRoG 6 rfl (by kernel_rfl) rfl rfl rfl (fun _ => (opGtr rfl rfl)) rfl ?_
              refine wdRo 7 rfl (by kernel_rfl) rfl (fun _ => (opPickF rfl rfl)) rfl ?_
              refine wdRo 8 rfl (by kernel_rfl) rfl (fun _ => (opMove rfl)) rfl ?_
              cases h81 : decide (4 < (((((qI ((prepI ((prepI ((prepI ((prepI ((propI sa (((k : Nat) : Int)) 1 (((digN ((x12 &&& (7 : UInt8))))))).1) 1 (((k : Nat) : Int)) 1 (((digN ((x12 &&& (7 : UInt8))))))).1) 2 (((k : Nat) : Int)) 1 (((digN ((x12 &&& (7 : UInt8))))))).1) 3 (((k : Nat) : Int)) 1 (((digN ((x12 &&& (7 : UInt8))))))).1) 4 (((k : Nat) : Int)) 1 (((digN ((x12 &&& (7 : UInt8))))))).1).f (((prepI ((prepI ((prepI ((prepI ((propI sa (((k : Nat) : Int)) 1 (((digN ((x12 &&& (7 : UInt8))))))).1) 1 (((k : Nat) : Int)) 1 (((digN ((x12 &&& (7 : UInt8))))))).1) 2 (((k : Nat) : Int)) 1 (((digN ((x12 &&& (7 : UInt8))))))).1) 3 (((k : Nat) : Int)) 1 (((digN ((x12 &&& (7 : UInt8))))))).1) 4 (((k : Nat) : Int)) 1 (((digN ((x12 &&& (7 : UInt8))))))).1).low + 1) 8))).length : Nat) : Int))
              · skip
                refine wdRoG 9 rfl (by kernel_rfl) rfl rfl rfl (fun _ => (opMove rfl)) rfl ?_
                refine wdRoG 10 rfl (by kernel_rfl) rfl rfl rfl (fun _ => (opMove rfl)) rfl ?_
                refine wdRoG 11 rfl (by kernel_rfl) rfl rfl rfl (fun _ => (opLen rfl isl33)) rfl ?_
                refine wdRoG 12 rfl (by kernel_rfl) rfl rfl rfl (fun _ => (opDecr rfl rfl (kj_q0 ((kj_four hJ (of_decide_eq_true h11)).1) (kj_four hJ (of_decide_eq_true h11)).2) (Nat.lt_of_le_of_lt (kj_q ((kj_four hJ (of_decide_eq_true h11)).1) (kj_four hJ (of_decide_eq_true h11)).2).2 (by decide)))) rfl ?_
                obtain ⟨G, hg83, hC, hB, hs82⟩ := Ow.freeze' (bl := [(b20, 38, (((digN ((x12 &&& (7 : UInt8)))))).cells)]) (r := (Option.toList o71 ++ [])) hO78 hC (Nat.le_refl _) hB (Nat.le_trans (kj_q ((kj_four hJ (of_decide_eq_true h11)).1) (kj_four hJ (of_decide_eq_true h11)).2).2 (by decide : (4 : Nat) ≤ maxL))
                replace hl := hl.mono hg83; replace hs9 := hs9.mono hg83; replace hSwant := hSwant.mono hg83; replace hr17 := hr17.mono hg83; replace hs65 := hs65.mono hg83; replace hs68 := hs68.mono hg83; replace hO72 := hO72.mono hg83
                replace hsil := hsil.mono hg83
                obtain ⟨x84, hx85⟩ : ∃ y_, (((qI ((prepI ((prepI ((prepI ((prepI ((propI sa (((k : Nat) : Int)) 1 (((digN ((x12 &&& (7 : UInt8))))))).1) 1 (((k : Nat) : Int)) 1 (((digN ((x12 &&& (7 : UInt8))))))).1) 2 (((k : Nat) : Int)) 1 (((digN ((x12 &&& (7 : UInt8))))))).1) 3 (((k : Nat) : Int)) 1 (((digN ((x12 &&& (7 : UInt8))))))).1) 4 (((k : Nat) : Int)) 1 (((digN ((x12 &&& (7 : UInt8))))))).1).f (((prepI ((prepI ((prepI ((prepI ((propI sa (((k : Nat) : Int)) 1 (((digN ((x12 &&& (7 : UInt8))))))).1) 1 (((k : Nat) : Int)) 1 (((digN ((x12 &&& (7 : UInt8))))))).1) 2 (((k : Nat) : Int)) 1 (((digN ((x12 &&& (7 : UInt8))))))).1) 3 (((k : Nat) : Int)) 1 (((digN ((x12 &&& (7 : UInt8))))))).1) 4 (((k : Nat) : Int)) 1 (((digN ((x12 &&& (7 : UInt8))))))).1).low + 1) 8)))[((((qI ((prepI ((prepI ((prepI ((prepI ((propI sa (((k : Nat) : Int)) 1 (((digN ((x12 &&& (7 : UInt8))))))).1) 1 (((k : Nat) : Int)) 1 (((digN ((x12 &&& (7 : UInt8))))))).1) 2 (((k : Nat) : Int)) 1 (((digN ((x12 &&& (7 : UInt8))))))).1) 3 (((k : Nat) : Int)) 1 (((digN ((x12 &&& (7 : UInt8))))))).1) 4 (((k : Nat) : Int)) 1 (((digN ((x12 &&& (7 : UInt8))))))).1).f (((prepI ((prepI ((prepI ((prepI ((propI sa (((k : Nat) : Int)) 1 (((digN ((x12 &&& (7 : UInt8))))))).1) 1 (((k : Nat) : Int)) 1 (((digN ((x12 &&& (7 : UInt8))))))).1) 2 (((k : Nat) : Int)) 1 (((digN ((x12 &&& (7 : UInt8))))))).1) 3 (((k : Nat) : Int)) 1 (((digN ((x12 &&& (7 : UInt8))))))).1) 4 (((k : Nat) : Int)) 1 (((digN ((x12 &&& (7 : UInt8))))))).1).low + 1) 8))).length - 1)]? = some y_ := ⟨_, List.getElem?_eq_getElem (Nat.sub_lt (kj_q0 ((kj_four hJ (of_decide_eq_true h11)).1) (kj_four hJ (of_decide_eq_true h11)).2) (by decide))⟩
                obtain ⟨b86, o87, row88, hA91, hr89, hi90⟩ := hs82.elem hx85; subst hA91
                obtain rfl := hi90
                refine wdRoG 13 rfl (by kernel_rfl) rfl rfl rfl (fun _ => (opIndexAddr rfl rfl slo33 (Nat.sub_lt (kj_q0 ((kj_four hJ (of_decide_eq_true h11)).1) (kj_four hJ (of_decide_eq_true h11)).2) (by decide)))) rfl ?_
                refine wdTakeG 14 rfl (by kernel_rfl) rfl rfl rfl (opLoadRow (cs := x84.cells) rfl (RowG.range hC.holds hr89) row43 (by simp [Word.cells, Stand.cells, Wd.cells, Mark.cells])) rfl ?_
                refine wdTakeG 15 rfl (by kernel_rfl) rfl rfl rfl (opLoadRow (cs := (((digN ((x12 &&& (7 : UInt8)))))).cells) rfl (hB.range (i := 0) (m := 32) rfl (by simp [Word.cells, Stand.cells, Wd.cells, Mark.cells])) row38 (by simp [Word.cells, Stand.cells, Wd.cells, Mark.cells])) rfl ?_
                refine wdRoG 16 rfl (by kernel_rfl) rfl rfl rfl (fun _ => (opMove rfl)) rfl ?_
                refine wdRoG 17 rfl (by kernel_rfl) rfl rfl rfl (fun _ => (opBuild (ps := [(0, .const (.int .i64 1)), (1, .tmp 73), (2, .tmp 74)]) (cs := ((.int .i64 1) :: ((((digN ((x12 &&& (7 : UInt8)))))).cells ++ ((Value.int .i64 (((k : Nat) : Int))) :: [])))) so43 zero43 rfl rfl (by first | (simp [buildCells, Value.cells]; done) | simp [buildCells, Value.cells, Word.cells, Stand.cells, Wd.cells, Mark.cells]))) rfl ?_
                refine wdRoG 18 rfl (by kernel_rfl) rfl rfl rfl (fun _ => (opNeRow (eq43 _ x84 ((Stand.mk 1 (((digN ((x12 &&& (7 : UInt8)))))) (((k : Nat) : Int))))) eg43 rfl rfl)) rfl ?_
                refine wdRo 19 rfl (by kernel_rfl) rfl (fun _ => (opPickF rfl rfl)) rfl ?_
                refine wdDone (by kernel_rfl) ?_
                refine wcOf ?_
                cases h92 : decide (x84 = (Stand.mk 1 (((digN ((x12 &&& (7 : UInt8)))))) (((k : Nat) : Int))))
                · skip
                  exact absurd (Option.some.inj (hx85.symm.trans ((List.getLast?_eq_getElem? ..).symm.trans (kj_q ((kj_four hJ (of_decide_eq_true h11)).1) (kj_four hJ (of_decide_eq_true h11)).2).1))) (of_decide_eq_false h92)
                · skip
                  refine wcCondF rfl ?_
                  refine wcSkip ?_
                  refine wcOf ?_
                  refine wcRegion ?_
                  refine wlVal (opMove rfl) rfl ?_
                  refine wlVal (opIncr rfl rfl (incr_ok (of_decide_eq_true h10) hl.le)) rfl ?_
                  refine wlVal (opAssign rfl) rfl ?_
                  refine wlRound ?_
                  replace hB := hB.sub ((List.sublist_append_right _ _).append_left _)
                  exact (IH0 (k + 1, (some ⟨b67, 0, none⟩), 1, [(Stand.mk 1 (((digN ((x12 &&& (7 : UInt8)))))) (((k : Nat) : Int)))], O64, (prepI ((prepI ((prepI ((prepI ((propI sa (((k : Nat) : Int)) 1 (((digN ((x12 &&& (7 : UInt8))))))).1) 1 (((k : Nat) : Int)) 1 (((digN ((x12 &&& (7 : UInt8))))))).1) 2 (((k : Nat) : Int)) 1 (((digN ((x12 &&& (7 : UInt8))))))).1) 3 (((k : Nat) : Int)) 1 (((digN ((x12 &&& (7 : UInt8))))))).1) 4 (((k : Nat) : Int)) 1 (((digN ((x12 &&& (7 : UInt8))))))).1) _ _ ⟨hC, hB.tail, hl, hs9, hsil, hs68, hs65, ((kj_four hJ (of_decide_eq_true h11)).1), hok66⟩ (by have := of_decide_eq_true h10; show l.length - (k + 1) < l.length - k; omega)).sub (fun _ ha => ((((ha.start.cons ha (t := 0) rfl).cons ha (t := 3) rfl).cons ha (t := 4) rfl).cons ha (t := 5) rfl))
              · skip
                exact (len4 h81 (kj_q ((kj_four hJ (of_decide_eq_true h11)).1) (kj_four hJ (of_decide_eq_true h11)).2).2).elim
            · skip
              exact (len_ne h80 (kj_q0 ((kj_four hJ (of_decide_eq_true h11)).1) (kj_four hJ (of_decide_eq_true h11)).2)).elim
      · skip
        exact absurd h25 (by rw [(kj_prop hJ (of_decide_eq_true h11)).1]; decide)

end Go.Proofs.YtljcgggflgbenaaDoor
