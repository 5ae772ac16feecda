/- What functions of the slots seat return, part 9. No condition. -/
import Derived.Test.YtljcgggflgbenaaDoorSlG8
import Derived.Test.YtljcgggflgbenaaDoorSlLaw4
set_option linter.all false
namespace Go.Proofs.YtljcgggflgbenaaDoor
open Go Go.Gx Go.RowKit
theorem co26 : callOk Tryd.prog 26 = true := by kernel_rfl
set_option maxRecDepth 8000 in
theorem back_ret (G0 : Gh) (w0 : World) (hw : Holds G0 w0) (vl : Value) (l : List Word) (hl : Sl G0 vl l) (vproposed : Value) (proposed : List UInt8) (hproposed : Sl G0 vproposed proposed) (hsil : RowG G0 0 0 silence.cells) :
    RetS Tryd.prog 7 #[vl, vproposed] G0 w0 (.bool true) := by
  have hC := Cx.refl hw
  have hB : Bxs G0 w0 w0.heap.size [] := Bxs.nil _ _ _
  obtain ⟨A1, cap2, rfl⟩ := hl.form
  obtain ⟨A3, cap4, rfl⟩ := hproposed.form
  refine callsOf Tryd.func7 rfl _ Tryd.ntmps7 rfl _ (argsCons (argsCons argsNil (t := 0) rfl) (t := 1) rfl) ?_; intro Q0 hQ
  refine wcSeq ?_
  refine wcRegion ?_
  refine wlVal (opAssign rfl) rfl ?_
  refine wlThen ?_
  refine wcSeq ?_
  refine wcRegion ?_
  replace hC : Cx w0 G0 G0 w0 ⟨[], []⟩ := hC
  replace hB : Bxs G0 w0 w0.heap.size [] ⟨[], []⟩ := hB
  refine wlCallNew hC hB rfl co8 rfl rfl (fresh1_ret _ _ hC.holds 1 hsil nk1_1) ?_; rintro v5 G O6 w hg hC hB ⟨b7, rfl, hs8⟩
  replace hl := hl.mono hg; replace hproposed := hproposed.mono hg
  replace hsil := hsil.mono hg
  have hok9 : SlOk ((newSl (crewI 1) 0)) := (newOk_ok nk1_1)
  replace hC : Cx w0 G0 G w ⟨[], (O6 ++ [])⟩ := hC
  replace hB : Bxs G w w0.heap.size [] ⟨[], (O6 ++ [])⟩ := hB
  refine wlCallNew hC hB rfl co8 rfl rfl (fresh1_ret _ _ hC.holds 1 hsil nk1_1) ?_; rintro v10 G O11 w hg hC hB ⟨b12, rfl, hs13⟩
  replace hl := hl.mono hg; replace hproposed := hproposed.mono hg; replace hs8 := hs8.mono hg
  replace hsil := hsil.mono hg
  have hok14 : SlOk ((newSl (crewI 1) 0)) := (newOk_ok nk1_1)
  replace hC : Cx w0 G0 G w ⟨[], (O11 ++ (O6 ++ []))⟩ := hC
  replace hB : Bxs G w w0.heap.size [] ⟨[], (O11 ++ (O6 ++ []))⟩ := hB
  refine wlVal (opAssign rfl) rfl ?_
  refine wlVal (opAssign rfl) rfl ?_
  refine wlThen ?_
  refine wcSeq ?_
  refine wcSeq ?_
  refine wcRegion ?_
  refine wlVal (opAssign rfl) rfl ?_
  refine wlThen ?_
  refine wcBlock ?_
  refine WC.sub (wrInd (ι := Nat × (List (Nat × Obj)) × SlS) (fun i => match i with | (v, Oa, sa) => 3 - v) (fun i G w => match i with | (v, Oa, sa) => Cx w0 G0 G w ⟨[], (O11 ++ (Oa ++ []))⟩ ∧ Bxs G w w0.heap.size [] ⟨[], (O11 ++ (Oa ++ []))⟩ ∧ Sl G (.slice A1 l.length cap2) l ∧ Sl G (.slice A3 proposed.length cap4) proposed ∧ SlO G b12 O11 ((newSl (crewI 1) 0)) ∧ RowG G 0 0 silence.cells ∧ SlO G b7 Oa sa ∧ BJ sa ((v : Nat) : Int) ∧ v ≤ 3 ∧ SlOk sa) (fun i => match i with | (v, Oa, sa) => (((((Env.nil.put 0 (.slice A1 l.length cap2)).put 1 (.slice A3 proposed.length cap4)).put 5 (.pointer (some ⟨b7, 0, none⟩))).put 6 (.pointer (some ⟨b12, 0, none⟩))).put 7 (.int .i64 (((v : Nat) : Int))))) ?_ (0, O6, (newSl (crewI 1) 0)) _ _ ⟨hC, hB, hl, hproposed, hs13, hsil, hs8, bj_new, (Nat.zero_le _), hok9⟩) (fun _ ha => (((((ha.start.cons ha (t := 0) rfl).cons ha (t := 1) rfl).cons ha (t := 5) rfl).cons ha (t := 6) rfl).cons ha (t := 7) rfl))
  rintro ⟨v, Oa, sa⟩ G w N0 IH0 ⟨hC, hB, hl, hproposed, hs13, hsil, hKsa, hJ, hv3, hoka⟩
  show WC _ _ _ _ (((((Env.nil.put 0 (.slice A1 l.length cap2)).put 1 (.slice A3 proposed.length cap4)).put 5 (.pointer (some ⟨b7, 0, none⟩))).put 6 (.pointer (some ⟨b12, 0, none⟩))).put 7 (.int .i64 (((v : Nat) : Int)))) w
  refine wcSeq ?_
  refine wcSeq ?_
  refine wcRegion ?_
  refine wlVal (opMove rfl) rfl ?_
  refine wlVal (opLssN (b := 3) rfl rfl) rfl ?_
  refine wlThen ?_
  cases h15 : decide (v < 3)
  · skip
    refine wcCondF rfl ?_
    refine wcExit ?_
    refine wcOf ?_
    refine wcSeq ?_
    refine wcRegion ?_
    refine wlVal (opMove rfl) rfl ?_
    refine wlCallO (bl := []) (r := []) hC hB rfl co14 rfl rfl (RetO.lend hC (fun _ _ _ _ ⟨A, cap, e, h⟩ => ⟨A, cap, e, h.any (fun _ _ _ _ h => h)⟩) (fun G_ hg_ hh_ hL_ => p_ret _ _ hh_ b7 Oa sa (fun y hy => hL_ y (List.mem_append_right _ (List.mem_append_left _ hy))) (hKsa.mono hg_) (hsil.mono hg_) hoka.low)) ?_; rintro v20 G o18 w hk hC hB ⟨A16, cap17, rfl, hO19⟩
    replace hl := hl.mono hk.gle; replace hproposed := hproposed.mono hk.gle; replace hs13 := hs13.mono hk.gle; replace hKsa := hKsa.mono hk.gle
    replace hsil := hsil.mono hk.gle
    refine wlVal (opMove rfl) rfl ?_
    refine wlCallO (bl := []) (r := (Option.toList o18 ++ [])) hC hB rfl co15 rfl rfl (RetO.lend hC (fun _ _ _ _ ⟨A, cap, e, h⟩ => ⟨A, cap, e, h.any (fun _ _ _ _ h => h)⟩) (fun G_ hg_ hh_ hL_ => q_ret _ _ hh_ b7 Oa sa (fun y hy => hL_ y (List.mem_append_right _ (List.mem_append_left _ hy))) (hKsa.mono hg_) hoka.low (fun k t h => Nat.le_trans (hoka.q4 k t h) (by decide)))) ?_; rintro v25 G o23 w hk hC hB ⟨A21, cap22, rfl, hO24⟩
    replace hl := hl.mono hk.gle; replace hproposed := hproposed.mono hk.gle; replace hs13 := hs13.mono hk.gle; replace hKsa := hKsa.mono hk.gle; replace hO19 := hO19.mono hk.gle
    replace hsil := hsil.mono hk.gle
    refine wlVal (opAssign rfl) rfl ?_
    refine wlVal (opAssign rfl) rfl ?_
    refine wlThen ?_
    refine wcSeq ?_
    refine wcSeq ?_
    refine wcRegion ?_
    refine wlVal (opMove rfl) rfl ?_
    refine wlVal (opMove rfl) rfl ?_
    refine wlVal (opMove rfl) rfl ?_
    have hJ3 : BJ sa 3 := by have q1 := of_decide_eq_false h15; have q2 : ((v : Nat) : Int) = 3 := (by omega); rw [← q2]; exact hJ
    replace hB := Bxs.swapOwn (bl := []) (A := Option.toList o23) (B := Option.toList o18) (r := []) hB
    obtain ⟨G, hg27, hC, hB, hs26⟩ := Ow.freeze' (bl := []) (r := (Option.toList o23 ++ [])) hO19 hC (Nat.le_refl _) hB (Nat.le_trans (pI_len _ _ _) (by decide : (8 : Nat) ≤ maxL))
    replace hl := hl.mono hg27; replace hproposed := hproposed.mono hg27; replace hs13 := hs13.mono hg27; replace hKsa := hKsa.mono hg27; replace hO24 := hO24.mono hg27
    replace hsil := hsil.mono hg27
    obtain ⟨G, hg29, hC, hB, hs28⟩ := Ow.freeze' (bl := []) (r := []) hO24 hC (Nat.le_refl _) hB (Nat.le_trans (qI_len4 _ _ hoka.q4 _) (by decide : (32 : Nat) ≤ maxL))
    replace hl := hl.mono hg29; replace hproposed := hproposed.mono hg29; replace hs13 := hs13.mono hg29; replace hKsa := hKsa.mono hg29; replace hs26 := hs26.mono hg29
    replace hsil := hsil.mono hg29
    refine wlCallC (O := O11) (B := (Oa ++ [])) hC hB rfl co26 rfl rfl (restore_ret _ _ hC.holds b12 O11 ((newSl (crewI 1) 0)) hC.chunkHeld hC.chunkNd hs13 _ (((pI sa.f (sa.low + 1) 8))) hs26 _ (((qI sa.f (sa.low + 1) 8))) hs28 hsil hok14 (Nat.le_trans (qI_len4 _ _ hoka.q4 _) (by decide : (32 : Nat) ≤ 1000000))) ?_; rintro v30 G O31 w hg hC hB ⟨hs32, rfl⟩
    replace hl := hl.mono hg; replace hproposed := hproposed.mono hg; replace hKsa := hKsa.mono hg; replace hs26 := hs26.mono hg; replace hs28 := hs28.mono hg
    replace hsil := hsil.mono hg
    have hok33 : SlOk ((restI ((newSl (crewI 1) 0)) (((pI sa.f (sa.low + 1) 8))) (((qI sa.f (sa.low + 1) 8)))).1) := (SlOk.rest hok14)
    replace hC : Cx w0 G0 G w ⟨[], (O31 ++ (Oa ++ []))⟩ := hC
    replace hB : Bxs G w w0.heap.size [] ⟨[], (O31 ++ (Oa ++ []))⟩ := hB
    refine wlVal (opNeq rfl rfl) rfl ?_
    refine wlVal (opMove rfl) rfl ?_
    cases h34 : (((restI ((newSl (crewI 1) 0)) (((pI sa.f (sa.low + 1) 8))) (((qI sa.f (sa.low + 1) 8)))).2)) != 0
    · skip
      refine wlOn rfl rfl ?_
      refine wlVal (opMove rfl) rfl ?_
      refine wlOn rfl rfl ?_
      refine wlCallO (bl := []) (r := []) hC hB rfl co14 rfl rfl (RetO.lend hC (fun _ _ _ _ ⟨A, cap, e, h⟩ => ⟨A, cap, e, h.any (fun _ _ _ _ h => h)⟩) (fun G_ hg_ hh_ hL_ => p_ret _ _ hh_ b12 O31 ((restI ((newSl (crewI 1) 0)) (((pI sa.f (sa.low + 1) 8))) (((qI sa.f (sa.low + 1) 8)))).1) (fun y hy => hL_ y (List.mem_append_left _ hy)) (hs32.mono hg_) (hsil.mono hg_) hok33.low)) ?_; rintro v39 G o37 w hk hC hB ⟨A35, cap36, rfl, hO38⟩
      replace hl := hl.mono hk.gle; replace hproposed := hproposed.mono hk.gle; replace hKsa := hKsa.mono hk.gle; replace hs26 := hs26.mono hk.gle; replace hs28 := hs28.mono hk.gle; replace hs32 := hs32.mono hk.gle
      replace hsil := hsil.mono hk.gle
      refine wlOn rfl rfl ?_
      refine wlVal (opMove rfl) rfl ?_
      refine wlOn rfl rfl ?_
      refine wlCallS hC hB rfl co13 rfl rfl (RetS.borrow (bl := []) (r := []) hO38 hC hB (Nat.le_trans (pI_len _ _ _) (by decide : (8 : Nat) ≤ maxL)) (fun G_ hglent hhlent hlent => stands_ret _ _ hhlent _ (((pI ((restI ((newSl (crewI 1) 0)) (((pI sa.f (sa.low + 1) 8))) (((qI sa.f (sa.low + 1) 8)))).1).f (((restI ((newSl (crewI 1) 0)) (((pI sa.f (sa.low + 1) 8))) (((qI sa.f (sa.low + 1) 8)))).1).low + 1) 8))) hlent _ (((pI sa.f (sa.low + 1) 8))) (hs26.mono hglent))) ?_; intro w hk hC hB
      refine wlOn rfl rfl ?_
      refine wlVal (opNot rfl) rfl ?_
      refine wlVal (opPickF rfl rfl) rfl ?_
      refine wlVal (opMove rfl) rfl ?_
      cases h40 : (decide ((((pI ((restI ((newSl (crewI 1) 0)) (((pI sa.f (sa.low + 1) 8))) (((qI sa.f (sa.low + 1) 8)))).1).f (((restI ((newSl (crewI 1) 0)) (((pI sa.f (sa.low + 1) 8))) (((qI sa.f (sa.low + 1) 8)))).1).low + 1) 8))) = (((pI sa.f (sa.low + 1) 8)))))
      · skip
        exact absurd (rb_pq (bk_rest hJ3).2).1 (of_decide_eq_false h40)
      · skip
        refine wlOn rfl rfl ?_
        refine wlVal (opMove rfl) rfl ?_
        refine wlOn rfl rfl ?_
        refine wlCallO (bl := []) (r := (Option.toList o37 ++ [])) hC hB rfl co15 rfl rfl (RetO.lend hC (fun _ _ _ _ ⟨A, cap, e, h⟩ => ⟨A, cap, e, h.any (fun _ _ _ _ h => h)⟩) (fun G_ hg_ hh_ hL_ => q_ret _ _ hh_ b12 O31 ((restI ((newSl (crewI 1) 0)) (((pI sa.f (sa.low + 1) 8))) (((qI sa.f (sa.low + 1) 8)))).1) (fun y hy => hL_ y (List.mem_append_left _ hy)) (hs32.mono hg_) hok33.low (fun k t h => Nat.le_trans (hok33.q4 k t h) (by decide)))) ?_; rintro v45 G o43 w hk hC hB ⟨A41, cap42, rfl, hO44⟩
        replace hl := hl.mono hk.gle; replace hproposed := hproposed.mono hk.gle; replace hKsa := hKsa.mono hk.gle; replace hs26 := hs26.mono hk.gle; replace hs28 := hs28.mono hk.gle; replace hs32 := hs32.mono hk.gle; replace hO38 := hO38.mono hk.gle
        replace hsil := hsil.mono hk.gle
        refine wlOn rfl rfl ?_
        refine wlVal (opMove rfl) rfl ?_
        refine wlOn rfl rfl ?_
        refine wlCallS hC hB rfl co13 rfl rfl (RetS.borrow (bl := []) (r := (Option.toList o37 ++ [])) hO44 hC hB (Nat.le_trans (qI_len4 _ _ hok33.q4 _) (by decide : (32 : Nat) ≤ maxL)) (fun G_ hglent hhlent hlent => stands_ret _ _ hhlent _ (((qI ((restI ((newSl (crewI 1) 0)) (((pI sa.f (sa.low + 1) 8))) (((qI sa.f (sa.low + 1) 8)))).1).f (((restI ((newSl (crewI 1) 0)) (((pI sa.f (sa.low + 1) 8))) (((qI sa.f (sa.low + 1) 8)))).1).low + 1) 8))) hlent _ (((qI sa.f (sa.low + 1) 8))) (hs28.mono hglent))) ?_; intro w hk hC hB
        refine wlOn rfl rfl ?_
        refine wlVal (opNot rfl) rfl ?_
        refine wlVal (opPickF rfl rfl) rfl ?_
        refine wlThen ?_
        cases h46 : (decide ((((qI ((restI ((newSl (crewI 1) 0)) (((pI sa.f (sa.low + 1) 8))) (((qI sa.f (sa.low + 1) 8)))).1).f (((restI ((newSl (crewI 1) 0)) (((pI sa.f (sa.low + 1) 8))) (((qI sa.f (sa.low + 1) 8)))).1).low + 1) 8))) = (((qI sa.f (sa.low + 1) 8)))))
        · skip
          exact absurd (rb_pq (bk_rest hJ3).2).2 (of_decide_eq_false h46)
        · skip
          refine wcCondF rfl ?_
          refine wcSkip ?_
          refine wcOf ?_
          refine wcSeq ?_
          refine wcSeq ?_
          refine wcRegion ?_
          refine wlVal (opAssign rfl) rfl ?_
          refine wlThen ?_
          refine wcBlock ?_
          refine WC.sub (wrInd (ι := Nat × (List (Nat × Obj)) × SlS) (fun i => match i with | (j, Ob, sb) => 9 - j) (fun i G w => match i with | (j, Ob, sb) => Cx w0 G0 G w ⟨[], (Ob ++ (Oa ++ []))⟩ ∧ Bxs G w w0.heap.size ([] ++ (Option.toList o43 ++ (Option.toList o37 ++ []))) ⟨[], (Ob ++ (Oa ++ []))⟩ ∧ Sl G (.slice A1 l.length cap2) l ∧ Sl G (.slice A3 proposed.length cap4) proposed ∧ SlO G b7 Oa sa ∧ Sl G (.slice A16 ((((pI sa.f (sa.low + 1) 8))).length) cap17) (((pI sa.f (sa.low + 1) 8))) ∧ Sl G (.slice A21 ((((qI sa.f (sa.low + 1) 8))).length) cap22) (((qI sa.f (sa.low + 1) 8))) ∧ Ow G o37 43 (.slice A35 ((((pI ((restI ((newSl (crewI 1) 0)) (((pI sa.f (sa.low + 1) 8))) (((qI sa.f (sa.low + 1) 8)))).1).f (((restI ((newSl (crewI 1) 0)) (((pI sa.f (sa.low + 1) 8))) (((qI sa.f (sa.low + 1) 8)))).1).low + 1) 8))).length) cap36) (((pI ((restI ((newSl (crewI 1) 0)) (((pI sa.f (sa.low + 1) 8))) (((qI sa.f (sa.low + 1) 8)))).1).f (((restI ((newSl (crewI 1) 0)) (((pI sa.f (sa.low + 1) 8))) (((qI sa.f (sa.low + 1) 8)))).1).low + 1) 8))) ∧ Ow G o43 43 (.slice A41 ((((qI ((restI ((newSl (crewI 1) 0)) (((pI sa.f (sa.low + 1) 8))) (((qI sa.f (sa.low + 1) 8)))).1).f (((restI ((newSl (crewI 1) 0)) (((pI sa.f (sa.low + 1) 8))) (((qI sa.f (sa.low + 1) 8)))).1).low + 1) 8))).length) cap42) (((qI ((restI ((newSl (crewI 1) 0)) (((pI sa.f (sa.low + 1) 8))) (((qI sa.f (sa.low + 1) 8)))).1).f (((restI ((newSl (crewI 1) 0)) (((pI sa.f (sa.low + 1) 8))) (((qI sa.f (sa.low + 1) 8)))).1).low + 1) 8))) ∧ RowG G 0 0 silence.cells ∧ SlO G b12 Ob sb ∧ 1 ≤ j ∧ RB sa sb ∧ SlOk sb) (fun i => match i with | (j, Ob, sb) => (((Env.nil.put 5 (.pointer (some ⟨b7, 0, none⟩))).put 6 (.pointer (some ⟨b12, 0, none⟩))).put 12 (.int .i64 (((j : Nat) : Int))))) ?_ (1, O31, (restI ((newSl (crewI 1) 0)) (((pI sa.f (sa.low + 1) 8))) (((qI sa.f (sa.low + 1) 8)))).1) _ _ ⟨hC, hB, hl, hproposed, hKsa, hs26, hs28, hO38, hO44, hsil, hs32, (Nat.le_refl _), (bk_rest hJ3).2, hok33⟩) (fun _ ha => (((ha.start.cons ha (t := 5) rfl).cons ha (t := 6) rfl).cons ha (t := 12) rfl))
          rintro ⟨j, Ob, sb⟩ G w N2 IH2 ⟨hC, hB, hl, hproposed, hKsa, hs26, hs28, hO38, hO44, hsil, hKsb, hj1, hR, hokb⟩
          show WC _ _ _ _ (((Env.nil.put 5 (.pointer (some ⟨b7, 0, none⟩))).put 6 (.pointer (some ⟨b12, 0, none⟩))).put 12 (.int .i64 (((j : Nat) : Int)))) w
          refine wcSeq ?_
          refine wcSeq ?_
          refine wcRegion ?_
          refine wlVal (opMove rfl) rfl ?_
          refine wlVal (opLssN (b := 9) rfl rfl) rfl ?_
          refine wlThen ?_
          cases h47 : decide (j < 9)
          · skip
            refine wcCondF rfl ?_
            refine wcExit ?_
            refine wcOf ?_
            refine wcSeq ?_
            refine wcRegion ?_
            refine wlCallS hC hB rfl co16 rfl rfl (awake_ret _ _ hC.holds hsil) ?_; intro w hk hC hB
            refine wlVal (opAssign rfl) rfl ?_
            refine wlThen ?_
            refine wcRet ?_
            exact fun ac_ ha => hQ _ _ _ (results1 ha rfl rfl) ha.df (endS hC hw rfl)
          · skip
            refine wcCondT rfl ?_
            refine wcSkip ?_
            refine wcOf ?_
            refine wcSeq ?_
            refine wcBlock ?_
            refine wcSeq ?_
            refine wcRegion ?_
            refine wlVal (opMove rfl) rfl ?_
            refine wlVal (opMove rfl) rfl ?_
            refine wlCallS hC hB rfl co21 rfl rfl (RetS.lend hC (fun G_ hg_ hh_ hL_ => at_ret _ _ hh_ b7 Oa sa (fun y hy => hL_ y (List.mem_append_right _ (List.mem_append_left _ hy))) (hKsa.mono hg_) (((j : Nat) : Int)) (hsil.mono hg_))) ?_; intro w hk hC hB
            refine wlVal (opMove rfl) rfl ?_
            refine wlVal (opExtract rfl rfl) rfl ?_
            refine wlVal (opExtract rfl rfl) rfl ?_
            refine wlAlloc hC hB zero43 rfl ?_; intro b48 w hk hC hB
            replace hB : Bxs G w w0.heap.size ([(b48, 43, ((.int .i64 0) :: (Dig.zero.cells ++ ((.int .i64 0) :: []))))] ++ (Option.toList o43 ++ (Option.toList o37 ++ []))) ⟨[], (Ob ++ (Oa ++ []))⟩ := hB
            refine wlStore 0 (vs := (((atI sa (((j : Nat) : Int))).1)).cells) (cs := ((.int .i64 0) :: (Dig.zero.cells ++ ((.int .i64 0) :: [])))) (cs' := (((atI sa (((j : Nat) : Int))).1)).cells) hC hB rfl rfl rfl sz43 rfl (by simp [Word.cells, Stand.cells, Wd.cells, Mark.cells]) (by simp [Word.cells, Stand.cells, Wd.cells, Mark.cells, Value.oneCell']) (by simp [Word.cells, Stand.cells, Wd.cells, Mark.cells]) (by simp [Word.cells, Stand.cells, Wd.cells, Mark.cells]) rfl ?_; intro w hC hB
            replace hB : Bxs G w w0.heap.size ([(b48, 43, (((atI sa (((j : Nat) : Int))).1)).cells)] ++ (Option.toList o43 ++ (Option.toList o37 ++ []))) ⟨[], (Ob ++ (Oa ++ []))⟩ := hB
            refine wlVal (opAssign rfl) rfl ?_
            refine wlThen ?_
            refine wcSeq ?_
            refine wcRegion ?_
            refine wlVal (opMove rfl) rfl ?_
            refine wlVal (opMove rfl) rfl ?_
            refine wlCallS hC hB rfl co21 rfl rfl (RetS.lend hC (fun G_ hg_ hh_ hL_ => at_ret _ _ hh_ b12 Ob sb (fun y hy => hL_ y (List.mem_append_left _ hy)) (hKsb.mono hg_) (((j : Nat) : Int)) (hsil.mono hg_))) ?_; intro w hk hC hB
            refine wlVal (opMove rfl) rfl ?_
            refine wlVal (opExtract rfl rfl) rfl ?_
            refine wlVal (opExtract rfl rfl) rfl ?_
            refine wlAlloc hC hB zero43 rfl ?_; intro b49 w hk hC hB
            replace hB : Bxs G w w0.heap.size ([(b49, 43, ((.int .i64 0) :: (Dig.zero.cells ++ ((.int .i64 0) :: [])))), (b48, 43, (((atI sa (((j : Nat) : Int))).1)).cells)] ++ (Option.toList o43 ++ (Option.toList o37 ++ []))) ⟨[], (Ob ++ (Oa ++ []))⟩ := hB
            refine wlStore 0 (vs := (((atI sb (((j : Nat) : Int))).1)).cells) (cs := ((.int .i64 0) :: (Dig.zero.cells ++ ((.int .i64 0) :: [])))) (cs' := (((atI sb (((j : Nat) : Int))).1)).cells) hC hB rfl rfl rfl sz43 rfl (by simp [Word.cells, Stand.cells, Wd.cells, Mark.cells]) (by simp [Word.cells, Stand.cells, Wd.cells, Mark.cells, Value.oneCell']) (by simp [Word.cells, Stand.cells, Wd.cells, Mark.cells]) (by simp [Word.cells, Stand.cells, Wd.cells, Mark.cells]) rfl ?_; intro w hC hB
            replace hB : Bxs G w w0.heap.size ([(b49, 43, (((atI sb (((j : Nat) : Int))).1)).cells), (b48, 43, (((atI sa (((j : Nat) : Int))).1)).cells)] ++ (Option.toList o43 ++ (Option.toList o37 ++ []))) ⟨[], (Ob ++ (Oa ++ []))⟩ := hB
            refine wlVal (opAssign rfl) rfl ?_
            refine wlThen ?_
            refine wcSeq ?_
            refine wcSeq ?_
            refine wcRegion ?_
            refine wlVal (opMove rfl) rfl ?_
            refine wlVal (opMove rfl) rfl ?_
            refine wlVal (opNeBool ub4 rfl rfl) rfl ?_
            refine wlVal (opMove rfl) rfl ?_
            cases h50 : (((atI sa (((j : Nat) : Int))).2)) != (((atI sb (((j : Nat) : Int))).2))
            · skip
              refine wlOn rfl rfl ?_
              refine wlVal (opFieldAddr rfl fo43_1) rfl ?_
              refine wlOn rfl rfl ?_
              refine wlVal (opLoadRow (cs := (((atI sa (((j : Nat) : Int))).1).dig).cells) rfl (hB.range (i := 1) (m := 32) rfl (by simp [Word.cells, Stand.cells, Wd.cells, Mark.cells])) row38 (by simp [Word.cells, Stand.cells, Wd.cells, Mark.cells])) rfl ?_
              refine wlOn rfl rfl ?_
              refine wlVal (opFieldAddr rfl fo43_1) rfl ?_
              refine wlOn rfl rfl ?_
              refine wlVal (opLoadRow (cs := (((atI sb (((j : Nat) : Int))).1).dig).cells) rfl (hB.range (i := 0) (m := 32) rfl (by simp [Word.cells, Stand.cells, Wd.cells, Mark.cells])) row38 (by simp [Word.cells, Stand.cells, Wd.cells, Mark.cells])) rfl ?_
              refine wlOn rfl rfl ?_
              refine wlVal (opNeRow (eq38 _ (((atI sa (((j : Nat) : Int))).1).dig) (((atI sb (((j : Nat) : Int))).1).dig)) eg38 rfl rfl) rfl ?_
              refine wlVal (opPickF rfl rfl) rfl ?_
              refine wlVal (opMove rfl) rfl ?_
              cases h51 : decide (((atI sa (((j : Nat) : Int))).1).dig = ((atI sb (((j : Nat) : Int))).1).dig)
              · skip
                exact absurd (by rw [(rb_at hR (by omega) (by have q1 := of_decide_eq_true h47; omega)).1]) (of_decide_eq_false h51)
              · skip
                refine wlOn rfl rfl ?_
                refine wlVal (opFieldAddr rfl fo43_2) rfl ?_
                refine wlOn rfl rfl ?_
                refine wlVal (opLoadOne (v := (.int .i64 (((atI sa (((j : Nat) : Int))).1).view))) rfl (hB.cell (i := 1) rfl (by simp [Word.cells, Stand.cells, Wd.cells, Mark.cells])) one3) rfl ?_
                refine wlOn rfl rfl ?_
                refine wlVal (opFieldAddr rfl fo43_2) rfl ?_
                refine wlOn rfl rfl ?_
                refine wlVal (opLoadOne (v := (.int .i64 (((atI sb (((j : Nat) : Int))).1).view))) rfl (hB.cell (i := 0) rfl (by simp [Word.cells, Stand.cells, Wd.cells, Mark.cells])) one3) rfl ?_
                refine wlOn rfl rfl ?_
                refine wlVal (opNeq rfl rfl) rfl ?_
                refine wlVal (opPickF rfl rfl) rfl ?_
                refine wlVal (opMove rfl) rfl ?_
                cases h52 : (((atI sa (((j : Nat) : Int))).1).view) != (((atI sb (((j : Nat) : Int))).1).view)
                · skip
                  refine wlOn rfl rfl ?_
                  refine wlVal (opMove rfl) rfl ?_
                  refine wlOn rfl rfl ?_
                  refine wlVal (opMove rfl) rfl ?_
                  refine wlOn rfl rfl ?_
                  refine wlCallS hC hB rfl co11 rfl rfl (RetS.lend hC (fun G_ hg_ hh_ hL_ => prepared_ret _ _ hh_ b12 Ob sb (fun y hy => hL_ y (List.mem_append_left _ hy)) (hKsb.mono hg_) (((j : Nat) : Int)) (hsil.mono hg_))) ?_; intro w hk hC hB
                  refine wlVal (opPickF rfl rfl) rfl ?_
                  refine wlThen ?_
                  cases h53 : ((preparedI sb (((j : Nat) : Int))))
                  · skip
                    refine wcCondF rfl ?_
                    refine wcSkip ?_
                    refine wcOf ?_
                    refine wcSeq ?_
                    refine wcDrawS 10 [0, 1, 3, 3, 11, 3, 3, 127, 255, 511] fmix (by kernel_rfl) (by kernel_rfl) rfl hC hB ?_; intro w hC hB
                    refine wdRo 0 rfl (by kernel_rfl) rfl (fun _ => (opMove rfl)) rfl ?_
                    refine wdRo 1 rfl (by kernel_rfl) rfl (fun _ => (opMove rfl)) rfl ?_
                    cases h54 : ((atI sa (((j : Nat) : Int))).2)
                    · skip
                      refine wdOff 2 rfl (by kernel_rfl) rfl rfl rfl rfl rfl ?_
                      refine wdOff 3 rfl (by kernel_rfl) rfl rfl rfl rfl rfl ?_
                      refine wdOff 4 rfl (by kernel_rfl) rfl rfl rfl rfl rfl ?_
                      refine wdOff 5 rfl (by kernel_rfl) rfl rfl rfl rfl rfl ?_
                      refine wdOff 6 rfl (by kernel_rfl) rfl rfl rfl rfl rfl ?_
                      refine wdOff 7 rfl (by kernel_rfl) rfl rfl rfl rfl rfl ?_
                      refine wdOff 8 rfl (by kernel_rfl) rfl rfl rfl rfl rfl ?_
                      refine wdRo 9 rfl (by kernel_rfl) rfl (fun _ => (opPickF rfl rfl)) rfl ?_
                      refine wdDone (by kernel_rfl) ?_
                      refine wcOf ?_
                      refine wcCondF rfl ?_
                      refine wcSkip ?_
                      refine wcOf ?_
                      refine wcRegion ?_
                      refine wlVal (opMove rfl) rfl ?_
                      refine wlVal (opIncr rfl rfl (by have q1 := of_decide_eq_true h47; omega)) rfl ?_
                      refine wlVal (opAssign rfl) rfl ?_
                      refine wlRound ?_
                      exact (IH2 (j + 1, Ob, sb) _ _ ⟨hC, hB.tail.tail, hl, hproposed, hKsa, hs26, hs28, hO38, hO44, hsil, hKsb, (by omega), hR, hokb⟩ (by have := of_decide_eq_true h47; show 9 - (j + 1) < 9 - j; omega)).sub (fun _ ha => (((ha.start.cons ha (t := 5) rfl).cons ha (t := 6) rfl).cons ha (t := 12) rfl))
                    · skip
                      refine wdRoG 2 rfl (by kernel_rfl) rfl rfl rfl (fun _ => (opMove rfl)) rfl ?_
                      refine wdRoG 3 rfl (by kernel_rfl) rfl rfl rfl (fun _ => (opFieldAddr rfl fo43_2)) rfl ?_
                      refine wdTakeG 4 rfl (by kernel_rfl) rfl rfl rfl (opLoadOne (v := (.int .i64 (((atI sa (((j : Nat) : Int))).1).view))) rfl (hB.cell (i := 1) rfl (by simp [Word.cells, Stand.cells, Wd.cells, Mark.cells])) one3) rfl ?_
                      refine wdRoG 5 rfl (by kernel_rfl) rfl rfl rfl (fun _ => (opMove rfl)) rfl ?_
                      refine wdAll [6] (by kernel_rfl) rfl ⟨wd1 rfl ?_, trivial⟩
                      intro hGd
                      refine wlOn rfl rfl ?_
                      refine wlCallS hC hB rfl co17 rfl rfl (digest_ret _ _ hC.holds ((200 : UInt8))) ?_; intro w hk hC hB
                      refine wdNext hGd rfl (kpKeep rfl kpNil) (Tk.cons (p := (_, fun w => OpVal _ _ _ w _ _)) (opLoadOne (v := (.int .i64 (((atI sa (((j : Nat) : Int))).1).view))) rfl (hB.cell (i := 1) rfl (by simp [Word.cells, Stand.cells, Wd.cells, Mark.cells])) one3) (Tk.nil _)) ?_
                      refine wdAll [7] (by kernel_rfl) rfl ⟨wd1 rfl ?_, trivial⟩
                      intro hGd
                      refine wlOn rfl rfl ?_
                      refine wlCallC (O := Ob) (B := (Oa ++ [])) hC hB rfl co18 rfl rfl (propose_ret _ _ hC.holds b12 Ob sb hC.chunkHeld hC.chunkNd hKsb (((atI sa (((j : Nat) : Int))).1).view) (((j : Nat) : Int)) (((digN ((200 : UInt8))))) hsil hokb) ?_; rintro v55 G O56 w hg hC hB ⟨hs57, rfl⟩
                      replace hl := hl.mono hg; replace hproposed := hproposed.mono hg; replace hKsa := hKsa.mono hg; replace hs26 := hs26.mono hg; replace hs28 := hs28.mono hg; replace hO38 := hO38.mono hg; replace hO44 := hO44.mono hg
                      replace hsil := hsil.mono hg
                      have hok58 : SlOk ((propI sb (((atI sa (((j : Nat) : Int))).1).view) (((j : Nat) : Int)) (((digN ((200 : UInt8)))))).1) := (SlOk.prop hokb)
                      replace hC : Cx w0 G0 G w ⟨[], (O56 ++ (Oa ++ []))⟩ := hC
                      replace hB : Bxs G w w0.heap.size ([(b49, 43, (((atI sb (((j : Nat) : Int))).1)).cells), (b48, 43, (((atI sa (((j : Nat) : Int))).1)).cells)] ++ (Option.toList o43 ++ (Option.toList o37 ++ []))) ⟨[], (O56 ++ (Oa ++ []))⟩ := hB
                      refine wdNext hGd rfl (kpDrop rfl kpNil) (Tk.nil _) ?_
                      refine wdRoG 8 rfl (by kernel_rfl) rfl rfl rfl (fun _ => (opNeq rfl rfl)) rfl ?_
                      refine wdRo 9 rfl (by kernel_rfl) rfl (fun _ => (opPickT rfl rfl)) rfl ?_
                      refine wdDone (by kernel_rfl) ?_
                      refine wcOf ?_
                      cases h59 : (((propI sb (((atI sa (((j : Nat) : Int))).1).view) (((j : Nat) : Int)) (((digN ((200 : UInt8)))))).2)) != 151
                      · skip
                        refine wcCondF rfl ?_
                        refine wcSkip ?_
                        refine wcOf ?_
                        refine wcRegion ?_
                        refine wlVal (opMove rfl) rfl ?_
                        refine wlVal (opIncr rfl rfl (by have q1 := of_decide_eq_true h47; omega)) rfl ?_
                        refine wlVal (opAssign rfl) rfl ?_
                        refine wlRound ?_
                        exact (IH2 (j + 1, O56, (propI sb (((atI sa (((j : Nat) : Int))).1).view) (((j : Nat) : Int)) (((digN ((200 : UInt8)))))).1) _ _ ⟨hC, hB.tail.tail, hl, hproposed, hKsa, hs26, hs28, hO38, hO44, hsil, hs57, (by omega), (by rw [rb_prop hR (by omega) (by have q1 := of_decide_eq_true h47; omega) h54]; exact hR), hok58⟩ (by have := of_decide_eq_true h47; show 9 - (j + 1) < 9 - j; omega)).sub (fun _ ha => (((ha.start.cons ha (t := 5) rfl).cons ha (t := 6) rfl).cons ha (t := 12) rfl))
                      · skip
                        exact absurd h59 (by rw [rb_prop hR (by omega) (by have q1 := of_decide_eq_true h47; omega) h54]; simp)
                  · skip
                    exact absurd h53 (by rw [(rb_at hR (by omega) (by have q1 := of_decide_eq_true h47; omega)).2]; decide)
                · skip
                  exact absurd h52 (by rw [(rb_at hR (by omega) (by have q1 := of_decide_eq_true h47; omega)).1]; simp)
            · skip
              exact absurd h50 (by rw [(rb_at hR (by omega) (by have q1 := of_decide_eq_true h47; omega)).1]; simp)
    · skip
      exact absurd h34 (by rw [(bk_rest hJ3).1]; decide)
  · skip
    refine wcCondT rfl ?_
    refine wcSkip ?_
    refine wcOf ?_
    refine wcSeq ?_
    refine wcBlock ?_
    refine wcSeq ?_
    refine wcRegion ?_
    refine wlVal (opMove rfl) rfl ?_
    refine wlVal (opMove rfl) rfl ?_
    refine wlVal (opMove rfl) rfl ?_
    refine wlVal (opMove rfl) rfl ?_
    refine wlVal (opLen rfl isl23) rfl ?_
    refine wlVal (opMinN rfl rfl) rfl ?_
    have hs60 := Sl.take hproposed (h := min proposed.length 8) (Nat.min_le_left _ _)
    refine wlVal (opSliceTo slo23 rfl rfl (Sl.capOf hproposed (Nat.min_le_left _ _))) rfl ?_
    replace hC := hC.permH (List.perm_append_comm_assoc O11 Oa [])
    replace hB := hB.permH (List.perm_append_comm_assoc O11 Oa [])
    replace hC : Cx w0 G0 G w ⟨[], (Oa ++ (O11 ++ []))⟩ := hC
    replace hB : Bxs G w w0.heap.size [] ⟨[], (Oa ++ (O11 ++ []))⟩ := hB
    refine wlCallC (O := Oa) (B := (O11 ++ [])) hC hB rfl co10 rfl rfl (proposes_ret _ _ hC.holds b7 Oa sa hC.chunkHeld hC.chunkNd hKsa (((v : Nat) : Int)) _ ((proposed.take (min proposed.length 8))) hs60 hsil hoka) ?_; rintro v61 G O62 w hg hC hB ⟨hs63, rfl⟩
    replace hl := hl.mono hg; replace hproposed := hproposed.mono hg; replace hs13 := hs13.mono hg; replace hs60 := hs60.mono hg
    replace hsil := hsil.mono hg
    have hok64 : SlOk ((psN sa (((v : Nat) : Int)) ((proposed.take (min proposed.length 8))) 8)) := (SlOk.ps hoka _)
    replace hC : Cx w0 G0 G w ⟨[], (O62 ++ (O11 ++ []))⟩ := hC
    replace hB : Bxs G w w0.heap.size [] ⟨[], (O62 ++ (O11 ++ []))⟩ := hB
    refine wlThen ?_
    refine wcSeq ?_
    refine wcRegion ?_
    refine wlVal (opAssign rfl) rfl ?_
    refine wlThen ?_
    refine wcBlock ?_
    refine WC.sub (wrInd (ι := Nat × (List (Nat × Obj)) × SlS) (fun i => match i with | (k, Oc, sc) => l.length - k) (fun i G w => match i with | (k, Oc, sc) => Cx w0 G0 G w ⟨[], (Oc ++ (O11 ++ []))⟩ ∧ Bxs G w w0.heap.size [] ⟨[], (Oc ++ (O11 ++ []))⟩ ∧ Sl G (.slice A1 l.length cap2) l ∧ Sl G (.slice A3 proposed.length cap4) proposed ∧ SlO G b12 O11 ((newSl (crewI 1) 0)) ∧ Sl G (.slice A3 (min proposed.length 8) cap4) ((proposed.take (min proposed.length 8))) ∧ RowG G 0 0 silence.cells ∧ SlO G b7 Oc sc ∧ BJ sc (((v + 1 : Nat)) : Int) ∧ SlOk sc) (fun i => match i with | (k, Oc, sc) => ((((((Env.nil.put 0 (.slice A1 l.length cap2)).put 1 (.slice A3 proposed.length cap4)).put 5 (.pointer (some ⟨b7, 0, none⟩))).put 6 (.pointer (some ⟨b12, 0, none⟩))).put 7 (.int .i64 (((v : Nat) : Int)))).put 8 (.int .i64 (((k : Nat) : Int))))) ?_ (0, O62, (psN sa (((v : Nat) : Int)) ((proposed.take (min proposed.length 8))) 8)) _ _ ⟨hC, hB, hl, hproposed, hs13, hs60, hsil, hs63, (bj_ps (by have q1 := of_decide_eq_true h15; omega) hJ), hok64⟩) (fun _ ha => ((((((ha.start.cons ha (t := 0) rfl).cons ha (t := 1) rfl).cons ha (t := 5) rfl).cons ha (t := 6) rfl).cons ha (t := 7) rfl).cons ha (t := 8) rfl))
    rintro ⟨k, Oc, sc⟩ G w N1 IH1 ⟨hC, hB, hl, hproposed, hs13, hs60, hsil, hKsc, hJ2, hokc⟩
    show WC _ _ _ _ ((((((Env.nil.put 0 (.slice A1 l.length cap2)).put 1 (.slice A3 proposed.length cap4)).put 5 (.pointer (some ⟨b7, 0, none⟩))).put 6 (.pointer (some ⟨b12, 0, none⟩))).put 7 (.int .i64 (((v : Nat) : Int)))).put 8 (.int .i64 (((k : Nat) : Int)))) w
    refine wcSeq ?_
    refine wcSeq ?_
    refine wcRegion ?_
    refine wlVal (opMove rfl) rfl ?_
    refine wlVal (opMove rfl) rfl ?_
    refine wlVal (opLen rfl isl22) rfl ?_
    refine wlVal (opLssN rfl rfl) rfl ?_
    refine wlVal (opMove rfl) rfl ?_
    cases h65 : decide (k < l.length)
    · skip
      refine wlOff rfl rfl rfl rfl ?_
      refine wlOff rfl rfl rfl rfl ?_
      refine wlVal (opPickF rfl rfl) rfl ?_
      refine wlThen ?_
      refine wcCondF rfl ?_
      refine wcExit ?_
      refine wcOf ?_
      refine wcRegion ?_
      refine wlVal (opMove rfl) rfl ?_
      refine wlVal (opIncr rfl rfl (by have q1 := of_decide_eq_true h15; omega)) rfl ?_
      refine wlVal (opAssign rfl) rfl ?_
      refine wlRound ?_
      replace hC := hC.permH (List.perm_append_comm_assoc Oc O11 [])
      replace hB := hB.permH (List.perm_append_comm_assoc Oc O11 [])
      replace hC : Cx w0 G0 G w ⟨[], (O11 ++ (Oc ++ []))⟩ := hC
      replace hB : Bxs G w w0.heap.size [] ⟨[], (O11 ++ (Oc ++ []))⟩ := hB
      exact (IH0 (v + 1, Oc, sc) _ _ ⟨hC, hB, hl, hproposed, hs13, hsil, hKsc, hJ2, (of_decide_eq_true h15), hokc⟩ (by have := of_decide_eq_true h15; show 3 - (v + 1) < 3 - v; omega)).sub (fun _ ha => (((((ha.start.cons ha (t := 0) rfl).cons ha (t := 1) rfl).cons ha (t := 5) rfl).cons ha (t := 6) rfl).cons ha (t := 7) rfl))
    · skip
      refine wlOn rfl rfl ?_
      refine wlVal (opMove rfl) rfl ?_
      refine wlOn rfl rfl ?_
      refine wlVal (opLssN (b := 60) rfl rfl) rfl ?_
      refine wlVal (opPickT rfl rfl) rfl ?_
      refine wlThen ?_
      cases h66 : decide (k < 60)
      · skip
        refine wcCondF rfl ?_
        refine wcExit ?_
        refine wcOf ?_
        refine wcRegion ?_
        refine wlVal (opMove rfl) rfl ?_
        refine wlVal (opIncr rfl rfl (by have q1 := of_decide_eq_true h15; omega)) rfl ?_
        refine wlVal (opAssign rfl) rfl ?_
        refine wlRound ?_
        replace hC := hC.permH (List.perm_append_comm_assoc Oc O11 [])
        replace hB := hB.permH (List.perm_append_comm_assoc Oc O11 [])
        replace hC : Cx w0 G0 G w ⟨[], (O11 ++ (Oc ++ []))⟩ := hC
        replace hB : Bxs G w w0.heap.size [] ⟨[], (O11 ++ (Oc ++ []))⟩ := hB
        exact (IH0 (v + 1, Oc, sc) _ _ ⟨hC, hB, hl, hproposed, hs13, hsil, hKsc, hJ2, (of_decide_eq_true h15), hokc⟩ (by have := of_decide_eq_true h15; show 3 - (v + 1) < 3 - v; omega)).sub (fun _ ha => (((((ha.start.cons ha (t := 0) rfl).cons ha (t := 1) rfl).cons ha (t := 5) rfl).cons ha (t := 6) rfl).cons ha (t := 7) rfl))
      · skip
        refine wcCondT rfl ?_
        refine wcSkip ?_
        refine wcOf ?_
        refine wcSeq ?_
        refine wcBlock ?_
        refine wcSeq ?_
        refine wcRegion ?_
        refine wlVal (opMove rfl) rfl ?_
        refine wlVal (opMove rfl) rfl ?_
        obtain ⟨x67, hx68⟩ : ∃ y_, l[k]? = some y_ := ⟨_, List.getElem?_eq_getElem (of_decide_eq_true h65)⟩
        obtain ⟨b69, o70, row71, hA74, hr72, hi73⟩ := hl.elem hx68; subst hA74
        obtain rfl := hi73
        refine wlVal (opIndexAddr rfl rfl slo22 (of_decide_eq_true h65)) rfl ?_
        refine wlVal (opLoadRow (cs := x67.cells) rfl (RowG.range hC.holds hr72) row27 rfl) rfl ?_
        refine wlAlloc hC hB zero27 rfl ?_; intro b75 w hk hC hB
        refine wlStore 0 (vs := x67.cells) (cs := [(.int .i64 0), (.int .i64 0), (.int .i64 0), (.bool false), (.int .u8 0)]) (cs' := x67.cells) hC hB rfl rfl rfl sz27 rfl rfl rfl (by simp [Word.cells, Stand.cells, Wd.cells, Mark.cells]) rfl rfl ?_; intro w hC hB
        refine wlThen ?_
        refine wcSeq ?_
        refine wcRegion ?_
        refine wlVal (opMove rfl) rfl ?_
        refine wlVal (opFieldAddr rfl fo27_1) rfl ?_
        refine wlStore 0 (vs := [(.int .i64 (((v : Nat) : Int)))]) (cs := x67.cells) (cs' := [(.int .i64 x67.node), (.int .i64 (((v : Nat) : Int))), (.int .i64 x67.seq), (.bool x67.commits), (.int .u8 (((x67.b).toNat : Int)))]) hC hB rfl rfl rfl sz3 rfl rfl rfl (by simp [Word.cells, Stand.cells, Wd.cells, Mark.cells]) rfl rfl ?_; intro w hC hB
        refine wlThen ?_
        refine wcRegion ?_
        refine wlVal (opMove rfl) rfl ?_
        refine wlVal (opLoadRow (cs := [(.int .i64 x67.node), (.int .i64 (((v : Nat) : Int))), (.int .i64 x67.seq), (.bool x67.commits), (.int .u8 (((x67.b).toNat : Int)))]) rfl (hB.range (i := 0) (m := 5) rfl rfl) row27 rfl) rfl ?_
        refine wlCallC (O := Oc) (B := (O11 ++ [])) hC hB rfl co9 rfl rfl (says_ret _ _ hC.holds b7 Oc sc hC.chunkHeld hC.chunkNd hKsc 1 ((Word.mk x67.node (((v : Nat) : Int)) x67.seq x67.commits x67.b)) hsil hokc) ?_; rintro v76 G O77 w hg hC hB ⟨hs78, rfl⟩
        replace hl := hl.mono hg; replace hproposed := hproposed.mono hg; replace hs13 := hs13.mono hg; replace hs60 := hs60.mono hg; replace hr72 := hr72.mono hg
        replace hsil := hsil.mono hg
        have hok79 : SlOk ((sayI sc 1 ((Word.mk x67.node (((v : Nat) : Int)) x67.seq x67.commits x67.b))).1) := (SlOk.say hokc)
        replace hC : Cx w0 G0 G w ⟨[], (O77 ++ (O11 ++ []))⟩ := hC
        replace hB : Bxs G w w0.heap.size [(b75, 27, [(.int .i64 x67.node), (.int .i64 (((v : Nat) : Int))), (.int .i64 x67.seq), (.bool x67.commits), (.int .u8 (((x67.b).toNat : Int)))])] ⟨[], (O77 ++ (O11 ++ []))⟩ := hB
        refine wlNil ?_
        refine wcOf ?_
        refine wcRegion ?_
        refine wlVal (opMove rfl) rfl ?_
        refine wlVal (opIncr rfl rfl (incr_ok (of_decide_eq_true h65) hl.le)) rfl ?_
        refine wlVal (opAssign rfl) rfl ?_
        refine wlRound ?_
        exact (IH1 (k + 1, O77, (sayI sc 1 ((Word.mk x67.node (((v : Nat) : Int)) x67.seq x67.commits x67.b))).1) _ _ ⟨hC, hB.tail, hl, hproposed, hs13, hs60, hsil, hs78, (bj_say (Int.natCast_nonneg _) hJ2), hok79⟩ (by have := of_decide_eq_true h65; show l.length - (k + 1) < l.length - k; omega)).sub (fun _ ha => ((((((ha.start.cons ha (t := 0) rfl).cons ha (t := 1) rfl).cons ha (t := 5) rfl).cons ha (t := 6) rfl).cons ha (t := 7) rfl).cons ha (t := 8) rfl))

end Go.Proofs.YtljcgggflgbenaaDoor
