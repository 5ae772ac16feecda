/- What functions of the slots seat return, part 7. No condition. -/
import Derived.Test.YtljcgggflgbenaaDoorSlG6
set_option linter.all false
namespace Go.Proofs.YtljcgggflgbenaaDoor
open Go Go.Gx Go.RowKit
theorem nk1_1 : newOk (crewI 1) 1 0 = true := by kernel_rfl
theorem isl22 : isSlice Tryd.prog 22 = true := by kernel_rfl
theorem co10 : callOk Tryd.prog 10 = true := by kernel_rfl
theorem slo22 : sliceOk Tryd.prog 22 27 5 = true := by kernel_rfl
theorem row27 : rowOk Tryd.prog 27 5 = true := by kernel_rfl
theorem co9 : callOk Tryd.prog 9 = true := by kernel_rfl
theorem zero27 : (Tryd.prog.info? 27).bind (fun i => i.zero.map Value.cells) = some ([(.int .i64 0), (.int .i64 0), (.int .i64 0), (.bool false), (.int .u8 0)] : List Value).toArray := by kernel_rfl
theorem sz27 : (Tryd.prog.info? 27).map (·.size) = some 5 := by kernel_rfl
theorem elo22 : elemOk Tryd.prog 22 27 5 32 = true := by kernel_rfl
set_option maxRecDepth 8000 in
theorem order14_ret (G0 : Gh) (w0 : World) (hw : Holds G0 w0) (vl : Value) (l : List Word) (hl : Sl G0 vl l) (vproposed : Value) (proposed : List UInt8) (hproposed : Sl G0 vproposed proposed) (hsil : RowG G0 0 0 silence.cells) :
    RetS Tryd.prog 3 #[vl, vproposed] G0 w0 (.bool true) := by
  have hC := Cx.refl hw
  have hB : Bxs G0 w0 w0.heap.size [] := Bxs.nil _ _ _
  obtain ⟨A1, cap2, rfl⟩ := hl.form
  obtain ⟨A3, cap4, rfl⟩ := hproposed.form
  refine callsOf Tryd.func3 rfl _ Tryd.ntmps3 rfl _ (argsCons (argsCons argsNil (t := 0) rfl) (t := 1) rfl) ?_; intro Q0 hQ
  refine wcSeq ?_
  refine wcRegion ?_
  refine wlVal (opAssign rfl) rfl ?_
  refine wlThen ?_
  refine wcSeq ?_
  refine wcRegion ?_
  replace hC : Cx w0 G0 G0 w0 ⟨[], []⟩ := hC
  replace hB : Bxs G0 w0 w0.heap.size [] ⟨[], []⟩ := hB
  refine wlCallNew hC hB rfl co8 rfl rfl (fresh1_ret _ _ hC.holds 1 hsil nk1_1) ?_; rintro v5 G O6 w hg hC hB ⟨b7, rfl, hs8⟩
  replace hl := hl.mono hg; replace hproposed := hproposed.mono hg
  replace hsil := hsil.mono hg
  have hok9 : SlOk ((newSl (crewI 1) 0)) := (newOk_ok nk1_1)
  replace hC : Cx w0 G0 G w ⟨[], (O6 ++ [])⟩ := hC
  replace hB : Bxs G w w0.heap.size [] ⟨[], (O6 ++ [])⟩ := hB
  refine wlCallNew hC hB rfl co8 rfl rfl (fresh1_ret _ _ hC.holds 1 hsil nk1_1) ?_; rintro v10 G O11 w hg hC hB ⟨b12, rfl, hs13⟩
  replace hl := hl.mono hg; replace hproposed := hproposed.mono hg; replace hs8 := hs8.mono hg
  replace hsil := hsil.mono hg
  have hok14 : SlOk ((newSl (crewI 1) 0)) := (newOk_ok nk1_1)
  replace hC : Cx w0 G0 G w ⟨[], (O11 ++ (O6 ++ []))⟩ := hC
  replace hB : Bxs G w w0.heap.size [] ⟨[], (O11 ++ (O6 ++ []))⟩ := hB
  refine wlVal (opAssign rfl) rfl ?_
  refine wlVal (opAssign rfl) rfl ?_
  refine wlThen ?_
  refine wcSeq ?_
  refine wcRegion ?_
  refine wlVal (opAssign rfl) rfl ?_
  refine wlThen ?_
  refine wcSeq ?_
  refine wcSeq ?_
  refine wcRegion ?_
  refine wlVal (opAssign rfl) rfl ?_
  refine wlThen ?_
  refine wcBlock ?_
  refine WC.sub (wrInd (ι := Nat × (Option Addr) × Nat × (Option Bx) × (List Word) × (List (Nat × Obj)) × SlS) (fun i => match i with | (k, fitA, fitC, fitO, fit, Oa, sa) => l.length - k) (fun i G w => match i with | (k, fitA, fitC, fitO, fit, Oa, sa) => Cx w0 G0 G w ⟨[], (O11 ++ (Oa ++ []))⟩ ∧ Bxs G w w0.heap.size ([] ++ (Option.toList fitO ++ [])) ⟨[], (O11 ++ (Oa ++ []))⟩ ∧ Sl G (.slice A1 l.length cap2) l ∧ Sl G (.slice A3 proposed.length cap4) proposed ∧ SlO G b12 O11 ((newSl (crewI 1) 0)) ∧ Ow G fitO 27 (.slice fitA fit.length fitC) fit ∧ RowG G 0 0 silence.cells ∧ SlO G b7 Oa sa ∧ OJ 1 sa fit (fun _ => silence) (fun _ => []) ∧ fit.length ≤ k ∧ k ≤ 60 ∧ SlOk sa) (fun i => match i with | (k, fitA, fitC, fitO, fit, Oa, sa) => ((((((Env.nil.put 0 (.slice A1 l.length cap2)).put 1 (.slice A3 proposed.length cap4)).put 5 (.pointer (some ⟨b7, 0, none⟩))).put 6 (.pointer (some ⟨b12, 0, none⟩))).put 7 (.slice fitA fit.length fitC)).put 8 (.int .i64 (((k : Nat) : Int))))) ?_ (0, none, 0, none, [], O6, (newSl (crewI 1) 0)) _ _ ⟨hC, hB, hl, hproposed, hs13, (Ow.nil_ _ 27), hsil, hs8, oj_new, (Nat.le_refl _), (Nat.zero_le _), hok9⟩) (fun _ ha => ((((((ha.start.cons ha (t := 0) rfl).cons ha (t := 1) rfl).cons ha (t := 5) rfl).cons ha (t := 6) rfl).cons ha (t := 7) rfl).cons ha (t := 8) rfl))
  rintro ⟨k, fitA, fitC, fitO, fit, Oa, sa⟩ G w N0 IH0 ⟨hC, hB, hl, hproposed, hs13, hOfit, hsil, hKsa, hJ, hfl, hk60, hoka⟩
  show WC _ _ _ _ ((((((Env.nil.put 0 (.slice A1 l.length cap2)).put 1 (.slice A3 proposed.length cap4)).put 5 (.pointer (some ⟨b7, 0, none⟩))).put 6 (.pointer (some ⟨b12, 0, none⟩))).put 7 (.slice fitA fit.length fitC)).put 8 (.int .i64 (((k : Nat) : Int)))) w
  refine wcSeq ?_
  refine wcSeq ?_
  refine wcRegion ?_
  refine wlVal (opMove rfl) rfl ?_
  refine wlVal (opMove rfl) rfl ?_
  refine wlVal (opLen rfl isl22) rfl ?_
  refine wlVal (opLssN rfl rfl) rfl ?_
  refine wlVal (opMove rfl) rfl ?_
  cases h15 : decide (k < l.length)
  · skip
    refine wlOff rfl rfl rfl rfl ?_
    refine wlOff rfl rfl rfl rfl ?_
    refine wlVal (opPickF rfl rfl) rfl ?_
    refine wlThen ?_
    refine wcCondF rfl ?_
    refine wcExit ?_
    refine wcOf ?_
    refine wcSeq ?_
    refine wcRegion ?_
    refine wlVal (opMove rfl) rfl ?_
    refine wlVal (opMove rfl) rfl ?_
    refine wlCallC (O := O11) (B := (Oa ++ [])) hC hB rfl co10 rfl rfl (proposes_ret _ _ hC.holds b12 O11 ((newSl (crewI 1) 0)) hC.chunkHeld hC.chunkNd hs13 0 _ proposed hproposed hsil hok14) ?_; rintro v16 G O17 w hg hC hB ⟨hs18, rfl⟩
    replace hl := hl.mono hg; replace hproposed := hproposed.mono hg; replace hOfit := hOfit.mono hg; replace hKsa := hKsa.mono hg
    replace hsil := hsil.mono hg
    have hok19 : SlOk ((psN ((newSl (crewI 1) 0)) 0 proposed 8)) := (SlOk.ps hok14 _)
    replace hC : Cx w0 G0 G w ⟨[], (O17 ++ (Oa ++ []))⟩ := hC
    replace hB : Bxs G w w0.heap.size ([] ++ (Option.toList fitO ++ [])) ⟨[], (O17 ++ (Oa ++ []))⟩ := hB
    refine wlThen ?_
    refine wcSeq ?_
    refine wcRegion ?_
    refine wlVal (opMove rfl) rfl ?_
    refine wlVal (opMove rfl) rfl ?_
    replace hC := hC.permH (List.perm_append_comm_assoc O17 Oa [])
    replace hB := hB.permH (List.perm_append_comm_assoc O17 Oa [])
    replace hC : Cx w0 G0 G w ⟨[], (Oa ++ (O17 ++ []))⟩ := hC
    replace hB : Bxs G w w0.heap.size ([] ++ (Option.toList fitO ++ [])) ⟨[], (Oa ++ (O17 ++ []))⟩ := hB
    refine wlCallC (O := Oa) (B := (O17 ++ [])) hC hB rfl co10 rfl rfl (proposes_ret _ _ hC.holds b7 Oa sa hC.chunkHeld hC.chunkNd hKsa 0 _ proposed hproposed hsil hoka) ?_; rintro v20 G O21 w hg hC hB ⟨hs22, rfl⟩
    replace hl := hl.mono hg; replace hproposed := hproposed.mono hg; replace hOfit := hOfit.mono hg; replace hs18 := hs18.mono hg
    replace hsil := hsil.mono hg
    have hok23 : SlOk ((psN sa 0 proposed 8)) := (SlOk.ps hoka _)
    replace hC : Cx w0 G0 G w ⟨[], (O21 ++ (O17 ++ []))⟩ := hC
    replace hB : Bxs G w w0.heap.size ([] ++ (Option.toList fitO ++ [])) ⟨[], (O21 ++ (O17 ++ []))⟩ := hB
    refine wlThen ?_
    refine wcSeq ?_
    refine wcSeq ?_
    refine wcRegion ?_
    refine wlVal (opMove rfl) rfl ?_
    refine wlVal (opLen rfl isl22) rfl ?_
    refine wlVal (opSub rfl rfl) rfl ?_
    refine wlVal (opAssign rfl) rfl ?_
    refine wlThen ?_
    refine wcBlock ?_
    obtain ⟨G, hg25, hC, hB, hs24⟩ := Ow.freeze' (bl := []) (r := []) hOfit hC (Nat.le_refl _) hB (Nat.le_trans (Nat.le_trans hfl hk60) (by decide : (60 : Nat) ≤ maxL))
    replace hl := hl.mono hg25; replace hproposed := hproposed.mono hg25; replace hs18 := hs18.mono hg25; replace hs22 := hs22.mono hg25
    replace hsil := hsil.mono hg25
    refine WC.sub (wrInd (ι := Int × Nat × (List (Nat × Obj)) × SlS) (fun i => match i with | (i, m, Ob, sb) => m) (fun i G w => match i with | (i, m, Ob, sb) => Cx w0 G0 G w ⟨[], (O21 ++ (Ob ++ []))⟩ ∧ Bxs G w w0.heap.size [] ⟨[], (O21 ++ (Ob ++ []))⟩ ∧ Sl G (.slice A1 l.length cap2) l ∧ Sl G (.slice A3 proposed.length cap4) proposed ∧ SlO G b7 O21 ((psN sa 0 proposed 8)) ∧ Sl G (.slice fitA fit.length fitC) fit ∧ RowG G 0 0 silence.cells ∧ SlO G b12 Ob sb ∧ i = ((m : Nat) : Int) - 1 ∧ m ≤ fit.length ∧ OJ 1 sb (fit.drop m) (fun j => Wd.mk 0 (pD proposed j)) (fun j => [Stand.mk j (pD proposed j) 0]) ∧ SlOk sb) (fun i => match i with | (i, m, Ob, sb) => ((((Env.nil.put 5 (.pointer (some ⟨b7, 0, none⟩))).put 6 (.pointer (some ⟨b12, 0, none⟩))).put 7 (.slice fitA fit.length fitC)).put 10 (.int .i64 i))) ?_ (IntKind.wrap .i64 (((fit.length : Nat) : Int) - 1), fit.length, O17, (psN ((newSl (crewI 1) 0)) 0 proposed 8)) _ _ ⟨hC, hB, hl, hproposed, hs22, hs24, hsil, hs18, (by rw [IntWalk.i64_in _ (by omega)]), (Nat.le_refl _), (by rw [List.drop_length]; exact oj_ps (.inl rfl) oj_new), hok19⟩) (fun _ ha => ((((ha.start.cons ha (t := 5) rfl).cons ha (t := 6) rfl).cons ha (t := 7) rfl).cons ha (t := 10) rfl))
    rintro ⟨i, m, Ob, sb⟩ G w N1 IH1 ⟨hC, hB, hl, hproposed, hs22, hs24, hsil, hKsb, hi, hm, hBo, hokb⟩
    show WC _ _ _ _ ((((Env.nil.put 5 (.pointer (some ⟨b7, 0, none⟩))).put 6 (.pointer (some ⟨b12, 0, none⟩))).put 7 (.slice fitA fit.length fitC)).put 10 (.int .i64 i)) w
    refine wcSeq ?_
    refine wcSeq ?_
    refine wcRegion ?_
    refine wlVal (opMove rfl) rfl ?_
    refine wlVal (opGeq rfl rfl) rfl ?_
    refine wlThen ?_
    cases h26 : decide (0 ≤ i)
    · skip
      refine wcCondF rfl ?_
      refine wcExit ?_
      refine wcOf ?_
      refine wcSeq ?_
      refine wcSeq ?_
      refine wcRegion ?_
      refine wlVal (opAssign rfl) rfl ?_
      refine wlThen ?_
      refine wcBlock ?_
      refine WC.sub (wrInd (ι := Nat) (fun j => 9 - j) (fun j G w => Cx w0 G0 G w ⟨[], (O21 ++ (Ob ++ []))⟩ ∧ Bxs G w w0.heap.size [] ⟨[], (O21 ++ (Ob ++ []))⟩ ∧ Sl G (.slice A1 l.length cap2) l ∧ Sl G (.slice A3 proposed.length cap4) proposed ∧ SlO G b7 O21 ((psN sa 0 proposed 8)) ∧ Sl G (.slice fitA fit.length fitC) fit ∧ SlO G b12 Ob sb ∧ RowG G 0 0 silence.cells ∧ 1 ≤ j) (fun j => (((Env.nil.put 5 (.pointer (some ⟨b7, 0, none⟩))).put 6 (.pointer (some ⟨b12, 0, none⟩))).put 11 (.int .i64 (((j : Nat) : Int))))) ?_ (1) _ _ ⟨hC, hB, hl, hproposed, hs22, hs24, hKsb, hsil, (Nat.le_refl _)⟩) (fun _ ha => (((ha.start.cons ha (t := 5) rfl).cons ha (t := 6) rfl).cons ha (t := 11) rfl))
      rintro j G w N2 IH2 ⟨hC, hB, hl, hproposed, hs22, hs24, hKsb, hsil, hj1⟩
      show WC _ _ _ _ (((Env.nil.put 5 (.pointer (some ⟨b7, 0, none⟩))).put 6 (.pointer (some ⟨b12, 0, none⟩))).put 11 (.int .i64 (((j : Nat) : Int)))) w
      refine wcSeq ?_
      refine wcSeq ?_
      refine wcRegion ?_
      refine wlVal (opMove rfl) rfl ?_
      refine wlVal (opLssN (b := 9) rfl rfl) rfl ?_
      refine wlThen ?_
      cases h27 : decide (j < 9)
      · skip
        refine wcCondF rfl ?_
        refine wcExit ?_
        refine wcOf ?_
        refine wcSeq ?_
        refine wcRegion ?_
        refine wlVal (opMove rfl) rfl ?_
        refine wlCallO (bl := []) (r := []) hC hB rfl co14 rfl rfl (RetO.lend hC (fun _ _ _ _ ⟨A, cap, e, h⟩ => ⟨A, cap, e, h.any (fun _ _ _ _ h => h)⟩) (fun G_ hg_ hh_ hL_ => p_ret _ _ hh_ b7 O21 ((psN sa 0 proposed 8)) (fun y hy => hL_ y (List.mem_append_left _ hy)) (hs22.mono hg_) (hsil.mono hg_) hok23.low)) ?_; rintro v32 G o30 w hk hC hB ⟨A28, cap29, rfl, hO31⟩
        replace hl := hl.mono hk.gle; replace hproposed := hproposed.mono hk.gle; replace hs22 := hs22.mono hk.gle; replace hs24 := hs24.mono hk.gle; replace hKsb := hKsb.mono hk.gle
        replace hsil := hsil.mono hk.gle
        refine wlVal (opMove rfl) rfl ?_
        refine wlCallO (bl := []) (r := (Option.toList o30 ++ [])) hC hB rfl co14 rfl rfl (RetO.lend hC (fun _ _ _ _ ⟨A, cap, e, h⟩ => ⟨A, cap, e, h.any (fun _ _ _ _ h => h)⟩) (fun G_ hg_ hh_ hL_ => p_ret _ _ hh_ b12 Ob sb (fun y hy => hL_ y (List.mem_append_right _ (List.mem_append_left _ hy))) (hKsb.mono hg_) (hsil.mono hg_) hokb.low)) ?_; rintro v37 G o35 w hk hC hB ⟨A33, cap34, rfl, hO36⟩
        replace hl := hl.mono hk.gle; replace hproposed := hproposed.mono hk.gle; replace hs22 := hs22.mono hk.gle; replace hs24 := hs24.mono hk.gle; replace hKsb := hKsb.mono hk.gle; replace hO31 := hO31.mono hk.gle
        replace hsil := hsil.mono hk.gle
        replace hB := Bxs.swapOwn (bl := []) (A := Option.toList o35) (B := Option.toList o30) (r := []) hB
        replace hB := Bxs.swapOwn (bl := []) (A := Option.toList o30) (B := Option.toList o35) (r := []) hB
        obtain ⟨G, hg39, hC, hB, hs38⟩ := Ow.freeze' (bl := []) (r := (Option.toList o30 ++ [])) hO36 hC (Nat.le_refl _) hB (Nat.le_trans (pI_len _ _ _) (by decide : (8 : Nat) ≤ maxL))
        replace hl := hl.mono hg39; replace hproposed := hproposed.mono hg39; replace hs22 := hs22.mono hg39; replace hs24 := hs24.mono hg39; replace hKsb := hKsb.mono hg39; replace hO31 := hO31.mono hg39
        replace hsil := hsil.mono hg39
        refine wlCallS hC hB rfl co13 rfl rfl (RetS.borrow (bl := []) (r := []) hO31 hC hB (Nat.le_trans (pI_len _ _ _) (by decide : (8 : Nat) ≤ maxL)) (fun G_ hglent hhlent hlent => stands_ret _ _ hhlent _ (((pI ((psN sa 0 proposed 8)).f (((psN sa 0 proposed 8)).low + 1) 8))) hlent _ (((pI sb.f (sb.low + 1) 8))) (hs38.mono hglent))) ?_; intro w hk hC hB
        refine wlVal (opMove rfl) rfl ?_
        cases h40 : (decide ((((pI ((psN sa 0 proposed 8)).f (((psN sa 0 proposed 8)).low + 1) 8))) = (((pI sb.f (sb.low + 1) 8)))))
        · skip
          exact absurd (or_pq (oj_ps (.inl rfl) hJ (l := proposed)) hBo (fun y => by rw [(show m = 0 by have q1 := of_decide_eq_false h26; omega)]; simp)).1 (of_decide_eq_false h40)
        · skip
          refine wlOn rfl rfl ?_
          refine wlVal (opMove rfl) rfl ?_
          refine wlOn rfl rfl ?_
          refine wlCallO (bl := []) (r := (Option.toList o30 ++ [])) hC hB rfl co15 rfl rfl (RetO.lend hC (fun _ _ _ _ ⟨A, cap, e, h⟩ => ⟨A, cap, e, h.any (fun _ _ _ _ h => h)⟩) (fun G_ hg_ hh_ hL_ => q_ret _ _ hh_ b7 O21 ((psN sa 0 proposed 8)) (fun y hy => hL_ y (List.mem_append_left _ hy)) (hs22.mono hg_) hok23.low (fun k t h => Nat.le_trans (hok23.q4 k t h) (by decide)))) ?_; rintro v45 G o43 w hk hC hB ⟨A41, cap42, rfl, hO44⟩
          replace hl := hl.mono hk.gle; replace hproposed := hproposed.mono hk.gle; replace hs22 := hs22.mono hk.gle; replace hs24 := hs24.mono hk.gle; replace hKsb := hKsb.mono hk.gle; replace hO31 := hO31.mono hk.gle; replace hs38 := hs38.mono hk.gle
          replace hsil := hsil.mono hk.gle
          refine wlOn rfl rfl ?_
          refine wlVal (opMove rfl) rfl ?_
          refine wlOn rfl rfl ?_
          refine wlCallO (bl := []) (r := (Option.toList o43 ++ (Option.toList o30 ++ []))) hC hB rfl co15 rfl rfl (RetO.lend hC (fun _ _ _ _ ⟨A, cap, e, h⟩ => ⟨A, cap, e, h.any (fun _ _ _ _ h => h)⟩) (fun G_ hg_ hh_ hL_ => q_ret _ _ hh_ b12 Ob sb (fun y hy => hL_ y (List.mem_append_right _ (List.mem_append_left _ hy))) (hKsb.mono hg_) hokb.low (fun k t h => Nat.le_trans (hokb.q4 k t h) (by decide)))) ?_; rintro v50 G o48 w hk hC hB ⟨A46, cap47, rfl, hO49⟩
          replace hl := hl.mono hk.gle; replace hproposed := hproposed.mono hk.gle; replace hs22 := hs22.mono hk.gle; replace hs24 := hs24.mono hk.gle; replace hKsb := hKsb.mono hk.gle; replace hO31 := hO31.mono hk.gle; replace hs38 := hs38.mono hk.gle; replace hO44 := hO44.mono hk.gle
          replace hsil := hsil.mono hk.gle
          refine wlOn rfl rfl ?_
          replace hB := Bxs.swapOwn (bl := []) (A := Option.toList o48) (B := Option.toList o43) (r := (Option.toList o30 ++ [])) hB
          replace hB := Bxs.swapOwn (bl := []) (A := Option.toList o43) (B := Option.toList o48) (r := (Option.toList o30 ++ [])) hB
          obtain ⟨G, hg52, hC, hB, hs51⟩ := Ow.freeze' (bl := []) (r := (Option.toList o43 ++ (Option.toList o30 ++ []))) hO49 hC (Nat.le_refl _) hB (Nat.le_trans (qI_len _ _ (fun k t h => Nat.le_trans (hokb.q4 k t h) (by decide)) _) (by decide : (8000000 : Nat) ≤ maxL))
          replace hl := hl.mono hg52; replace hproposed := hproposed.mono hg52; replace hs22 := hs22.mono hg52; replace hs24 := hs24.mono hg52; replace hKsb := hKsb.mono hg52; replace hO31 := hO31.mono hg52; replace hs38 := hs38.mono hg52; replace hO44 := hO44.mono hg52
          replace hsil := hsil.mono hg52
          refine wlCallS hC hB rfl co13 rfl rfl (RetS.borrow (bl := []) (r := (Option.toList o30 ++ [])) hO44 hC hB (Nat.le_trans (qI_len _ _ (fun k t h => Nat.le_trans (hok23.q4 k t h) (by decide)) _) (by decide : (8000000 : Nat) ≤ maxL)) (fun G_ hglent hhlent hlent => stands_ret _ _ hhlent _ (((qI ((psN sa 0 proposed 8)).f (((psN sa 0 proposed 8)).low + 1) 8))) hlent _ (((qI sb.f (sb.low + 1) 8))) (hs51.mono hglent))) ?_; intro w hk hC hB
          refine wlVal (opPickT rfl rfl) rfl ?_
          refine wlVal (opMove rfl) rfl ?_
          cases h53 : (decide ((((qI ((psN sa 0 proposed 8)).f (((psN sa 0 proposed 8)).low + 1) 8))) = (((qI sb.f (sb.low + 1) 8)))))
          · skip
            exact absurd (or_pq (oj_ps (.inl rfl) hJ (l := proposed)) hBo (fun y => by rw [(show m = 0 by have q1 := of_decide_eq_false h26; omega)]; simp)).2 (of_decide_eq_false h53)
          · skip
            refine wlOn rfl rfl ?_
            refine wlCallS hC hB rfl co16 rfl rfl (awake_ret _ _ hC.holds hsil) ?_; intro w hk hC hB
            refine wlVal (opPickT rfl rfl) rfl ?_
            refine wlVal (opAssign rfl) rfl ?_
            refine wlThen ?_
            refine wcRet ?_
            exact fun ac_ ha => hQ _ _ _ (results1 ha rfl rfl) ha.df (endS hC hw rfl)
      · skip
        refine wcCondT rfl ?_
        refine wcSkip ?_
        refine wcOf ?_
        refine wcSeq ?_
        refine wcBlock ?_
        refine wcSeq ?_
        refine wcRegion ?_
        refine wlVal (opMove rfl) rfl ?_
        refine wlVal (opMove rfl) rfl ?_
        refine wlCallS hC hB rfl co11 rfl rfl (RetS.lend hC (fun G_ hg_ hh_ hL_ => prepared_ret _ _ hh_ b7 O21 ((psN sa 0 proposed 8)) (fun y hy => hL_ y (List.mem_append_left _ hy)) (hs22.mono hg_) (((j : Nat) : Int)) (hsil.mono hg_))) ?_; intro w hk hC hB
        refine wlVal (opMove rfl) rfl ?_
        refine wlVal (opMove rfl) rfl ?_
        refine wlCallS hC hB rfl co11 rfl rfl (RetS.lend hC (fun G_ hg_ hh_ hL_ => prepared_ret _ _ hh_ b12 Ob sb (fun y hy => hL_ y (List.mem_append_right _ (List.mem_append_left _ hy))) (hKsb.mono hg_) (((j : Nat) : Int)) (hsil.mono hg_))) ?_; intro w hk hC hB
        refine wlVal (opNeBool ub4 rfl rfl) rfl ?_
        refine wlVal (opMove rfl) rfl ?_
        cases h54 : (((preparedI ((psN sa 0 proposed 8)) (((j : Nat) : Int))))) != (((preparedI sb (((j : Nat) : Int)))))
        · skip
          refine wlOn rfl rfl ?_
          refine wlVal (opMove rfl) rfl ?_
          refine wlOn rfl rfl ?_
          refine wlVal (opMove rfl) rfl ?_
          refine wlOn rfl rfl ?_
          refine wlCallS hC hB rfl co12 rfl rfl (RetS.lend hC (fun G_ hg_ hh_ hL_ => committed_ret _ _ hh_ b7 O21 ((psN sa 0 proposed 8)) (fun y hy => hL_ y (List.mem_append_left _ hy)) (hs22.mono hg_) (((j : Nat) : Int)) (hsil.mono hg_))) ?_; intro w hk hC hB
          refine wlOn rfl rfl ?_
          refine wlVal (opMove rfl) rfl ?_
          refine wlOn rfl rfl ?_
          refine wlVal (opMove rfl) rfl ?_
          refine wlOn rfl rfl ?_
          refine wlCallS hC hB rfl co12 rfl rfl (RetS.lend hC (fun G_ hg_ hh_ hL_ => committed_ret _ _ hh_ b12 Ob sb (fun y hy => hL_ y (List.mem_append_right _ (List.mem_append_left _ hy))) (hKsb.mono hg_) (((j : Nat) : Int)) (hsil.mono hg_))) ?_; intro w hk hC hB
          refine wlOn rfl rfl ?_
          refine wlVal (opNeBool ub4 rfl rfl) rfl ?_
          refine wlVal (opPickF rfl rfl) rfl ?_
          refine wlThen ?_
          cases h55 : (((committedI ((psN sa 0 proposed 8)) (((j : Nat) : Int))))) != (((committedI sb (((j : Nat) : Int)))))
          · skip
            refine wcCondF rfl ?_
            refine wcSkip ?_
            refine wcOf ?_
            refine wcRegion ?_
            refine wlVal (opMove rfl) rfl ?_
            refine wlVal (opIncr rfl rfl (by have q1 := of_decide_eq_true h27; omega)) rfl ?_
            refine wlVal (opAssign rfl) rfl ?_
            refine wlRound ?_
            exact (IH2 (j + 1) _ _ ⟨hC, hB, hl, hproposed, hs22, hs24, hKsb, hsil, (by omega)⟩ (by have := of_decide_eq_true h27; show 9 - (j + 1) < 9 - j; omega)).sub (fun _ ha => (((ha.start.cons ha (t := 5) rfl).cons ha (t := 6) rfl).cons ha (t := 11) rfl))
          · skip
            exact absurd h55 (by rw [(or_prep (oj_ps (.inl rfl) hJ (l := proposed)) hBo (fun y => by rw [(show m = 0 by have q1 := of_decide_eq_false h26; omega)]; simp) (j := ((j : Nat) : Int)) (by omega) (by have q1 := of_decide_eq_true h27; omega)).2]; simp)
        · skip
          exact absurd h54 (by rw [(or_prep (oj_ps (.inl rfl) hJ (l := proposed)) hBo (fun y => by rw [(show m = 0 by have q1 := of_decide_eq_false h26; omega)]; simp) (j := ((j : Nat) : Int)) (by omega) (by have q1 := of_decide_eq_true h27; omega)).1]; simp)
    · skip
      obtain ⟨mm, rfl⟩ : ∃ m', m = m' + 1 := ⟨m - 1, by have q1 := of_decide_eq_true h26; omega⟩
      have hi2 : i = ((mm : Nat) : Int) := by omega
      subst hi2
      refine wcCondT rfl ?_
      refine wcSkip ?_
      refine wcOf ?_
      refine wcSeq ?_
      refine wcBlock ?_
      refine wcSeq ?_
      refine wcRegion ?_
      refine wlVal (opMove rfl) rfl ?_
      refine wlVal (opMove rfl) rfl ?_
      refine wlVal (opMove rfl) rfl ?_
      obtain ⟨x56, hx57⟩ : ∃ y_, fit[mm]? = some y_ := ⟨_, List.getElem?_eq_getElem (Nat.lt_of_succ_le hm)⟩
      obtain ⟨b58, o59, row60, hA63, hr61, hi62⟩ := hs24.elem hx57; subst hA63
      obtain rfl := hi62
      refine wlVal (opIndexAddr rfl rfl slo22 (Nat.lt_of_succ_le hm)) rfl ?_
      refine wlVal (opLoadRow (cs := x56.cells) rfl (RowG.range hC.holds hr61) row27 rfl) rfl ?_
      replace hC := hC.permH (List.perm_append_comm_assoc O21 Ob [])
      replace hB := hB.permH (List.perm_append_comm_assoc O21 Ob [])
      replace hC : Cx w0 G0 G w ⟨[], (Ob ++ (O21 ++ []))⟩ := hC
      replace hB : Bxs G w w0.heap.size [] ⟨[], (Ob ++ (O21 ++ []))⟩ := hB
      refine wlCallC (O := Ob) (B := (O21 ++ [])) hC hB rfl co9 rfl rfl (says_ret _ _ hC.holds b12 Ob sb hC.chunkHeld hC.chunkNd hKsb 1 x56 hsil hokb) ?_; rintro v64 G O65 w hg hC hB ⟨hs66, rfl⟩
      replace hl := hl.mono hg; replace hproposed := hproposed.mono hg; replace hs22 := hs22.mono hg; replace hs24 := hs24.mono hg; replace hr61 := hr61.mono hg
      replace hsil := hsil.mono hg
      have hok67 : SlOk ((sayI sb 1 x56).1) := (SlOk.say hokb)
      replace hC : Cx w0 G0 G w ⟨[], (O65 ++ (O21 ++ []))⟩ := hC
      replace hB : Bxs G w w0.heap.size [] ⟨[], (O65 ++ (O21 ++ []))⟩ := hB
      refine wlVal (opNeq rfl rfl) rfl ?_
      refine wlThen ?_
      cases h68 : (((sayI sb 1 x56).2)) != 0
      · skip
        refine wcCondF rfl ?_
        refine wcSkip ?_
        refine wcOf ?_
        refine wcRegion ?_
        refine wlVal (opMove rfl) rfl ?_
        refine wlVal (opSub rfl rfl) rfl ?_
        refine wlVal (opAssign rfl) rfl ?_
        refine wlRound ?_
        replace hC := hC.permH (List.perm_append_comm_assoc O65 O21 [])
        replace hB := hB.permH (List.perm_append_comm_assoc O65 O21 [])
        replace hC : Cx w0 G0 G w ⟨[], (O21 ++ (O65 ++ []))⟩ := hC
        replace hB : Bxs G w w0.heap.size [] ⟨[], (O21 ++ (O65 ++ []))⟩ := hB
        exact (IH1 (IntKind.wrap .i64 (((mm : Nat) : Int) - 1), mm, O65, (sayI sb 1 x56).1) _ _ ⟨hC, hB, hl, hproposed, hs22, hs24, hsil, hs66, (by rw [IntWalk.i64_in _ (by omega)]), (Nat.le_of_succ_le hm), (by rw [drop_get hx57]; exact oj_say (.inl rfl) hBo (hJ.ok _ (List.mem_of_getElem? hx57)).view (bne_eq_false_iff_eq.1 h68) false), hok67⟩ (Nat.lt_succ_self _)).sub (fun _ ha => ((((ha.start.cons ha (t := 5) rfl).cons ha (t := 6) rfl).cons ha (t := 7) rfl).cons ha (t := 10) rfl))
      · skip
        exact absurd h68 (by rw [oj_again (oj_ps (.inl rfl) hJ (l := proposed)) hBo (fun y hy => List.mem_of_mem_drop hy) (List.mem_of_getElem? hx57)]; decide)
  · skip
    refine wlOn rfl rfl ?_
    refine wlVal (opMove rfl) rfl ?_
    refine wlOn rfl rfl ?_
    refine wlVal (opLssN (b := 60) rfl rfl) rfl ?_
    refine wlVal (opPickT rfl rfl) rfl ?_
    refine wlThen ?_
    cases h69 : decide (k < 60)
    · skip
      refine wcCondF rfl ?_
      refine wcExit ?_
      refine wcOf ?_
      refine wcSeq ?_
      refine wcRegion ?_
      refine wlVal (opMove rfl) rfl ?_
      refine wlVal (opMove rfl) rfl ?_
      refine wlCallC (O := O11) (B := (Oa ++ [])) hC hB rfl co10 rfl rfl (proposes_ret _ _ hC.holds b12 O11 ((newSl (crewI 1) 0)) hC.chunkHeld hC.chunkNd hs13 0 _ proposed hproposed hsil hok14) ?_; rintro v70 G O71 w hg hC hB ⟨hs72, rfl⟩
      replace hl := hl.mono hg; replace hproposed := hproposed.mono hg; replace hOfit := hOfit.mono hg; replace hKsa := hKsa.mono hg
      replace hsil := hsil.mono hg
      have hok73 : SlOk ((psN ((newSl (crewI 1) 0)) 0 proposed 8)) := (SlOk.ps hok14 _)
      replace hC : Cx w0 G0 G w ⟨[], (O71 ++ (Oa ++ []))⟩ := hC
      replace hB : Bxs G w w0.heap.size ([] ++ (Option.toList fitO ++ [])) ⟨[], (O71 ++ (Oa ++ []))⟩ := hB
      refine wlThen ?_
      refine wcSeq ?_
      refine wcRegion ?_
      refine wlVal (opMove rfl) rfl ?_
      refine wlVal (opMove rfl) rfl ?_
      replace hC := hC.permH (List.perm_append_comm_assoc O71 Oa [])
      replace hB := hB.permH (List.perm_append_comm_assoc O71 Oa [])
      replace hC : Cx w0 G0 G w ⟨[], (Oa ++ (O71 ++ []))⟩ := hC
      replace hB : Bxs G w w0.heap.size ([] ++ (Option.toList fitO ++ [])) ⟨[], (Oa ++ (O71 ++ []))⟩ := hB
      refine wlCallC (O := Oa) (B := (O71 ++ [])) hC hB rfl co10 rfl rfl (proposes_ret _ _ hC.holds b7 Oa sa hC.chunkHeld hC.chunkNd hKsa 0 _ proposed hproposed hsil hoka) ?_; rintro v74 G O75 w hg hC hB ⟨hs76, rfl⟩
      replace hl := hl.mono hg; replace hproposed := hproposed.mono hg; replace hOfit := hOfit.mono hg; replace hs72 := hs72.mono hg
      replace hsil := hsil.mono hg
      have hok77 : SlOk ((psN sa 0 proposed 8)) := (SlOk.ps hoka _)
      replace hC : Cx w0 G0 G w ⟨[], (O75 ++ (O71 ++ []))⟩ := hC
      replace hB : Bxs G w w0.heap.size ([] ++ (Option.toList fitO ++ [])) ⟨[], (O75 ++ (O71 ++ []))⟩ := hB
      refine wlThen ?_
      refine wcSeq ?_
      refine wcSeq ?_
      refine wcRegion ?_
      refine wlVal (opMove rfl) rfl ?_
      refine wlVal (opLen rfl isl22) rfl ?_
      refine wlVal (opSub rfl rfl) rfl ?_
      refine wlVal (opAssign rfl) rfl ?_
      refine wlThen ?_
      refine wcBlock ?_
      obtain ⟨G, hg79, hC, hB, hs78⟩ := Ow.freeze' (bl := []) (r := []) hOfit hC (Nat.le_refl _) hB (Nat.le_trans (Nat.le_trans hfl hk60) (by decide : (60 : Nat) ≤ maxL))
      replace hl := hl.mono hg79; replace hproposed := hproposed.mono hg79; replace hs72 := hs72.mono hg79; replace hs76 := hs76.mono hg79
      replace hsil := hsil.mono hg79
      refine WC.sub (wrInd (ι := Int × Nat × (List (Nat × Obj)) × SlS) (fun i => match i with | (i, m, Ob, sb) => m) (fun i G w => match i with | (i, m, Ob, sb) => Cx w0 G0 G w ⟨[], (O75 ++ (Ob ++ []))⟩ ∧ Bxs G w w0.heap.size [] ⟨[], (O75 ++ (Ob ++ []))⟩ ∧ Sl G (.slice A1 l.length cap2) l ∧ Sl G (.slice A3 proposed.length cap4) proposed ∧ SlO G b7 O75 ((psN sa 0 proposed 8)) ∧ Sl G (.slice fitA fit.length fitC) fit ∧ RowG G 0 0 silence.cells ∧ SlO G b12 Ob sb ∧ i = ((m : Nat) : Int) - 1 ∧ m ≤ fit.length ∧ OJ 1 sb (fit.drop m) (fun j => Wd.mk 0 (pD proposed j)) (fun j => [Stand.mk j (pD proposed j) 0]) ∧ SlOk sb) (fun i => match i with | (i, m, Ob, sb) => ((((Env.nil.put 5 (.pointer (some ⟨b7, 0, none⟩))).put 6 (.pointer (some ⟨b12, 0, none⟩))).put 7 (.slice fitA fit.length fitC)).put 10 (.int .i64 i))) ?_ (IntKind.wrap .i64 (((fit.length : Nat) : Int) - 1), fit.length, O71, (psN ((newSl (crewI 1) 0)) 0 proposed 8)) _ _ ⟨hC, hB, hl, hproposed, hs76, hs78, hsil, hs72, (by rw [IntWalk.i64_in _ (by omega)]), (Nat.le_refl _), (by rw [List.drop_length]; exact oj_ps (.inl rfl) oj_new), hok73⟩) (fun _ ha => ((((ha.start.cons ha (t := 5) rfl).cons ha (t := 6) rfl).cons ha (t := 7) rfl).cons ha (t := 10) rfl))
      rintro ⟨i, m, Ob, sb⟩ G w N1 IH1 ⟨hC, hB, hl, hproposed, hs76, hs78, hsil, hKsb, hi, hm, hBo, hokb⟩
      show WC _ _ _ _ ((((Env.nil.put 5 (.pointer (some ⟨b7, 0, none⟩))).put 6 (.pointer (some ⟨b12, 0, none⟩))).put 7 (.slice fitA fit.length fitC)).put 10 (.int .i64 i)) w
      refine wcSeq ?_
      refine wcSeq ?_
      refine wcRegion ?_
      refine wlVal (opMove rfl) rfl ?_
      refine wlVal (opGeq rfl rfl) rfl ?_
      refine wlThen ?_
      cases h80 : decide (0 ≤ i)
      · skip
        refine wcCondF rfl ?_
        refine wcExit ?_
        refine wcOf ?_
        refine wcSeq ?_
        refine wcSeq ?_
        refine wcRegion ?_
        refine wlVal (opAssign rfl) rfl ?_
        refine wlThen ?_
        refine wcBlock ?_
        refine WC.sub (wrInd (ι := Nat) (fun j => 9 - j) (fun j G w => Cx w0 G0 G w ⟨[], (O75 ++ (Ob ++ []))⟩ ∧ Bxs G w w0.heap.size [] ⟨[], (O75 ++ (Ob ++ []))⟩ ∧ Sl G (.slice A1 l.length cap2) l ∧ Sl G (.slice A3 proposed.length cap4) proposed ∧ SlO G b7 O75 ((psN sa 0 proposed 8)) ∧ Sl G (.slice fitA fit.length fitC) fit ∧ SlO G b12 Ob sb ∧ RowG G 0 0 silence.cells ∧ 1 ≤ j) (fun j => (((Env.nil.put 5 (.pointer (some ⟨b7, 0, none⟩))).put 6 (.pointer (some ⟨b12, 0, none⟩))).put 11 (.int .i64 (((j : Nat) : Int))))) ?_ (1) _ _ ⟨hC, hB, hl, hproposed, hs76, hs78, hKsb, hsil, (Nat.le_refl _)⟩) (fun _ ha => (((ha.start.cons ha (t := 5) rfl).cons ha (t := 6) rfl).cons ha (t := 11) rfl))
        rintro j G w N2 IH2 ⟨hC, hB, hl, hproposed, hs76, hs78, hKsb, hsil, hj1⟩
        show WC _ _ _ _ (((Env.nil.put 5 (.pointer (some ⟨b7, 0, none⟩))).put 6 (.pointer (some ⟨b12, 0, none⟩))).put 11 (.int .i64 (((j : Nat) : Int)))) w
        refine wcSeq ?_
        refine wcSeq ?_
        refine wcRegion ?_
        refine wlVal (opMove rfl) rfl ?_
        refine wlVal (opLssN (b := 9) rfl rfl) rfl ?_
        refine wlThen ?_
        cases h81 : decide (j < 9)
        · skip
          refine wcCondF rfl ?_
          refine wcExit ?_
          refine wcOf ?_
          refine wcSeq ?_
          refine wcRegion ?_
          refine wlVal (opMove rfl) rfl ?_
          refine wlCallO (bl := []) (r := []) hC hB rfl co14 rfl rfl (RetO.lend hC (fun _ _ _ _ ⟨A, cap, e, h⟩ => ⟨A, cap, e, h.any (fun _ _ _ _ h => h)⟩) (fun G_ hg_ hh_ hL_ => p_ret _ _ hh_ b7 O75 ((psN sa 0 proposed 8)) (fun y hy => hL_ y (List.mem_append_left _ hy)) (hs76.mono hg_) (hsil.mono hg_) hok77.low)) ?_; rintro v86 G o84 w hk hC hB ⟨A82, cap83, rfl, hO85⟩
          replace hl := hl.mono hk.gle; replace hproposed := hproposed.mono hk.gle; replace hs76 := hs76.mono hk.gle; replace hs78 := hs78.mono hk.gle; replace hKsb := hKsb.mono hk.gle
          replace hsil := hsil.mono hk.gle
          refine wlVal (opMove rfl) rfl ?_
          refine wlCallO (bl := []) (r := (Option.toList o84 ++ [])) hC hB rfl co14 rfl rfl (RetO.lend hC (fun _ _ _ _ ⟨A, cap, e, h⟩ => ⟨A, cap, e, h.any (fun _ _ _ _ h => h)⟩) (fun G_ hg_ hh_ hL_ => p_ret _ _ hh_ b12 Ob sb (fun y hy => hL_ y (List.mem_append_right _ (List.mem_append_left _ hy))) (hKsb.mono hg_) (hsil.mono hg_) hokb.low)) ?_; rintro v91 G o89 w hk hC hB ⟨A87, cap88, rfl, hO90⟩
          replace hl := hl.mono hk.gle; replace hproposed := hproposed.mono hk.gle; replace hs76 := hs76.mono hk.gle; replace hs78 := hs78.mono hk.gle; replace hKsb := hKsb.mono hk.gle; replace hO85 := hO85.mono hk.gle
          replace hsil := hsil.mono hk.gle
          replace hB := Bxs.swapOwn (bl := []) (A := Option.toList o89) (B := Option.toList o84) (r := []) hB
          replace hB := Bxs.swapOwn (bl := []) (A := Option.toList o84) (B := Option.toList o89) (r := []) hB
          obtain ⟨G, hg93, hC, hB, hs92⟩ := Ow.freeze' (bl := []) (r := (Option.toList o84 ++ [])) hO90 hC (Nat.le_refl _) hB (Nat.le_trans (pI_len _ _ _) (by decide : (8 : Nat) ≤ maxL))
          replace hl := hl.mono hg93; replace hproposed := hproposed.mono hg93; replace hs76 := hs76.mono hg93; replace hs78 := hs78.mono hg93; replace hKsb := hKsb.mono hg93; replace hO85 := hO85.mono hg93
          replace hsil := hsil.mono hg93
          refine wlCallS hC hB rfl co13 rfl rfl (RetS.borrow (bl := []) (r := []) hO85 hC hB (Nat.le_trans (pI_len _ _ _) (by decide : (8 : Nat) ≤ maxL)) (fun G_ hglent hhlent hlent => stands_ret _ _ hhlent _ (((pI ((psN sa 0 proposed 8)).f (((psN sa 0 proposed 8)).low + 1) 8))) hlent _ (((pI sb.f (sb.low + 1) 8))) (hs92.mono hglent))) ?_; intro w hk hC hB
          refine wlVal (opMove rfl) rfl ?_
          cases h94 : (decide ((((pI ((psN sa 0 proposed 8)).f (((psN sa 0 proposed 8)).low + 1) 8))) = (((pI sb.f (sb.low + 1) 8)))))
          · skip
            exact absurd (or_pq (oj_ps (.inl rfl) hJ (l := proposed)) hBo (fun y => by rw [(show m = 0 by have q1 := of_decide_eq_false h80; omega)]; simp)).1 (of_decide_eq_false h94)
          · skip
            refine wlOn rfl rfl ?_
            refine wlVal (opMove rfl) rfl ?_
            refine wlOn rfl rfl ?_
            refine wlCallO (bl := []) (r := (Option.toList o84 ++ [])) hC hB rfl co15 rfl rfl (RetO.lend hC (fun _ _ _ _ ⟨A, cap, e, h⟩ => ⟨A, cap, e, h.any (fun _ _ _ _ h => h)⟩) (fun G_ hg_ hh_ hL_ => q_ret _ _ hh_ b7 O75 ((psN sa 0 proposed 8)) (fun y hy => hL_ y (List.mem_append_left _ hy)) (hs76.mono hg_) hok77.low (fun k t h => Nat.le_trans (hok77.q4 k t h) (by decide)))) ?_; rintro v99 G o97 w hk hC hB ⟨A95, cap96, rfl, hO98⟩
            replace hl := hl.mono hk.gle; replace hproposed := hproposed.mono hk.gle; replace hs76 := hs76.mono hk.gle; replace hs78 := hs78.mono hk.gle; replace hKsb := hKsb.mono hk.gle; replace hO85 := hO85.mono hk.gle; replace hs92 := hs92.mono hk.gle
            replace hsil := hsil.mono hk.gle
            refine wlOn rfl rfl ?_
            refine wlVal (opMove rfl) rfl ?_
            refine wlOn rfl rfl ?_
            refine wlCallO (bl := []) (r := (Option.toList o97 ++ (Option.toList o84 ++ []))) hC hB rfl co15 rfl rfl (RetO.lend hC (fun _ _ _ _ ⟨A, cap, e, h⟩ => ⟨A, cap, e, h.any (fun _ _ _ _ h => h)⟩) (fun G_ hg_ hh_ hL_ => q_ret _ _ hh_ b12 Ob sb (fun y hy => hL_ y (List.mem_append_right _ (List.mem_append_left _ hy))) (hKsb.mono hg_) hokb.low (fun k t h => Nat.le_trans (hokb.q4 k t h) (by decide)))) ?_; rintro v104 G o102 w hk hC hB ⟨A100, cap101, rfl, hO103⟩
            replace hl := hl.mono hk.gle; replace hproposed := hproposed.mono hk.gle; replace hs76 := hs76.mono hk.gle; replace hs78 := hs78.mono hk.gle; replace hKsb := hKsb.mono hk.gle; replace hO85 := hO85.mono hk.gle; replace hs92 := hs92.mono hk.gle; replace hO98 := hO98.mono hk.gle
            replace hsil := hsil.mono hk.gle
            refine wlOn rfl rfl ?_
            replace hB := Bxs.swapOwn (bl := []) (A := Option.toList o102) (B := Option.toList o97) (r := (Option.toList o84 ++ [])) hB
            replace hB := Bxs.swapOwn (bl := []) (A := Option.toList o97) (B := Option.toList o102) (r := (Option.toList o84 ++ [])) hB
            obtain ⟨G, hg106, hC, hB, hs105⟩ := Ow.freeze' (bl := []) (r := (Option.toList o97 ++ (Option.toList o84 ++ []))) hO103 hC (Nat.le_refl _) hB (Nat.le_trans (qI_len _ _ (fun k t h => Nat.le_trans (hokb.q4 k t h) (by decide)) _) (by decide : (8000000 : Nat) ≤ maxL))
            replace hl := hl.mono hg106; replace hproposed := hproposed.mono hg106; replace hs76 := hs76.mono hg106; replace hs78 := hs78.mono hg106; replace hKsb := hKsb.mono hg106; replace hO85 := hO85.mono hg106; replace hs92 := hs92.mono hg106; replace hO98 := hO98.mono hg106
            replace hsil := hsil.mono hg106
            refine wlCallS hC hB rfl co13 rfl rfl (RetS.borrow (bl := []) (r := (Option.toList o84 ++ [])) hO98 hC hB (Nat.le_trans (qI_len _ _ (fun k t h => Nat.le_trans (hok77.q4 k t h) (by decide)) _) (by decide : (8000000 : Nat) ≤ maxL)) (fun G_ hglent hhlent hlent => stands_ret _ _ hhlent _ (((qI ((psN sa 0 proposed 8)).f (((psN sa 0 proposed 8)).low + 1) 8))) hlent _ (((qI sb.f (sb.low + 1) 8))) (hs105.mono hglent))) ?_; intro w hk hC hB
            refine wlVal (opPickT rfl rfl) rfl ?_
            refine wlVal (opMove rfl) rfl ?_
            cases h107 : (decide ((((qI ((psN sa 0 proposed 8)).f (((psN sa 0 proposed 8)).low + 1) 8))) = (((qI sb.f (sb.low + 1) 8)))))
            · skip
              exact absurd (or_pq (oj_ps (.inl rfl) hJ (l := proposed)) hBo (fun y => by rw [(show m = 0 by have q1 := of_decide_eq_false h80; omega)]; simp)).2 (of_decide_eq_false h107)
            · skip
              refine wlOn rfl rfl ?_
              refine wlCallS hC hB rfl co16 rfl rfl (awake_ret _ _ hC.holds hsil) ?_; intro w hk hC hB
              refine wlVal (opPickT rfl rfl) rfl ?_
              refine wlVal (opAssign rfl) rfl ?_
              refine wlThen ?_
              refine wcRet ?_
              exact fun ac_ ha => hQ _ _ _ (results1 ha rfl rfl) ha.df (endS hC hw rfl)
        · skip
          refine wcCondT rfl ?_
          refine wcSkip ?_
          refine wcOf ?_
          refine wcSeq ?_
          refine wcBlock ?_
          refine wcSeq ?_
          refine wcRegion ?_
          refine wlVal (opMove rfl) rfl ?_
          refine wlVal (opMove rfl) rfl ?_
          refine wlCallS hC hB rfl co11 rfl rfl (RetS.lend hC (fun G_ hg_ hh_ hL_ => prepared_ret _ _ hh_ b7 O75 ((psN sa 0 proposed 8)) (fun y hy => hL_ y (List.mem_append_left _ hy)) (hs76.mono hg_) (((j : Nat) : Int)) (hsil.mono hg_))) ?_; intro w hk hC hB
          refine wlVal (opMove rfl) rfl ?_
          refine wlVal (opMove rfl) rfl ?_
          refine wlCallS hC hB rfl co11 rfl rfl (RetS.lend hC (fun G_ hg_ hh_ hL_ => prepared_ret _ _ hh_ b12 Ob sb (fun y hy => hL_ y (List.mem_append_right _ (List.mem_append_left _ hy))) (hKsb.mono hg_) (((j : Nat) : Int)) (hsil.mono hg_))) ?_; intro w hk hC hB
          refine wlVal (opNeBool ub4 rfl rfl) rfl ?_
          refine wlVal (opMove rfl) rfl ?_
          cases h108 : (((preparedI ((psN sa 0 proposed 8)) (((j : Nat) : Int))))) != (((preparedI sb (((j : Nat) : Int)))))
          · skip
            refine wlOn rfl rfl ?_
            refine wlVal (opMove rfl) rfl ?_
            refine wlOn rfl rfl ?_
            refine wlVal (opMove rfl) rfl ?_
            refine wlOn rfl rfl ?_
            refine wlCallS hC hB rfl co12 rfl rfl (RetS.lend hC (fun G_ hg_ hh_ hL_ => committed_ret _ _ hh_ b7 O75 ((psN sa 0 proposed 8)) (fun y hy => hL_ y (List.mem_append_left _ hy)) (hs76.mono hg_) (((j : Nat) : Int)) (hsil.mono hg_))) ?_; intro w hk hC hB
            refine wlOn rfl rfl ?_
            refine wlVal (opMove rfl) rfl ?_
            refine wlOn rfl rfl ?_
            refine wlVal (opMove rfl) rfl ?_
            refine wlOn rfl rfl ?_
            refine wlCallS hC hB rfl co12 rfl rfl (RetS.lend hC (fun G_ hg_ hh_ hL_ => committed_ret _ _ hh_ b12 Ob sb (fun y hy => hL_ y (List.mem_append_right _ (List.mem_append_left _ hy))) (hKsb.mono hg_) (((j : Nat) : Int)) (hsil.mono hg_))) ?_; intro w hk hC hB
            refine wlOn rfl rfl ?_
            refine wlVal (opNeBool ub4 rfl rfl) rfl ?_
            refine wlVal (opPickF rfl rfl) rfl ?_
            refine wlThen ?_
            cases h109 : (((committedI ((psN sa 0 proposed 8)) (((j : Nat) : Int))))) != (((committedI sb (((j : Nat) : Int)))))
            · skip
              refine wcCondF rfl ?_
              refine wcSkip ?_
              refine wcOf ?_
              refine wcRegion ?_
              refine wlVal (opMove rfl) rfl ?_
              refine wlVal (opIncr rfl rfl (by have q1 := of_decide_eq_true h81; omega)) rfl ?_
              refine wlVal (opAssign rfl) rfl ?_
              refine wlRound ?_
              exact (IH2 (j + 1) _ _ ⟨hC, hB, hl, hproposed, hs76, hs78, hKsb, hsil, (by omega)⟩ (by have := of_decide_eq_true h81; show 9 - (j + 1) < 9 - j; omega)).sub (fun _ ha => (((ha.start.cons ha (t := 5) rfl).cons ha (t := 6) rfl).cons ha (t := 11) rfl))
            · skip
              exact absurd h109 (by rw [(or_prep (oj_ps (.inl rfl) hJ (l := proposed)) hBo (fun y => by rw [(show m = 0 by have q1 := of_decide_eq_false h80; omega)]; simp) (j := ((j : Nat) : Int)) (by omega) (by have q1 := of_decide_eq_true h81; omega)).2]; simp)
          · skip
            exact absurd h108 (by rw [(or_prep (oj_ps (.inl rfl) hJ (l := proposed)) hBo (fun y => by rw [(show m = 0 by have q1 := of_decide_eq_false h80; omega)]; simp) (j := ((j : Nat) : Int)) (by omega) (by have q1 := of_decide_eq_true h81; omega)).1]; simp)
      · skip
        obtain ⟨mm, rfl⟩ : ∃ m', m = m' + 1 := ⟨m - 1, by have q1 := of_decide_eq_true h80; omega⟩
        have hi2 : i = ((mm : Nat) : Int) := by omega
        subst hi2
        refine wcCondT rfl ?_
        refine wcSkip ?_
        refine wcOf ?_
        refine wcSeq ?_
        refine wcBlock ?_
        refine wcSeq ?_
        refine wcRegion ?_
        refine wlVal (opMove rfl) rfl ?_
        refine wlVal (opMove rfl) rfl ?_
        refine wlVal (opMove rfl) rfl ?_
        obtain ⟨x110, hx111⟩ : ∃ y_, fit[mm]? = some y_ := ⟨_, List.getElem?_eq_getElem (Nat.lt_of_succ_le hm)⟩
        obtain ⟨b112, o113, row114, hA117, hr115, hi116⟩ := hs78.elem hx111; subst hA117
        obtain rfl := hi116
        refine wlVal (opIndexAddr rfl rfl slo22 (Nat.lt_of_succ_le hm)) rfl ?_
        refine wlVal (opLoadRow (cs := x110.cells) rfl (RowG.range hC.holds hr115) row27 rfl) rfl ?_
        replace hC := hC.permH (List.perm_append_comm_assoc O75 Ob [])
        replace hB := hB.permH (List.perm_append_comm_assoc O75 Ob [])
        replace hC : Cx w0 G0 G w ⟨[], (Ob ++ (O75 ++ []))⟩ := hC
        replace hB : Bxs G w w0.heap.size [] ⟨[], (Ob ++ (O75 ++ []))⟩ := hB
        refine wlCallC (O := Ob) (B := (O75 ++ [])) hC hB rfl co9 rfl rfl (says_ret _ _ hC.holds b12 Ob sb hC.chunkHeld hC.chunkNd hKsb 1 x110 hsil hokb) ?_; rintro v118 G O119 w hg hC hB ⟨hs120, rfl⟩
        replace hl := hl.mono hg; replace hproposed := hproposed.mono hg; replace hs76 := hs76.mono hg; replace hs78 := hs78.mono hg; replace hr115 := hr115.mono hg
        replace hsil := hsil.mono hg
        have hok121 : SlOk ((sayI sb 1 x110).1) := (SlOk.say hokb)
        replace hC : Cx w0 G0 G w ⟨[], (O119 ++ (O75 ++ []))⟩ := hC
        replace hB : Bxs G w w0.heap.size [] ⟨[], (O119 ++ (O75 ++ []))⟩ := hB
        refine wlVal (opNeq rfl rfl) rfl ?_
        refine wlThen ?_
        cases h122 : (((sayI sb 1 x110).2)) != 0
        · skip
          refine wcCondF rfl ?_
          refine wcSkip ?_
          refine wcOf ?_
          refine wcRegion ?_
          refine wlVal (opMove rfl) rfl ?_
          refine wlVal (opSub rfl rfl) rfl ?_
          refine wlVal (opAssign rfl) rfl ?_
          refine wlRound ?_
          replace hC := hC.permH (List.perm_append_comm_assoc O119 O75 [])
          replace hB := hB.permH (List.perm_append_comm_assoc O119 O75 [])
          replace hC : Cx w0 G0 G w ⟨[], (O75 ++ (O119 ++ []))⟩ := hC
          replace hB : Bxs G w w0.heap.size [] ⟨[], (O75 ++ (O119 ++ []))⟩ := hB
          exact (IH1 (IntKind.wrap .i64 (((mm : Nat) : Int) - 1), mm, O119, (sayI sb 1 x110).1) _ _ ⟨hC, hB, hl, hproposed, hs76, hs78, hsil, hs120, (by rw [IntWalk.i64_in _ (by omega)]), (Nat.le_of_succ_le hm), (by rw [drop_get hx111]; exact oj_say (.inl rfl) hBo (hJ.ok _ (List.mem_of_getElem? hx111)).view (bne_eq_false_iff_eq.1 h122) false), hok121⟩ (Nat.lt_succ_self _)).sub (fun _ ha => ((((ha.start.cons ha (t := 5) rfl).cons ha (t := 6) rfl).cons ha (t := 7) rfl).cons ha (t := 10) rfl))
        · skip
          exact absurd h122 (by rw [oj_again (oj_ps (.inl rfl) hJ (l := proposed)) hBo (fun y hy => List.mem_of_mem_drop hy) (List.mem_of_getElem? hx111)]; decide)
    · skip
      refine wcCondT rfl ?_
      refine wcSkip ?_
      refine wcOf ?_
      refine wcSeq ?_
      refine wcBlock ?_
      refine wcSeq ?_
      refine wcRegion ?_
      refine wlVal (opMove rfl) rfl ?_
      refine wlVal (opMove rfl) rfl ?_
      obtain ⟨x123, hx124⟩ : ∃ y_, l[k]? = some y_ := ⟨_, List.getElem?_eq_getElem (of_decide_eq_true h15)⟩
      obtain ⟨b125, o126, row127, hA130, hr128, hi129⟩ := hl.elem hx124; subst hA130
      obtain rfl := hi129
      refine wlVal (opIndexAddr rfl rfl slo22 (of_decide_eq_true h15)) rfl ?_
      refine wlVal (opLoadRow (cs := x123.cells) rfl (RowG.range hC.holds hr128) row27 rfl) rfl ?_
      refine wlAlloc hC hB zero27 rfl ?_; intro b131 w hk hC hB
      replace hB : Bxs G w w0.heap.size ([(b131, 27, [(.int .i64 0), (.int .i64 0), (.int .i64 0), (.bool false), (.int .u8 0)])] ++ (Option.toList fitO ++ [])) ⟨[], (O11 ++ (Oa ++ []))⟩ := hB
      refine wlStore 0 (vs := x123.cells) (cs := [(.int .i64 0), (.int .i64 0), (.int .i64 0), (.bool false), (.int .u8 0)]) (cs' := x123.cells) hC hB rfl rfl rfl sz27 rfl rfl rfl (by simp [Word.cells, Stand.cells, Wd.cells, Mark.cells]) rfl rfl ?_; intro w hC hB
      replace hB : Bxs G w w0.heap.size ([(b131, 27, x123.cells)] ++ (Option.toList fitO ++ [])) ⟨[], (O11 ++ (Oa ++ []))⟩ := hB
      refine wlThen ?_
      refine wcSeq ?_
      refine wcRegion ?_
      refine wlVal (opFieldAddr rfl fo27_1) rfl ?_
      refine wlStore 0 (vs := [(.int .i64 0)]) (cs := x123.cells) (cs' := [(.int .i64 x123.node), (.int .i64 0), (.int .i64 x123.seq), (.bool x123.commits), (.int .u8 (((x123.b).toNat : Int)))]) hC hB rfl rfl rfl sz3 rfl rfl rfl (by simp [Word.cells, Stand.cells, Wd.cells, Mark.cells]) rfl rfl ?_; intro w hC hB
      replace hB : Bxs G w w0.heap.size ([(b131, 27, [(.int .i64 x123.node), (.int .i64 0), (.int .i64 x123.seq), (.bool x123.commits), (.int .u8 (((x123.b).toNat : Int)))])] ++ (Option.toList fitO ++ [])) ⟨[], (O11 ++ (Oa ++ []))⟩ := hB
      refine wlThen ?_
      refine wcSeq ?_
      refine wcRegion ?_
      refine wlVal (opMove rfl) rfl ?_
      refine wlVal (opLoadRow (cs := [(.int .i64 x123.node), (.int .i64 0), (.int .i64 x123.seq), (.bool x123.commits), (.int .u8 (((x123.b).toNat : Int)))]) rfl (hB.range (i := 0) (m := 5) rfl rfl) row27 rfl) rfl ?_
      replace hC := hC.permH (List.perm_append_comm_assoc O11 Oa [])
      replace hB := hB.permH (List.perm_append_comm_assoc O11 Oa [])
      replace hC : Cx w0 G0 G w ⟨[], (Oa ++ (O11 ++ []))⟩ := hC
      replace hB : Bxs G w w0.heap.size ([(b131, 27, [(.int .i64 x123.node), (.int .i64 0), (.int .i64 x123.seq), (.bool x123.commits), (.int .u8 (((x123.b).toNat : Int)))])] ++ (Option.toList fitO ++ [])) ⟨[], (Oa ++ (O11 ++ []))⟩ := hB
      refine wlCallC (O := Oa) (B := (O11 ++ [])) hC hB rfl co9 rfl rfl (says_ret _ _ hC.holds b7 Oa sa hC.chunkHeld hC.chunkNd hKsa 1 ((Word.mk x123.node 0 x123.seq x123.commits x123.b)) hsil hoka) ?_; rintro v132 G O133 w hg hC hB ⟨hs134, rfl⟩
      replace hl := hl.mono hg; replace hproposed := hproposed.mono hg; replace hs13 := hs13.mono hg; replace hOfit := hOfit.mono hg; replace hr128 := hr128.mono hg
      replace hsil := hsil.mono hg
      have hok135 : SlOk ((sayI sa 1 ((Word.mk x123.node 0 x123.seq x123.commits x123.b))).1) := (SlOk.say hoka)
      replace hC : Cx w0 G0 G w ⟨[], (O133 ++ (O11 ++ []))⟩ := hC
      replace hB : Bxs G w w0.heap.size ([(b131, 27, [(.int .i64 x123.node), (.int .i64 0), (.int .i64 x123.seq), (.bool x123.commits), (.int .u8 (((x123.b).toNat : Int)))])] ++ (Option.toList fitO ++ [])) ⟨[], (O133 ++ (O11 ++ []))⟩ := hB
      refine wlVal (opEql rfl rfl) rfl ?_
      refine wlThen ?_
      cases h136 : (((sayI sa 1 ((Word.mk x123.node 0 x123.seq x123.commits x123.b))).2)) == 0
      · skip
        refine wcCondF rfl ?_
        refine wcSkip ?_
        refine wcOf ?_
        refine wcRegion ?_
        refine wlVal (opMove rfl) rfl ?_
        refine wlVal (opIncr rfl rfl (incr_ok (of_decide_eq_true h15) hl.le)) rfl ?_
        refine wlVal (opAssign rfl) rfl ?_
        refine wlRound ?_
        replace hC := hC.permH (List.perm_append_comm_assoc O133 O11 [])
        replace hB := hB.permH (List.perm_append_comm_assoc O133 O11 [])
        replace hC : Cx w0 G0 G w ⟨[], (O11 ++ (O133 ++ []))⟩ := hC
        replace hB : Bxs G w w0.heap.size ([(b131, 27, [(.int .i64 x123.node), (.int .i64 0), (.int .i64 x123.seq), (.bool x123.commits), (.int .u8 (((x123.b).toNat : Int)))])] ++ (Option.toList fitO ++ [])) ⟨[], (O11 ++ (O133 ++ []))⟩ := hB
        exact (IH0 (k + 1, fitA, fitC, fitO, fit, O133, (sayI sa 1 ((Word.mk x123.node 0 x123.seq x123.commits x123.b))).1) _ _ ⟨hC, hB.tail, hl, hproposed, hs13, hOfit, hsil, hs134, (oj_no hJ (by intro q1; have q2 := h136; rw [q1] at q2; cases q2)), (by (try simp only [List.length_append, List.length_cons, List.length_nil]); omega), (of_decide_eq_true h69), hok135⟩ (by have := of_decide_eq_true h15; show l.length - (k + 1) < l.length - k; omega)).sub (fun _ ha => ((((((ha.start.cons ha (t := 0) rfl).cons ha (t := 1) rfl).cons ha (t := 5) rfl).cons ha (t := 6) rfl).cons ha (t := 7) rfl).cons ha (t := 8) rfl))
      · skip
        refine wcCondT rfl ?_
        refine wcRegion ?_
        refine wlVal (opMove rfl) rfl ?_
        refine wlVal (opLoadRow (cs := [(.int .i64 x123.node), (.int .i64 0), (.int .i64 x123.seq), (.bool x123.commits), (.int .u8 (((x123.b).toNat : Int)))]) rfl (hB.range (i := 0) (m := 5) rfl rfl) row27 rfl) rfl ?_
        refine wlBuildSlice (α := Word) (ps := [(0, .tmp 34)]) (xs := [(Word.mk x123.node 0 x123.seq x123.commits x123.b)]) (rows := [[(.int .i64 x123.node), (.int .i64 0), (.int .i64 x123.seq), (.bool x123.commits), (.int .u8 (((x123.b).toNat : Int)))]]) elo22 rfl rfl hC hB rfl rfl rfl ⟨rfl, trivial⟩ rfl ?_; intro b137 G w hk hC hB hs138
        replace hl := hl.mono hk.gle; replace hproposed := hproposed.mono hk.gle; replace hs13 := hs13.mono hk.gle; replace hOfit := hOfit.mono hk.gle; replace hr128 := hr128.mono hk.gle; replace hs134 := hs134.mono hk.gle
        replace hsil := hsil.mono hk.gle
        refine wlAppend (α := Word) (bl := [(b131, 27, [(.int .i64 x123.node), (.int .i64 0), (.int .i64 x123.seq), (.bool x123.commits), (.int .u8 (((x123.b).toNat : Int)))])]) (o := fitO) (r := []) elo22 hC hB rfl rfl hOfit hs138 (by simp; omega) rfl rfl ?_; intro A139 cap140 o141 w hC hB hO142
        refine wlVal (opAssign rfl) rfl ?_
        refine wlNil ?_
        refine wcOf ?_
        refine wcRegion ?_
        refine wlVal (opMove rfl) rfl ?_
        refine wlVal (opIncr rfl rfl (incr_ok (of_decide_eq_true h15) hl.le)) rfl ?_
        refine wlVal (opAssign rfl) rfl ?_
        refine wlRound ?_
        replace hC := hC.permH (List.perm_append_comm_assoc O133 O11 [])
        replace hB := hB.permH (List.perm_append_comm_assoc O133 O11 [])
        replace hC : Cx w0 G0 G w ⟨[], (O11 ++ (O133 ++ []))⟩ := hC
        replace hB : Bxs G w w0.heap.size ([(b131, 27, [(.int .i64 x123.node), (.int .i64 0), (.int .i64 x123.seq), (.bool x123.commits), (.int .u8 (((x123.b).toNat : Int)))])] ++ (Option.toList o141 ++ [])) ⟨[], (O11 ++ (O133 ++ []))⟩ := hB
        exact (IH0 (k + 1, A139, cap140, o141, (fit ++ [(Word.mk x123.node 0 x123.seq x123.commits x123.b)]), O133, (sayI sa 1 ((Word.mk x123.node 0 x123.seq x123.commits x123.b))).1) _ _ ⟨hC, hB.tail, hl, hproposed, hs13, hO142, hsil, hs134, (oj_say (.inl rfl) hJ rfl (eq_of_beq h136) true), (by (try simp only [List.length_append, List.length_cons, List.length_nil]); omega), (of_decide_eq_true h69), hok135⟩ (by have := of_decide_eq_true h15; show l.length - (k + 1) < l.length - k; omega)).sub (fun _ ha => ((((((ha.start.cons ha (t := 0) rfl).cons ha (t := 1) rfl).cons ha (t := 5) rfl).cons ha (t := 6) rfl).cons ha (t := 7) rfl).cons ha (t := 8) rfl))

end Go.Proofs.YtljcgggflgbenaaDoor
