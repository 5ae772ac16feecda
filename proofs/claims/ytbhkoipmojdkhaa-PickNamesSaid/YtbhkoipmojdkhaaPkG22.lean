/- What functions of the pick seat return, part 22. No condition. -/
import Derived.Test.YtbhkoipmojdkhaaPkG21
set_option linter.all false
namespace Go.Proofs.Ytbhkoipmojdkhaa
open Go Go.Gx Go.RowKit
theorem pickGo_len (co : Council) (lo : Mark) : ∀ (f : Nat) (n : Int) (out : List Mark) (m : Nat), (pickGo co lo f n out m).2.1.length ≤ out.length + f
  | 0, n, out, m => by simp [pickGo]; omega
  | f + 1, n, out, m => by
    simp only [pickGo]
    cases (atI co n).2 with
    | false => simp
    | true =>
      have := pickGo_len co lo f (n + 1) (out ++ [(atI co n).1]) (bif decide ((atI co n).1.dig = Dig.zero) then m else out.length + 1)
      simp at this ⊢; omega
theorem selI_len (p : Int → Bool) (c : Crew) (l : List Change) : (selI p c l).2.1.length ≤ 8 := by
  unfold selI
  cases (check c != 0) <;> cases (badB p [] l) <;> cases (decide (((l.length : Nat) : Int) < most c) || !(lowI (Council.mk (most c) (some_ c) l)).2) <;> simp
  exact pickGo_len _ _ 8 _ [] 0
def picksI (l : List Change) (lo : Mark) (want : List Mark) : Bool :=
  ((selI (has (crewI 1)) (crewI 1) l).2.2 == 0) && (decide ((selI (has (crewI 1)) (crewI 1) l).1 = lo) && decide ((selI (has (crewI 1)) (crewI 1) l).2.1 = want))
def failsI (l : List Change) : Bool := (selI (has (crewI 1)) (crewI 1) l).2.2 == 210
theorem co19 : callOk Try.prog 19 = true := by kernel_rfl
theorem co10 : callOk Try.prog 10 = true := by kernel_rfl
theorem crewOf_ret (G0 : Gh) (w0 : World) (hw : Holds G0 w0) (f : Int) (hf : f = 1 ∨ f = 2) :
    RetG Try.prog 19 #[.int .i64 f] G0 w0 (fun G v => ∃ c0, v = (.agg c0.toArray) ∧ Rp.Is G c0 ((crewI f))) := by
  rcases hf with rfl | rfl
  · exact crewOf1_ret G0 w0 hw
  · exact crewOf2_ret G0 w0 hw

theorem picks_ret (G0 : Gh) (w0 : World) (hw : Holds G0 w0) (vl : Value) (l : List Change) (hl : Sl G0 vl l) (lo : Mark) (vwant : Value) (want : List Mark) (hwant : Sl G0 vwant want) (hsm : (l.flatMap (·.marks)).length ≤ 1000000) (hsp : (l.flatMap (·.p)).length ≤ 1000000) :
  RetS Try.prog 22 #[vl, .agg lo.cells.toArray, vwant] G0 w0 (.bool (picksI l lo want)) := by
 have hC := Cx.refl hw
 have hB : Bxs G0 w0 w0.heap.size [] := Bxs.nil _ _ _
 obtain ⟨A1, cap2, rfl⟩ := hl.form
 obtain ⟨A3, cap4, rfl⟩ := hwant.form
 refine callsOf Try.func22 rfl _ Try.ntmps22 rfl _ (argsCons (argsCons (argsCons argsNil (t := 0) rfl) (t := 1) rfl) (t := 2) rfl) ?_; intro Q0 hQ
 refine wcSeq (wcRegion ?_)
 refine wlBox (cs := lo.cells) hC hB rfl rfl rfl ?_; intro b5 w hk hC hB
 refine wlVal (opAssign rfl) rfl ?_
 refine wlThen (wcSeq (wcRegion ?_))
 refine wlCallG hC hB rfl co19 rfl rfl (crewOf1_ret _ _ hC.holds ) ?_; rintro v8 G w hk hC hB ⟨r6, rfl, hr7⟩
 replace hl := hl.mono hk.gle; replace hwant := hwant.mono hk.gle
 obtain ⟨v9, rfl, hs10⟩ := Crew.opIs hr7
 obtain ⟨A11, cap12, rfl⟩ := hs10.form
 refine wlVal (opMove rfl) rfl ?_
 refine wlCallO (bl := [(b5, 30, lo.cells)]) (r := []) hC hB rfl co10 rfl rfl (select_ret _ _ hC.holds _ (((crewI 1))) (Crew.mkIs (x := ((crewI 1))) hs10) _ l hl hsm hsp) ?_; rintro v17 G o15 w hk hC hB ⟨A13, cap14, rfl, hO16⟩
 replace hwant := hwant.mono hk.gle
 refine wlVal (opMove rfl) rfl ?_
 refine wlVal (opExtract rfl rfl) rfl ?_
 refine wlVal (opExtract rfl rfl) rfl ?_
 refine wlVal (opExtract rfl rfl) rfl ?_
 refine wlAlloc hC hB zero30 rfl ?_; intro b18 w hk hC hB
 replace hB : Bxs G w w0.heap.size ([(b18, 30, ((.int .i64 0) :: (Dig.zero.cells ++ []))), (b5, 30, lo.cells)] ++ (Option.toList o15 ++ [])) := hB
 refine wlStore 0 (vs := (((selI (has (((crewI 1)))) (((crewI 1))) l).1)).cells) (cs := ((.int .i64 0) :: (Dig.zero.cells ++ []))) (cs' := (((selI (has (((crewI 1)))) (((crewI 1))) l).1)).cells) hC hB rfl rfl rfl sz30 rfl (by simp [Mark.cells, Stand.cells]) (by simp [Mark.cells, Stand.cells, Value.oneCell']) (by simp [Mark.cells, Stand.cells]) (by simp [Mark.cells, Stand.cells]) rfl ?_; intro w hC hB
 replace hB : Bxs G w w0.heap.size ([(b18, 30, (((selI (has (((crewI 1)))) (((crewI 1))) l).1)).cells), (b5, 30, lo.cells)] ++ (Option.toList o15 ++ [])) := hB
 refine wlVal (opAssign rfl) rfl ?_
 refine wlVal (opAssign rfl) rfl ?_
 refine wlThen (wcSeq (wcRegion ?_))
 refine wlVal (opMove rfl) rfl ?_
 refine wlVal (opEql rfl rfl) rfl ?_
 refine wlVal (opMove rfl) rfl ?_
 cases h19 : (((selI (has (((crewI 1)))) (((crewI 1))) l).2.2)) == 0
 ·
  skip
  refine wlOff rfl rfl rfl rfl ?_
  refine wlOff rfl rfl rfl rfl ?_
  refine wlOff rfl rfl rfl rfl ?_
  refine wlVal (opPickF rfl rfl) rfl ?_
  refine wlVal (opMove rfl) rfl ?_
  refine wlOff rfl rfl rfl rfl ?_
  refine wlOff rfl rfl rfl rfl ?_
  refine wlOff rfl rfl rfl rfl ?_
  refine wlVal (opPickF rfl rfl) rfl ?_
  refine wlVal (opAssign rfl) rfl ?_
  refine wlThen ?_
  refine wcRet ?_
  exact fun ac_ ha => hQ _ _ _ (results1 ha rfl rfl) ha.df (endS hC hw (by simp [picksI, h19]))
 ·
  skip
  refine wlOn rfl rfl ?_
  refine wlVal (opLoadRow (cs := (((selI (has (((crewI 1)))) (((crewI 1))) l).1)).cells) rfl (hB.range (i := 0) (m := 33) rfl (by simp [Mark.cells, Stand.cells])) row30 (by simp [Mark.cells, Stand.cells])) rfl ?_
  refine wlOn rfl rfl ?_
  refine wlVal (opLoadRow (cs := lo.cells) rfl (hB.range (i := 1) (m := 33) rfl (by simp [Mark.cells, Stand.cells])) row30 (by simp [Mark.cells, Stand.cells])) rfl ?_
  refine wlOn rfl rfl ?_
  refine wlVal (opEqRow (eq30 _ (((selI (has (((crewI 1)))) (((crewI 1))) l).1)) lo) eg30 rfl rfl) rfl ?_
  refine wlVal (opPickT rfl rfl) rfl ?_
  refine wlVal (opMove rfl) rfl ?_
  cases h20 : decide (((selI (has (((crewI 1)))) (((crewI 1))) l).1) = lo)
  ·
   skip
   refine wlOff rfl rfl rfl rfl ?_
   refine wlOff rfl rfl rfl rfl ?_
   refine wlOff rfl rfl rfl rfl ?_
   refine wlVal (opPickF rfl rfl) rfl ?_
   refine wlVal (opAssign rfl) rfl ?_
   refine wlThen ?_
   refine wcRet ?_
   exact fun ac_ ha => hQ _ _ _ (results1 ha rfl rfl) ha.df (endS hC hw (by simp [picksI, h19, h20]))
  ·
   skip
   refine wlOn rfl rfl ?_
   refine wlVal (opMove rfl) rfl ?_
   refine wlOn rfl rfl ?_
   refine wlVal (opMove rfl) rfl ?_
   refine wlOn rfl rfl ?_
   obtain ⟨G, hg22, hC, hB, hs21⟩ := Ow.freeze' (bl := [(b18, 30, (((selI (has (((crewI 1)))) (((crewI 1))) l).1)).cells), (b5, 30, lo.cells)]) (r := []) hO16 hC (Nat.le_refl _) hB (Nat.le_trans (selI_len _ _ _) (by decide))
   replace hwant := hwant.mono hg22
   refine wlCallS hC hB rfl co12 rfl rfl (rsame_ret _ _ hC.holds _ (((selI (has (((crewI 1)))) (((crewI 1))) l).2.1)) hs21 _ want hwant) ?_; intro w hk hC hB
   refine wlVal (opPickT rfl rfl) rfl ?_
   refine wlVal (opAssign rfl) rfl ?_
   refine wlThen ?_
   refine wcRet ?_
   exact fun ac_ ha => hQ _ _ _ (results1 ha rfl rfl) ha.df (endS hC hw (by simp [picksI, h19, h20]))

theorem fails_ret (G0 : Gh) (w0 : World) (hw : Holds G0 w0) (vl : Value) (l : List Change) (hl : Sl G0 vl l) (hsm : (l.flatMap (·.marks)).length ≤ 1000000) (hsp : (l.flatMap (·.p)).length ≤ 1000000) :
  RetS Try.prog 34 #[vl] G0 w0 (.bool (failsI l)) := by
 have hC := Cx.refl hw
 have hB : Bxs G0 w0 w0.heap.size [] := Bxs.nil _ _ _
 obtain ⟨A1, cap2, rfl⟩ := hl.form
 refine callsOf Try.func34 rfl _ Try.ntmps34 rfl _ (argsCons argsNil (t := 0) rfl) ?_; intro Q0 hQ
 refine wcSeq (wcRegion ?_)
 refine wlVal (opAssign rfl) rfl ?_
 refine wlThen (wcSeq (wcRegion ?_))
 refine wlCallG hC hB rfl co19 rfl rfl (crewOf1_ret _ _ hC.holds ) ?_; rintro v5 G w hk hC hB ⟨r3, rfl, hr4⟩
 replace hl := hl.mono hk.gle
 obtain ⟨v6, rfl, hs7⟩ := Crew.opIs hr4
 obtain ⟨A8, cap9, rfl⟩ := hs7.form
 refine wlVal (opMove rfl) rfl ?_
 refine wlCallO (bl := []) (r := []) hC hB rfl co10 rfl rfl (select_ret _ _ hC.holds _ (((crewI 1))) (Crew.mkIs (x := ((crewI 1))) hs7) _ l hl hsm hsp) ?_; rintro v14 G o12 w hk hC hB ⟨A10, cap11, rfl, hO13⟩
 refine wlVal (opMove rfl) rfl ?_
 refine wlVal (opExtract rfl rfl) rfl ?_
 refine wlVal (opExtract rfl rfl) rfl ?_
 refine wlVal (opExtract rfl rfl) rfl ?_
 refine wlAlloc hC hB zero30 rfl ?_; intro b15 w hk hC hB
 replace hB : Bxs G w w0.heap.size ([(b15, 30, ((.int .i64 0) :: (Dig.zero.cells ++ [])))] ++ (Option.toList o12 ++ [])) := hB
 refine wlStore 0 (vs := (((selI (has (((crewI 1)))) (((crewI 1))) l).1)).cells) (cs := ((.int .i64 0) :: (Dig.zero.cells ++ []))) (cs' := (((selI (has (((crewI 1)))) (((crewI 1))) l).1)).cells) hC hB rfl rfl rfl sz30 rfl (by simp [Mark.cells, Stand.cells]) (by simp [Mark.cells, Stand.cells, Value.oneCell']) (by simp [Mark.cells, Stand.cells]) (by simp [Mark.cells, Stand.cells]) rfl ?_; intro w hC hB
 replace hB : Bxs G w w0.heap.size ([(b15, 30, (((selI (has (((crewI 1)))) (((crewI 1))) l).1)).cells)] ++ (Option.toList o12 ++ [])) := hB
 refine wlVal (opAssign rfl) rfl ?_
 refine wlVal (opAssign rfl) rfl ?_
 refine wlThen (wcSeq (wcRegion ?_))
 refine wlVal (opMove rfl) rfl ?_
 refine wlVal (opEql rfl rfl) rfl ?_
 refine wlVal (opAssign rfl) rfl ?_
 refine wlThen ?_
 refine wcRet ?_
 exact fun ac_ ha => hQ _ _ _ (results1 ha rfl rfl) ha.df (endS hC hw (by simp [failsI, ]))

end Go.Proofs.Ytbhkoipmojdkhaa
