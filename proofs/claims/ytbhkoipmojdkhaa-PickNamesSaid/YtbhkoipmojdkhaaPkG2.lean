/- What functions of the pick seat return, part 2. No condition. -/
import Derived.Test.YtbhkoipmojdkhaaPkG1
set_option linter.all false
namespace Go.Proofs.Ytbhkoipmojdkhaa
open Go Go.Gx Go.RowKit
theorem isl31 : isSlice Try.prog 31 = true := by kernel_rfl
theorem row30 : rowOk Try.prog 30 33 = true := by kernel_rfl
theorem slo31 : sliceOk Try.prog 31 30 33 = true := by kernel_rfl
theorem eg30 : Try.prog.eqGuardType Try.prog.depth 30 = false := by kernel_rfl
theorem fa30 : fieldsAre Try.prog 30 [(3, 0), (28, 1)] = true := by kernel_rfl
theorem eg28 : Try.prog.eqGuardType Try.prog.depth 28 = false := by kernel_rfl
theorem co62 : callOk Try.prog 62 = true := by kernel_rfl
theorem isl47 : isSlice Try.prog 47 = true := by kernel_rfl
theorem slo47 : sliceOk Try.prog 47 58 34 = true := by kernel_rfl
theorem row58 : rowOk Try.prog 58 34 = true := by kernel_rfl
theorem co69 : callOk Try.prog 69 = true := by kernel_rfl
theorem fo70_2 : fieldOk Try.prog 70 2 2 = true := by kernel_rfl
theorem one25 : oneOk Try.prog 25 = true := by kernel_rfl
theorem isl25 : isSlice Try.prog 25 = true := by kernel_rfl
theorem slo25 : sliceOk Try.prog 25 49 6 = true := by kernel_rfl
theorem row49 : rowOk Try.prog 49 6 = true := by kernel_rfl
theorem zero49 : (Try.prog.info? 49).bind (fun i => i.zero.map Value.cells) = some ([(.int .i64 0), (.int .i64 0), (.int .i64 0), (.slice none 0 0), (.slice none 0 0), (.slice none 0 0)] : List Value).toArray := by kernel_rfl
theorem sz49 : (Try.prog.info? 49).map (·.size) = some 6 := by kernel_rfl
theorem zero30 : (Try.prog.info? 30).bind (fun i => i.zero.map Value.cells) = some (((.int .i64 0) :: (Dig.zero.cells ++ [])) : List Value).toArray := by kernel_rfl
theorem sz30 : (Try.prog.info? 30).map (·.size) = some 33 := by kernel_rfl
theorem zero58 : (Try.prog.info? 58).bind (fun i => i.zero.map Value.cells) = some (((.int .i64 0) :: (Dig.zero.cells ++ ((.int .i64 0) :: []))) : List Value).toArray := by kernel_rfl
theorem sz58 : (Try.prog.info? 58).map (·.size) = some 34 := by kernel_rfl
theorem eq28 (d : Nat) (x y : Dig) (w : World) : (Op.equalIn (d + 2) 28 (.agg x.cells.toArray) (.agg y.cells.toArray)).run Try.prog w = .ok (decide (x = y)) w := run_equalIn_dig by28 x y w
theorem eq30 (d : Nat) (x y : Mark) (w : World) : (Op.equalIn (d + 4) 30 (.agg x.cells.toArray) (.agg y.cells.toArray)).run Try.prog w = .ok (decide (x = y)) w := by
  have h : decide (x = y) = ((x.seq == y.seq) && (decide (x.dig = y.dig) && true)) := by rw [Bool.eq_iff_iff]; cases x; cases y; simp
  rw [h]; exact run_equalIn_fields fa30 ⟨_, _, _, _, run_part_one one3 (v := .int .i64 x.seq) (by simp [Mark.cells]), run_part_one one3 (v := .int .i64 y.seq) (by simp [Mark.cells]), fun w => run_equalIn_int w _ 3 _ .i64 _ _ ui3, ⟨_, _, _, _, run_part_row' row28 (r := x.dig.cells) (by simp [Mark.cells]), run_part_row' row28 (r := y.dig.cells) (by simp [Mark.cells]), fun w => eq28 _ x.dig y.dig w, rfl, rfl⟩, rfl⟩ w
theorem idxM_ret (G0 : Gh) (w0 : World) (hw : Holds G0 w0) (vl : Value) (l : List Mark) (hl : Sl G0 vl l) (v : Mark) :
  RetS Try.prog 62 #[vl, .agg v.cells.toArray] G0 w0 (.int .i64 (idxG (fun y => decide (v = y)) l 0)) := by
 have hC := Cx.refl hw
 have hB : Bxs G0 w0 w0.heap.size [] := Bxs.nil _ _ _
 obtain ⟨A1, cap2, rfl⟩ := hl.form
 refine callsOf Try.func62 rfl _ Try.ntmps62 rfl _ (argsCons (argsCons argsNil (t := 0) rfl) (t := 1) rfl) ?_; intro Q0 hQ
 refine wcSeq (wcRegion ?_)
 refine wlBox (cs := v.cells) hC hB rfl rfl rfl ?_; intro b3 w hk hC hB
 refine wlVal (opAssign rfl) rfl ?_
 refine wlThen (wcSeq (wcSeq (wcRegion ?_)))
 refine wlVal (opMove rfl) rfl ?_
 refine wlVal (opLen rfl isl31) rfl ?_
 refine wlVal (opMove rfl) rfl ?_
 refine wlThen ?_
 refine wcBlock ?_
 refine WC.sub (wrInd (ι := Nat) (fun k => l.length - k) (fun k G w => Cx w0 G0 G w ∧ Bxs G w w0.heap.size [(b3, 30, v.cells)] ∧ Sl G (.slice A1 l.length cap2) l ∧ idxG (fun y => decide (v = y)) (l.drop k) k = idxG (fun y => decide (v = y)) l 0) (fun k => ((((Env.nil.put 0 (.slice A1 l.length cap2)).put 3 (.pointer (some ⟨b3, 0, none⟩))).put 7 (.int .i64 (((l.length : Nat) : Int)))).put 8 (.int .i64 (((k : Nat) : Int))))) ?_ (0) _ _ ⟨hC, hB, hl, rfl⟩) (fun _ ha => ((((ha.start.cons ha (t := 0) rfl).cons ha (t := 3) rfl).cons ha (t := 7) rfl).cons ha (t := 8) rfl))
 rintro k G w N0 IH0 ⟨hC, hB, hl, hI⟩
 show WC _ _ _ _ ((((Env.nil.put 0 (.slice A1 l.length cap2)).put 3 (.pointer (some ⟨b3, 0, none⟩))).put 7 (.int .i64 (((l.length : Nat) : Int)))).put 8 (.int .i64 (((k : Nat) : Int)))) w
 refine wcSeq (wcRegion ?_)
 refine wlVal (opLssN rfl rfl) rfl ?_
 refine wlThen (wcSeq ?_)
 cases h4 : decide (k < l.length)
 ·
  skip
  refine wcCondF rfl ?_
  refine wcExit ?_
  refine wcOf ?_
  refine wcSeq (wcRegion ?_)
  refine wlVal (opAssign rfl) rfl ?_
  refine wlThen ?_
  refine wcRet ?_
  exact fun ac_ ha => hQ _ _ _ (results1 ha rfl rfl) ha.df (endS hC hw (by have e := hI; rw [List.drop_eq_nil_of_le (Nat.le_of_not_lt (of_decide_eq_false h4))] at e; simp [idxG, h4] at e; first | (simp [h4, e]; done) | (simp [h4, ← e]; done) | (simp [h4]; exact e)))
 ·
  skip
  refine wcCondT rfl ?_
  refine wcSkip ?_
  refine wcOf ?_
  refine wcSeq ?_
  refine wcBlock (wcSeq (wcRegion ?_))
  refine wlVal (opMove rfl) rfl ?_
  refine wlVal (opAssign rfl) rfl ?_
  refine wlThen (wcSeq ?_)
  obtain ⟨x5, hx6⟩ : ∃ y_, l[k]? = some y_ := ⟨_, List.getElem?_eq_getElem (of_decide_eq_true h4)⟩
  obtain ⟨b7, o8, row9, hA12, hr10, hi11⟩ := hl.elem hx6; subst hA12
  obtain rfl := hi11
  refine wcDraw fmix (by kernel_rfl) (by kernel_rfl) (vAt [(fun _ v_ => v_ = (.agg v.cells.toArray)), (fun _ v_ => v_ = (.slice (some ⟨b7, o8, none⟩) l.length cap2)), (fun _ v_ => v_ = (.int .i64 (((k : Nat) : Int)))), (fun _ v_ => v_ = (.pointer (some ⟨b7, o8 + k * 33, none⟩))), (fun _ v_ => v_ = (.agg x5.cells.toArray)), (fun _ v_ => v_ = (.bool (decide (v = x5))))]) (fun _ _ G' w => Cx w0 G0 G' w ∧ Bxs G' w w0.heap.size [(b3, 30, v.cells)] ∧ GLe G G') G (vAt_mono ⟨fun _ _ _ _ h => h, fun _ _ _ _ h => h, fun _ _ _ _ h => h, fun _ _ _ _ h => h, fun _ _ _ _ h => h, fun _ _ _ _ h => h, trivial⟩) (fun _ _ => ⟨hC.drew, hB.drew, fun _ _ h => h⟩) ?_ ?_
  ·
   refine dsNone (j := 1) rfl ?_ ?_
   ·
    intro done G w ac_ hd hp hn ⟨hC, hB, hg⟩ hM
    have f3 : ac_.tmps[3]? = some (.pointer (some ⟨b3, 0, none⟩)) := hM.old0 rfl rfl
    have hF := (hM.fr.add f3)
    exact OpVal.draw hF (opLoadRow (cs := v.cells) rfl (hB.range (i := 0) (m := 33) rfl (by simp [Mark.cells, Stand.cells])) row30 (by simp [Mark.cells, Stand.cells])) ⟨G, fun _ _ h => h, ⟨hC, hB, hg⟩, rfl⟩
   refine dsNone (j := 2) rfl ?_ ?_
   ·
    intro done G w ac_ hd hp hn ⟨hC, hB, hg⟩ hM
    have f0 : ac_.tmps[0]? = some (.slice (some ⟨b7, o8, none⟩) l.length cap2) := hM.old0 rfl rfl
    have hF := (hM.fr.add f0)
    exact OpVal.draw hF (opMove rfl) ⟨G, fun _ _ h => h, ⟨hC, hB, hg⟩, rfl⟩
   refine dsNone (j := 3) rfl ?_ ?_
   ·
    intro done G w ac_ hd hp hn ⟨hC, hB, hg⟩ hM
    have f5 : ac_.tmps[5]? = some (.int .i64 (((k : Nat) : Int))) := hM.old0 rfl rfl
    have hF := (hM.fr.add f5)
    exact OpVal.draw hF (opMove rfl) ⟨G, fun _ _ h => h, ⟨hC, hB, hg⟩, rfl⟩
   refine dsNone (j := 4) rfl ?_ ?_
   ·
    intro done G w ac_ hd hp hn ⟨hC, hB, hg⟩ hM
    have f12 := hM.eqv (s := 12) 1 rfl (hp 1 rfl) rfl rfl
    have f13 := hM.eqv (s := 13) 2 rfl (hp 2 rfl) rfl rfl
    have hF := ((hM.fr.add f12).add f13)
    exact OpVal.draw hF (opIndexAddr rfl rfl slo31 (of_decide_eq_true h4)) ⟨G, fun _ _ h => h, ⟨hC, hB, hg⟩, rfl⟩
   refine dsNone (j := 5) rfl ?_ ?_
   ·
    intro done G w ac_ hd hp hn ⟨hC, hB, hg⟩ hM
    replace hr10 := hr10.mono hg
    have f14 := hM.eqv (s := 14) 3 rfl (hp 3 rfl) rfl rfl
    have hF := (hM.fr.add f14)
    exact OpVal.draw hF (opLoadRow (cs := x5.cells) rfl (RowG.range hC.holds hr10) row30 (by simp [Mark.cells, Stand.cells])) ⟨G, fun _ _ h => h, ⟨hC, hB, hg⟩, rfl⟩
   refine dsNone (j := 6) rfl ?_ ?_
   ·
    intro done G w ac_ hd hp hn ⟨hC, hB, hg⟩ hM
    have f11 := hM.eqv (s := 11) 0 rfl (hp 0 rfl) rfl rfl
    have f15 := hM.eqv (s := 15) 4 rfl (hp 4 rfl) rfl rfl
    have hF := ((hM.fr.add f11).add f15)
    exact OpVal.draw hF (opEqRow (eq30 _ v x5) eg30 rfl rfl) ⟨G, fun _ _ h => h, ⟨hC, hB, hg⟩, rfl⟩
   exact dsNil
  ·
   intro done G w ac_ hall ⟨hC, hB, hg⟩ hM
   replace hl := hl.mono hg
   have f0 : ac_.tmps[0]? = some (.slice (some ⟨b7, o8, none⟩) l.length cap2) := hM.old0 rfl rfl
   have f3 : ac_.tmps[3]? = some (.pointer (some ⟨b3, 0, none⟩)) := hM.old0 rfl rfl
   have f5 : ac_.tmps[5]? = some (.int .i64 (((k : Nat) : Int))) := hM.old0 rfl rfl
   have f7 : ac_.tmps[7]? = some (.int .i64 (((l.length : Nat) : Int))) := hM.old0 rfl rfl
   have f8 : ac_.tmps[8]? = some (.int .i64 (((k : Nat) : Int))) := hM.old0 rfl rfl
   have f16 := hM.eqv (s := 16) 5 rfl (hall 5 (by decide)) rfl rfl
   refine ⟨((((((Env.nil.put 0 (.slice (some ⟨b7, o8, none⟩) l.length cap2)).put 3 (.pointer (some ⟨b3, 0, none⟩))).put 5 (.int .i64 (((k : Nat) : Int)))).put 7 (.int .i64 (((l.length : Nat) : Int)))).put 8 (.int .i64 (((k : Nat) : Int)))).put 16 (.bool (decide (v = x5)))), ((((((hM.fr.add f0).add f3).add f5).add f7).add f8).add f16), ?_⟩
   clear hM hall
   refine wcOf ?_
   cases h13 : decide (v = x5)
   ·
    skip
    refine wcCondF rfl ?_
    refine wcSkip ?_
    refine wcOf ?_
    refine wcRegion ?_
    refine wlVal (opIncr rfl rfl (incr_ok (of_decide_eq_true h4) hl.le)) rfl ?_
    refine wlVal (opMove rfl) rfl ?_
    refine wlRound ?_
    exact (IH0 (k + 1) _ _ ⟨hC, hB, hl, (by rw [← hI, drop_get hx6]; simp [idxG, h4, h13])⟩ (by have := of_decide_eq_true h4; simp; omega)).sub (fun _ ha => ((((ha.start.cons ha (t := 0) rfl).cons ha (t := 3) rfl).cons ha (t := 7) rfl).cons ha (t := 8) rfl))
   ·
    skip
    refine wcCondT rfl ?_
    refine wcSeq (wcRegion ?_)
    refine wlVal (opMove rfl) rfl ?_
    refine wlVal (opAssign rfl) rfl ?_
    refine wlThen ?_
    refine wcRet ?_
    exact fun ac_ ha => hQ _ _ _ (results1 ha rfl rfl) ha.df (endS hC hw (by have e := hI; rw [drop_get hx6] at e; simp [idxG, h4, h13] at e; first | (simp [h4, h13, e]; done) | (simp [h4, h13, ← e]; done) | (simp [h4, h13]; exact e)))

theorem conM_ret (G0 : Gh) (w0 : World) (hw : Holds G0 w0) (vl : Value) (l : List Mark) (hl : Sl G0 vl l) (v : Mark) :
  RetS Try.prog 41 #[vl, .agg v.cells.toArray] G0 w0 (.bool (l.any (fun y => decide (v = y)))) := by
 have hC := Cx.refl hw
 have hB : Bxs G0 w0 w0.heap.size [] := Bxs.nil _ _ _
 obtain ⟨A1, cap2, rfl⟩ := hl.form
 refine callsOf Try.func41 rfl _ Try.ntmps41 rfl _ (argsCons (argsCons argsNil (t := 0) rfl) (t := 1) rfl) ?_; intro Q0 hQ
 refine wcSeq (wcRegion ?_)
 refine wlBox (cs := v.cells) hC hB rfl rfl rfl ?_; intro b3 w hk hC hB
 refine wlVal (opAssign rfl) rfl ?_
 refine wlThen (wcSeq (wcRegion ?_))
 refine wlVal (opMove rfl) rfl ?_
 refine wlVal (opLoadRow (cs := v.cells) rfl (hB.range (i := 0) (m := 33) rfl (by simp [Mark.cells, Stand.cells])) row30 (by simp [Mark.cells, Stand.cells])) rfl ?_
 refine wlCallS hC hB rfl co62 rfl rfl (idxM_ret _ _ hC.holds _ l hl v) ?_; intro w hk hC hB
 refine wlVal (opGeq rfl rfl) rfl ?_
 refine wlVal (opAssign rfl) rfl ?_
 refine wlThen ?_
 refine wcRet ?_
 exact fun ac_ ha => hQ _ _ _ (results1 ha rfl rfl) ha.df (endS hC hw (by rw [idxG_any]))

theorem idxS_ret (G0 : Gh) (w0 : World) (hw : Holds G0 w0) (vl : Value) (l : List Stand) (hl : Sl G0 vl l) (ff : FuncId) (cf : List Value) (pf : Stand → Bool) (kf : callOk Try.prog ff = true) (hf : ∀ (G : Gh) (w : World) (f_x0 : Stand), GLe G0 G → Holds G w → RetS Try.prog ff ([Value.agg f_x0.cells.toArray] ++ cf).toArray G w (.bool (pf f_x0))) :
  RetS Try.prog 69 #[vl, .func (.func ff) #[] cf.toArray] G0 w0 (.int .i64 (idxG pf l 0)) := by
 have hC := Cx.refl hw
 have hB : Bxs G0 w0 w0.heap.size [] := Bxs.nil _ _ _
 obtain ⟨A1, cap2, rfl⟩ := hl.form
 refine callsOf Try.func69 rfl _ Try.ntmps69 rfl _ (argsCons (argsCons argsNil (t := 0) rfl) (t := 1) rfl) ?_; intro Q0 hQ
 refine wcSeq (wcRegion ?_)
 refine wlVal (opAssign rfl) rfl ?_
 refine wlThen (wcSeq (wcSeq (wcRegion ?_)))
 refine wlVal (opMove rfl) rfl ?_
 refine wlVal (opLen rfl isl47) rfl ?_
 refine wlVal (opMove rfl) rfl ?_
 refine wlThen ?_
 refine wcBlock ?_
 refine WC.sub (wrInd (ι := Nat) (fun k => l.length - k) (fun k G w => Cx w0 G0 G w ∧ Bxs G w w0.heap.size [] ∧ Sl G (.slice A1 l.length cap2) l ∧ idxG pf (l.drop k) k = idxG pf l 0) (fun k => ((((Env.nil.put 0 (.slice A1 l.length cap2)).put 1 (.func (.func ff) #[] cf.toArray)).put 7 (.int .i64 (((l.length : Nat) : Int)))).put 8 (.int .i64 (((k : Nat) : Int))))) ?_ (0) _ _ ⟨hC, hB, hl, rfl⟩) (fun _ ha => ((((ha.start.cons ha (t := 0) rfl).cons ha (t := 1) rfl).cons ha (t := 7) rfl).cons ha (t := 8) rfl))
 rintro k G w N0 IH0 ⟨hC, hB, hl, hI⟩
 show WC _ _ _ _ ((((Env.nil.put 0 (.slice A1 l.length cap2)).put 1 (.func (.func ff) #[] cf.toArray)).put 7 (.int .i64 (((l.length : Nat) : Int)))).put 8 (.int .i64 (((k : Nat) : Int)))) w
 refine wcSeq (wcRegion ?_)
 refine wlVal (opLssN rfl rfl) rfl ?_
 refine wlThen (wcSeq ?_)
 cases h3 : decide (k < l.length)
 ·
  skip
  refine wcCondF rfl ?_
  refine wcExit ?_
  refine wcOf ?_
  refine wcSeq (wcRegion ?_)
  refine wlVal (opAssign rfl) rfl ?_
  refine wlThen ?_
  refine wcRet ?_
  exact fun ac_ ha => hQ _ _ _ (results1 ha rfl rfl) ha.df (endS hC hw (by have e := hI; rw [List.drop_eq_nil_of_le (Nat.le_of_not_lt (of_decide_eq_false h3))] at e; simp [idxG, h3] at e; first | (simp [h3, e]; done) | (simp [h3, ← e]; done) | (simp [h3]; exact e)))
 ·
  skip
  refine wcCondT rfl ?_
  refine wcSkip ?_
  refine wcOf ?_
  refine wcSeq ?_
  refine wcBlock (wcSeq (wcRegion ?_))
  refine wlVal (opMove rfl) rfl ?_
  refine wlVal (opAssign rfl) rfl ?_
  refine wlThen (wcSeq (wcRegion ?_))
  refine wlVal (opMove rfl) rfl ?_
  refine wlVal (opMove rfl) rfl ?_
  refine wlVal (opMove rfl) rfl ?_
  obtain ⟨x4, hx5⟩ : ∃ y_, l[k]? = some y_ := ⟨_, List.getElem?_eq_getElem (of_decide_eq_true h3)⟩
  obtain ⟨b6, o7, row8, hA11, hr9, hi10⟩ := hl.elem hx5; subst hA11
  obtain rfl := hi10
  refine wlVal (opIndexAddr rfl rfl slo47 (of_decide_eq_true h3)) rfl ?_
  refine wlVal (opLoadRow (cs := x4.cells) rfl (RowG.range hC.holds hr9) row58 (by simp [Mark.cells, Stand.cells])) rfl ?_
  refine wlCallS hC hB rfl kf rfl rfl (hf _ _ x4 hC.gle hC.holds ) ?_; intro w hk hC hB
  refine wlThen ?_
  cases h12 : pf x4
  ·
   skip
   refine wcCondF rfl ?_
   refine wcSkip ?_
   refine wcOf ?_
   refine wcRegion ?_
   refine wlVal (opIncr rfl rfl (incr_ok (of_decide_eq_true h3) hl.le)) rfl ?_
   refine wlVal (opMove rfl) rfl ?_
   refine wlRound ?_
   exact (IH0 (k + 1) _ _ ⟨hC, hB, hl, (by rw [← hI, drop_get hx5]; simp [idxG, h3, h12])⟩ (by have := of_decide_eq_true h3; simp; omega)).sub (fun _ ha => ((((ha.start.cons ha (t := 0) rfl).cons ha (t := 1) rfl).cons ha (t := 7) rfl).cons ha (t := 8) rfl))
  ·
   skip
   refine wcCondT rfl ?_
   refine wcSeq (wcRegion ?_)
   refine wlVal (opMove rfl) rfl ?_
   refine wlVal (opAssign rfl) rfl ?_
   refine wlThen ?_
   refine wcRet ?_
   exact fun ac_ ha => hQ _ _ _ (results1 ha rfl rfl) ha.df (endS hC hw (by have e := hI; rw [drop_get hx5] at e; simp [idxG, h3, h12] at e; first | (simp [h3, h12, e]; done) | (simp [h3, h12, ← e]; done) | (simp [h3, h12]; exact e)))

theorem conS_ret (G0 : Gh) (w0 : World) (hw : Holds G0 w0) (vl : Value) (l : List Stand) (hl : Sl G0 vl l) (ff : FuncId) (cf : List Value) (pf : Stand → Bool) (kf : callOk Try.prog ff = true) (hf : ∀ (G : Gh) (w : World) (f_x0 : Stand), GLe G0 G → Holds G w → RetS Try.prog ff ([Value.agg f_x0.cells.toArray] ++ cf).toArray G w (.bool (pf f_x0))) :
  RetS Try.prog 52 #[vl, .func (.func ff) #[] cf.toArray] G0 w0 (.bool (l.any pf)) := by
 have hC := Cx.refl hw
 have hB : Bxs G0 w0 w0.heap.size [] := Bxs.nil _ _ _
 obtain ⟨A1, cap2, rfl⟩ := hl.form
 refine callsOf Try.func52 rfl _ Try.ntmps52 rfl _ (argsCons (argsCons argsNil (t := 0) rfl) (t := 1) rfl) ?_; intro Q0 hQ
 refine wcSeq (wcRegion ?_)
 refine wlVal (opAssign rfl) rfl ?_
 refine wlThen (wcSeq (wcRegion ?_))
 refine wlVal (opMove rfl) rfl ?_
 refine wlVal (opMove rfl) rfl ?_
 refine wlCallS hC hB rfl co69 rfl rfl (idxS_ret _ _ hC.holds _ l hl _ _ pf kf (fun G w f_x0 hg hw  => hf G w f_x0 (fun b o h => hg b o (hC.gle b o h)) hw )) ?_; intro w hk hC hB
 refine wlVal (opGeq rfl rfl) rfl ?_
 refine wlVal (opAssign rfl) rfl ?_
 refine wlThen ?_
 refine wcRet ?_
 exact fun ac_ ha => hQ _ _ _ (results1 ha rfl rfl) ha.df (endS hC hw (by rw [idxG_any]))

theorem count_ret (G0 : Gh) (w0 : World) (hw : Holds G0 w0) (csc : List Value) (c : Council) (hc : Rp.Is G0 csc c) (fis : FuncId) (cis : List Value) (pis : Change → Bool) (kis : callOk Try.prog fis = true) (his : ∀ (G : Gh) (w : World) (cis_x0 : List Value) (is_x0 : Change), GLe G0 G → Holds G w → Rp.Is G cis_x0 is_x0 → RetS Try.prog fis ([Value.agg cis_x0.toArray] ++ cis).toArray G w (.bool (pis is_x0))) :
  RetS Try.prog 38 #[.agg csc.toArray, .func (.func fis) #[] cis.toArray] G0 w0 (.int .i64 (cnt c pis)) := by
 have hC := Cx.refl hw
 have hB : Bxs G0 w0 w0.heap.size [] := Bxs.nil _ _ _
 obtain ⟨v1, rfl, hs2⟩ := Council.opIs hc
 obtain ⟨A3, cap4, rfl⟩ := hs2.form
 refine callsOf Try.func38 rfl _ Try.ntmps38 rfl _ (argsCons (argsCons argsNil (t := 0) rfl) (t := 1) rfl) ?_; intro Q0 hQ
 refine wcSeq (wcRegion ?_)
 refine wlBox (cs := [(.int .i64 c.most), (.int .i64 c.some_), (.slice A3 c.list.length cap4)]) hC hB rfl rfl rfl ?_; intro b5 w hk hC hB
 refine wlVal (opAssign rfl) rfl ?_
 refine wlThen (wcSeq (wcSeq (wcRegion ?_)))
 refine wlVal (opFieldAddr rfl fo70_2) rfl ?_
 refine wlVal (opLoadOne (v := (.slice A3 c.list.length cap4)) rfl (hB.cell (i := 0) rfl rfl) one25) rfl ?_
 refine wlVal (opLen rfl isl25) rfl ?_
 refine wlVal (opMove rfl) rfl ?_
 refine wlThen ?_
 refine wcBlock ?_
 refine WC.sub (wrInd (ι := Nat × Nat) (fun i => match i with | (k, n) => c.list.length - k) (fun i G w => match i with | (k, n) => Cx w0 G0 G w ∧ Bxs G w w0.heap.size [(b5, 70, [(.int .i64 c.most), (.int .i64 c.some_), (.slice A3 c.list.length cap4)])] ∧ Sl G (.slice A3 c.list.length cap4) c.list ∧ n ≤ k ∧ n + (c.list.drop k).countP pis = c.list.countP pis) (fun i => match i with | (k, n) => (((((Env.nil.put 1 (.func (.func fis) #[] cis.toArray)).put 4 (.int .i64 (((n : Nat) : Int)))).put 8 (.slice A3 c.list.length cap4)).put 9 (.int .i64 (((c.list.length : Nat) : Int)))).put 10 (.int .i64 (((k : Nat) : Int))))) ?_ (0, 0) _ _ ⟨hC, hB, hs2, (Nat.le_refl _), (by simp)⟩) (fun _ ha => (((((ha.start.cons ha (t := 1) rfl).cons ha (t := 4) rfl).cons ha (t := 8) rfl).cons ha (t := 9) rfl).cons ha (t := 10) rfl))
 rintro ⟨k, n⟩ G w N0 IH0 ⟨hC, hB, hs2, hn, hI⟩
 show WC _ _ _ _ (((((Env.nil.put 1 (.func (.func fis) #[] cis.toArray)).put 4 (.int .i64 (((n : Nat) : Int)))).put 8 (.slice A3 c.list.length cap4)).put 9 (.int .i64 (((c.list.length : Nat) : Int)))).put 10 (.int .i64 (((k : Nat) : Int)))) w
 refine wcSeq (wcRegion ?_)
 refine wlVal (opLssN rfl rfl) rfl ?_
 refine wlThen (wcSeq ?_)
 cases h6 : decide (k < c.list.length)
 ·
  skip
  refine wcCondF rfl ?_
  refine wcExit ?_
  refine wcOf ?_
  refine wcSeq (wcRegion ?_)
  refine wlVal (opMove rfl) rfl ?_
  refine wlVal (opAssign rfl) rfl ?_
  refine wlThen ?_
  refine wcRet ?_
  exact fun ac_ ha => hQ _ _ _ (results1 ha rfl rfl) ha.df (endS hC hw (by unfold cnt; have e := hI; rw [List.drop_eq_nil_of_le (Nat.le_of_not_lt (of_decide_eq_false h6))] at e; simp at e; simp [e]))
 ·
  skip
  refine wcCondT rfl ?_
  refine wcSkip ?_
  refine wcOf ?_
  refine wcSeq ?_
  refine wcBlock (wcSeq (wcRegion ?_))
  obtain ⟨x7, hx8⟩ : ∃ y_, c.list[k]? = some y_ := ⟨_, List.getElem?_eq_getElem (of_decide_eq_true h6)⟩
  obtain ⟨b9, o10, row11, hA14, hr12, hi13⟩ := hs2.elem hx8; subst hA14
  obtain ⟨v15, v17, v19, rfl, hs16, hs18, hs20⟩ := Change.opIs hi13
  obtain ⟨A21, cap22, rfl⟩ := hs16.form
  obtain ⟨A23, cap24, rfl⟩ := hs18.form
  obtain ⟨A25, cap26, rfl⟩ := hs20.form
  refine wlVal (opIndexAddr rfl rfl slo25 (of_decide_eq_true h6)) rfl ?_
  refine wlVal (opLoadRow (cs := [(.int .i64 x7.node), (.int .i64 x7.view), (.int .i64 x7.low), (.slice A21 x7.marks.length cap22), (.slice A23 x7.p.length cap24), (.slice A25 x7.q.length cap26)]) rfl (RowG.range hC.holds hr12) row49 rfl) rfl ?_
  refine wlAlloc hC hB zero49 rfl ?_; intro b27 w hk hC hB
  refine wlStore 0 (vs := [(.int .i64 x7.node), (.int .i64 x7.view), (.int .i64 x7.low), (.slice A21 x7.marks.length cap22), (.slice A23 x7.p.length cap24), (.slice A25 x7.q.length cap26)]) (cs := [(.int .i64 0), (.int .i64 0), (.int .i64 0), (.slice none 0 0), (.slice none 0 0), (.slice none 0 0)]) (cs' := [(.int .i64 x7.node), (.int .i64 x7.view), (.int .i64 x7.low), (.slice A21 x7.marks.length cap22), (.slice A23 x7.p.length cap24), (.slice A25 x7.q.length cap26)]) hC hB rfl rfl rfl sz49 rfl rfl rfl (by simp [Mark.cells, Stand.cells]) rfl rfl ?_; intro w hC hB
  refine wlThen (wcSeq (wcRegion ?_))
  refine wlVal (opMove rfl) rfl ?_
  refine wlVal (opLoadRow (cs := [(.int .i64 x7.node), (.int .i64 x7.view), (.int .i64 x7.low), (.slice A21 x7.marks.length cap22), (.slice A23 x7.p.length cap24), (.slice A25 x7.q.length cap26)]) rfl (hB.range (i := 0) (m := 6) rfl rfl) row49 rfl) rfl ?_
  refine wlCallS hC hB rfl kis rfl rfl (his _ _ _ x7 hC.gle hC.holds (Change.mkIs (x := x7) hs16 hs18 hs20)) ?_; intro w hk hC hB
  refine wlThen ?_
  cases h28 : pis x7
  ·
   skip
   refine wcCondF rfl ?_
   refine wcSkip ?_
   refine wcOf ?_
   refine wcRegion ?_
   refine wlVal (opIncr rfl rfl (incr_ok (of_decide_eq_true h6) hs2.le)) rfl ?_
   refine wlVal (opMove rfl) rfl ?_
   refine wlRound ?_
   exact (IH0 (k + 1, n) _ _ ⟨hC, hB.tail, hs2, (by omega), (by rw [← hI, drop_get hx8]; simp [List.countP_cons, h6, h28]; try omega)⟩ (by have := of_decide_eq_true h6; simp; omega)).sub (fun _ ha => (((((ha.start.cons ha (t := 1) rfl).cons ha (t := 4) rfl).cons ha (t := 8) rfl).cons ha (t := 9) rfl).cons ha (t := 10) rfl))
  ·
   skip
   refine wcCondT rfl ?_
   refine wcRegion ?_
   refine wlVal (opMove rfl) rfl ?_
   refine wlVal (opIncr rfl rfl (by have := hs2.le; unfold maxL at this; have := of_decide_eq_true h6; omega)) rfl ?_
   refine wlVal (opAssign rfl) rfl ?_
   refine wlNil ?_
   refine wcOf ?_
   refine wcRegion ?_
   refine wlVal (opIncr rfl rfl (incr_ok (of_decide_eq_true h6) hs2.le)) rfl ?_
   refine wlVal (opMove rfl) rfl ?_
   refine wlRound ?_
   exact (IH0 (k + 1, n + 1) _ _ ⟨hC, hB.tail, hs2, (by omega), (by rw [← hI, drop_get hx8]; simp [List.countP_cons, h6, h28]; try omega)⟩ (by have := of_decide_eq_true h6; simp; omega)).sub (fun _ ha => (((((ha.start.cons ha (t := 1) rfl).cons ha (t := 4) rfl).cons ha (t := 8) rfl).cons ha (t := 9) rfl).cons ha (t := 10) rfl))

theorem bestM_ret (G0 : Gh) (w0 : World) (hw : Holds G0 w0) (vl : Value) (l : List Mark) (hl : Sl G0 vl l) (fmay : FuncId) (cmay : List Value) (pmay : Mark → Bool) (kmay : callOk Try.prog fmay = true) (hmay : ∀ (G : Gh) (w : World) (may_x0 : Mark), GLe G0 G → Holds G w → RetS Try.prog fmay ([Value.agg may_x0.cells.toArray] ++ cmay).toArray G w (.bool (pmay may_x0))) (fcmp : FuncId) (ccmp : List Value) (pcmp : Mark → Mark → Int) (kcmp : callOk Try.prog fcmp = true) (hcmp : ∀ (G : Gh) (w : World) (cmp_x0 : Mark) (cmp_x1 : Mark), GLe G0 G → Holds G w → RetS Try.prog fcmp ([Value.agg cmp_x0.cells.toArray, Value.agg cmp_x1.cells.toArray] ++ ccmp).toArray G w (.int .i64 (pcmp cmp_x0 cmp_x1))) :
  RetS Try.prog 42 #[vl, .func (.func fmay) #[] cmay.toArray, .func (.func fcmp) #[] ccmp.toArray] G0 w0 (.tuple #[(.agg ((bestG pmay pcmp l default false).1).cells.toArray), (.bool ((bestG pmay pcmp l default false).2))]) := by
 have hC := Cx.refl hw
 have hB : Bxs G0 w0 w0.heap.size [] := Bxs.nil _ _ _
 obtain ⟨A1, cap2, rfl⟩ := hl.form
 refine callsOf Try.func42 rfl _ Try.ntmps42 rfl _ (argsCons (argsCons (argsCons argsNil (t := 0) rfl) (t := 1) rfl) (t := 2) rfl) ?_; intro Q0 hQ
 refine wcSeq (wcRegion ?_)
 refine wlAlloc hC hB zero30 rfl ?_; intro b3 w hk hC hB
 refine wlVal (opAssign rfl) rfl ?_
 refine wlThen (wcSeq (wcSeq (wcRegion ?_)))
 refine wlVal (opMove rfl) rfl ?_
 refine wlVal (opLen rfl isl31) rfl ?_
 refine wlVal (opMove rfl) rfl ?_
 refine wlThen ?_
 refine wcBlock ?_
 refine WC.sub (wrInd (ι := Nat × Mark × Bool) (fun i => match i with | (k, o, ok) => l.length - k) (fun i G w => match i with | (k, o, ok) => Cx w0 G0 G w ∧ Bxs G w w0.heap.size [(b3, 30, o.cells)] ∧ Sl G (.slice A1 l.length cap2) l ∧ bestG pmay pcmp (l.drop k) o ok = bestG pmay pcmp l default false) (fun i => match i with | (k, o, ok) => (((((((Env.nil.put 1 (.func (.func fmay) #[] cmay.toArray)).put 2 (.func (.func fcmp) #[] ccmp.toArray)).put 6 (.pointer (some ⟨b3, 0, none⟩))).put 7 (.bool ok)).put 10 (.slice A1 l.length cap2)).put 11 (.int .i64 (((l.length : Nat) : Int)))).put 12 (.int .i64 (((k : Nat) : Int))))) ?_ (0, (Mark.mk 0 Dig.zero), false) _ _ ⟨hC, hB, hl, rfl⟩) (fun _ ha => (((((((ha.start.cons ha (t := 1) rfl).cons ha (t := 2) rfl).cons ha (t := 6) rfl).cons ha (t := 7) rfl).cons ha (t := 10) rfl).cons ha (t := 11) rfl).cons ha (t := 12) rfl))
 rintro ⟨k, o, ok⟩ G w N0 IH0 ⟨hC, hB, hl, hI⟩
 show WC _ _ _ _ (((((((Env.nil.put 1 (.func (.func fmay) #[] cmay.toArray)).put 2 (.func (.func fcmp) #[] ccmp.toArray)).put 6 (.pointer (some ⟨b3, 0, none⟩))).put 7 (.bool ok)).put 10 (.slice A1 l.length cap2)).put 11 (.int .i64 (((l.length : Nat) : Int)))).put 12 (.int .i64 (((k : Nat) : Int)))) w
 refine wcSeq (wcRegion ?_)
 refine wlVal (opLssN rfl rfl) rfl ?_
 refine wlThen (wcSeq ?_)
 cases h4 : decide (k < l.length)
 ·
  skip
  refine wcCondF rfl ?_
  refine wcExit ?_
  refine wcOf ?_
  refine wcSeq (wcRegion ?_)
  refine wlVal (opLoadRow (cs := o.cells) rfl (hB.range (i := 0) (m := 33) rfl (by simp [Mark.cells, Stand.cells])) row30 (by simp [Mark.cells, Stand.cells])) rfl ?_
  refine wlVal (opMove rfl) rfl ?_
  refine wlStore 0 (vs := o.cells) (cs := o.cells) (cs' := o.cells) hC hB rfl rfl rfl sz30 rfl (by simp [Mark.cells, Stand.cells]) (by simp [Mark.cells, Stand.cells, Value.oneCell']) (by simp [Mark.cells, Stand.cells]) (by simp [Mark.cells, Stand.cells]) rfl ?_; intro w hC hB
  refine wlVal (opAssign rfl) rfl ?_
  refine wlThen ?_
  refine wcRet ?_
  exact fun ac_ ha => hQ _ _ _ (results2 ha rfl ⟨_, _, o.cells, rfl, row30, (by simp [Mark.cells, Stand.cells]), hB.range (i := 0) (m := 33) rfl (by simp [Mark.cells, Stand.cells]), rfl⟩ rfl) ha.df (endS hC hw (by have e := hI; rw [List.drop_eq_nil_of_le (Nat.le_of_not_lt (of_decide_eq_false h4))] at e; simp [bestG] at e; simp [← e]))
 ·
  skip
  refine wcCondT rfl ?_
  refine wcSkip ?_
  refine wcOf ?_
  refine wcSeq ?_
  refine wcBlock (wcSeq (wcRegion ?_))
  obtain ⟨x5, hx6⟩ : ∃ y_, l[k]? = some y_ := ⟨_, List.getElem?_eq_getElem (of_decide_eq_true h4)⟩
  obtain ⟨b7, o8, row9, hA12, hr10, hi11⟩ := hl.elem hx6; subst hA12
  obtain rfl := hi11
  refine wlVal (opIndexAddr rfl rfl slo31 (of_decide_eq_true h4)) rfl ?_
  refine wlVal (opLoadRow (cs := x5.cells) rfl (RowG.range hC.holds hr10) row30 (by simp [Mark.cells, Stand.cells])) rfl ?_
  refine wlAlloc hC hB zero30 rfl ?_; intro b13 w hk hC hB
  refine wlStore 0 (vs := x5.cells) (cs := ((.int .i64 0) :: (Dig.zero.cells ++ []))) (cs' := x5.cells) hC hB rfl rfl rfl sz30 rfl (by simp [Mark.cells, Stand.cells]) (by simp [Mark.cells, Stand.cells, Value.oneCell']) (by simp [Mark.cells, Stand.cells]) (by simp [Mark.cells, Stand.cells]) rfl ?_; intro w hC hB
  refine wlThen (wcSeq (wcRegion ?_))
  refine wlVal (opMove rfl) rfl ?_
  refine wlVal (opLoadRow (cs := x5.cells) rfl (hB.range (i := 0) (m := 33) rfl (by simp [Mark.cells, Stand.cells])) row30 (by simp [Mark.cells, Stand.cells])) rfl ?_
  refine wlCallS hC hB rfl kmay rfl rfl (hmay _ _ x5 hC.gle hC.holds ) ?_; intro w hk hC hB
  refine wlVal (opMove rfl) rfl ?_
  cases h14 : pmay x5
  ·
   skip
   refine wlOff rfl rfl rfl rfl ?_
   refine wlOff rfl rfl rfl rfl ?_
   refine wlOff rfl rfl rfl rfl ?_
   refine wlOffU rfl rfl rfl ?_
   refine wlOffU rfl rfl rfl ?_
   refine wlOffU rfl rfl rfl ?_
   refine wlOffU rfl rfl rfl ?_
   refine wlOffU rfl rfl rfl ?_
   refine wlOff rfl rfl rfl rfl ?_
   refine wlVal (opPickF rfl rfl) rfl ?_
   refine wlThen ?_
   refine wcCondF rfl ?_
   refine wcSkip ?_
   refine wcOf ?_
   refine wcRegion ?_
   refine wlVal (opIncr rfl rfl (incr_ok (of_decide_eq_true h4) hl.le)) rfl ?_
   refine wlVal (opMove rfl) rfl ?_
   refine wlRound ?_
   exact (IH0 (k + 1, o, ok) _ _ ⟨hC, hB.tail, hl, (by rw [← hI, drop_get hx6]; simp [bestG, h4, h14])⟩ (by have := of_decide_eq_true h4; simp; omega)).sub (fun _ ha => (((((((ha.start.cons ha (t := 1) rfl).cons ha (t := 2) rfl).cons ha (t := 6) rfl).cons ha (t := 7) rfl).cons ha (t := 10) rfl).cons ha (t := 11) rfl).cons ha (t := 12) rfl))
  ·
   skip
   refine wlOn rfl rfl ?_
   refine wlVal (opMove rfl) rfl ?_
   refine wlOn rfl rfl ?_
   refine wlVal (opNot rfl) rfl ?_
   refine wlOn rfl rfl ?_
   refine wlVal (opMove rfl) rfl ?_
   cases h15 : ok
   ·
    skip
    refine wlOff rfl rfl rfl rfl ?_
    refine wlOff rfl rfl rfl rfl ?_
    refine wlOff rfl rfl rfl rfl ?_
    refine wlOff rfl rfl rfl rfl ?_
    refine wlOff rfl rfl rfl rfl ?_
    refine wlOn rfl rfl ?_
    refine wlVal (opPickT rfl rfl) rfl ?_
    refine wlVal (opPickT rfl rfl) rfl ?_
    refine wlThen ?_
    refine wcCondT rfl ?_
    refine wcRegion ?_
    refine wlVal (opLoadRow (cs := x5.cells) rfl (hB.range (i := 0) (m := 33) rfl (by simp [Mark.cells, Stand.cells])) row30 (by simp [Mark.cells, Stand.cells])) rfl ?_
    refine wlStore 1 (vs := x5.cells) (cs := o.cells) (cs' := x5.cells) hC hB rfl rfl rfl sz30 rfl (by simp [Mark.cells, Stand.cells]) (by simp [Mark.cells, Stand.cells, Value.oneCell']) (by simp [Mark.cells, Stand.cells]) (by simp [Mark.cells, Stand.cells]) rfl ?_; intro w hC hB
    refine wlVal (opAssign rfl) rfl ?_
    refine wlNil ?_
    refine wcOf ?_
    refine wcRegion ?_
    refine wlVal (opIncr rfl rfl (incr_ok (of_decide_eq_true h4) hl.le)) rfl ?_
    refine wlVal (opMove rfl) rfl ?_
    refine wlRound ?_
    exact (IH0 (k + 1, x5, true) _ _ ⟨hC, hB.tail, hl, (by rw [← hI, drop_get hx6]; simp [bestG, h4, h14, h15])⟩ (by have := of_decide_eq_true h4; simp; omega)).sub (fun _ ha => (((((((ha.start.cons ha (t := 1) rfl).cons ha (t := 2) rfl).cons ha (t := 6) rfl).cons ha (t := 7) rfl).cons ha (t := 10) rfl).cons ha (t := 11) rfl).cons ha (t := 12) rfl))
   ·
    skip
    refine wlOn rfl rfl ?_
    refine wlVal (opMove rfl) rfl ?_
    refine wlOn rfl rfl ?_
    refine wlVal (opLoadRow (cs := x5.cells) rfl (hB.range (i := 0) (m := 33) rfl (by simp [Mark.cells, Stand.cells])) row30 (by simp [Mark.cells, Stand.cells])) rfl ?_
    refine wlOn rfl rfl ?_
    refine wlVal (opLoadRow (cs := o.cells) rfl (hB.range (i := 1) (m := 33) rfl (by simp [Mark.cells, Stand.cells])) row30 (by simp [Mark.cells, Stand.cells])) rfl ?_
    refine wlOn rfl rfl ?_
    refine wlCallS hC hB rfl kcmp rfl rfl (hcmp _ _ x5 o hC.gle hC.holds ) ?_; intro w hk hC hB
    refine wlOn rfl rfl ?_
    refine wlVal (opGtr rfl rfl) rfl ?_
    refine wlOn rfl rfl ?_
    refine wlVal (opPickF rfl rfl) rfl ?_
    refine wlVal (opPickT rfl rfl) rfl ?_
    refine wlThen ?_
    cases h16 : decide (0 < (pcmp x5 o))
    ·
     skip
     refine wcCondF rfl ?_
     refine wcSkip ?_
     refine wcOf ?_
     refine wcRegion ?_
     refine wlVal (opIncr rfl rfl (incr_ok (of_decide_eq_true h4) hl.le)) rfl ?_
     refine wlVal (opMove rfl) rfl ?_
     refine wlRound ?_
     exact (IH0 (k + 1, o, true) _ _ ⟨hC, hB.tail, hl, (by rw [← hI, drop_get hx6]; simp [bestG, h4, h14, h15, h16])⟩ (by have := of_decide_eq_true h4; simp; omega)).sub (fun _ ha => (((((((ha.start.cons ha (t := 1) rfl).cons ha (t := 2) rfl).cons ha (t := 6) rfl).cons ha (t := 7) rfl).cons ha (t := 10) rfl).cons ha (t := 11) rfl).cons ha (t := 12) rfl))
    ·
     skip
     refine wcCondT rfl ?_
     refine wcRegion ?_
     refine wlVal (opLoadRow (cs := x5.cells) rfl (hB.range (i := 0) (m := 33) rfl (by simp [Mark.cells, Stand.cells])) row30 (by simp [Mark.cells, Stand.cells])) rfl ?_
     refine wlStore 1 (vs := x5.cells) (cs := o.cells) (cs' := x5.cells) hC hB rfl rfl rfl sz30 rfl (by simp [Mark.cells, Stand.cells]) (by simp [Mark.cells, Stand.cells, Value.oneCell']) (by simp [Mark.cells, Stand.cells]) (by simp [Mark.cells, Stand.cells]) rfl ?_; intro w hC hB
     refine wlVal (opAssign rfl) rfl ?_
     refine wlNil ?_
     refine wcOf ?_
     refine wcRegion ?_
     refine wlVal (opIncr rfl rfl (incr_ok (of_decide_eq_true h4) hl.le)) rfl ?_
     refine wlVal (opMove rfl) rfl ?_
     refine wlRound ?_
     exact (IH0 (k + 1, x5, true) _ _ ⟨hC, hB.tail, hl, (by rw [← hI, drop_get hx6]; simp [bestG, h4, h14, h15, h16])⟩ (by have := of_decide_eq_true h4; have := of_decide_eq_true h16; simp; omega)).sub (fun _ ha => (((((((ha.start.cons ha (t := 1) rfl).cons ha (t := 2) rfl).cons ha (t := 6) rfl).cons ha (t := 7) rfl).cons ha (t := 10) rfl).cons ha (t := 11) rfl).cons ha (t := 12) rfl))

theorem bestS_ret (G0 : Gh) (w0 : World) (hw : Holds G0 w0) (vl : Value) (l : List Stand) (hl : Sl G0 vl l) (fmay : FuncId) (cmay : List Value) (pmay : Stand → Bool) (kmay : callOk Try.prog fmay = true) (hmay : ∀ (G : Gh) (w : World) (may_x0 : Stand), GLe G0 G → Holds G w → RetS Try.prog fmay ([Value.agg may_x0.cells.toArray] ++ cmay).toArray G w (.bool (pmay may_x0))) (fcmp : FuncId) (ccmp : List Value) (pcmp : Stand → Stand → Int) (kcmp : callOk Try.prog fcmp = true) (hcmp : ∀ (G : Gh) (w : World) (cmp_x0 : Stand) (cmp_x1 : Stand), GLe G0 G → Holds G w → RetS Try.prog fcmp ([Value.agg cmp_x0.cells.toArray, Value.agg cmp_x1.cells.toArray] ++ ccmp).toArray G w (.int .i64 (pcmp cmp_x0 cmp_x1))) :
  RetS Try.prog 47 #[vl, .func (.func fmay) #[] cmay.toArray, .func (.func fcmp) #[] ccmp.toArray] G0 w0 (.tuple #[(.agg ((bestG pmay pcmp l default false).1).cells.toArray), (.bool ((bestG pmay pcmp l default false).2))]) := by
 have hC := Cx.refl hw
 have hB : Bxs G0 w0 w0.heap.size [] := Bxs.nil _ _ _
 obtain ⟨A1, cap2, rfl⟩ := hl.form
 refine callsOf Try.func47 rfl _ Try.ntmps47 rfl _ (argsCons (argsCons (argsCons argsNil (t := 0) rfl) (t := 1) rfl) (t := 2) rfl) ?_; intro Q0 hQ
 refine wcSeq (wcRegion ?_)
 refine wlAlloc hC hB zero58 rfl ?_; intro b3 w hk hC hB
 refine wlVal (opAssign rfl) rfl ?_
 refine wlThen (wcSeq (wcSeq (wcRegion ?_)))
 refine wlVal (opMove rfl) rfl ?_
 refine wlVal (opLen rfl isl47) rfl ?_
 refine wlVal (opMove rfl) rfl ?_
 refine wlThen ?_
 refine wcBlock ?_
 refine WC.sub (wrInd (ι := Nat × Stand × Bool) (fun i => match i with | (k, o, ok) => l.length - k) (fun i G w => match i with | (k, o, ok) => Cx w0 G0 G w ∧ Bxs G w w0.heap.size [(b3, 58, o.cells)] ∧ Sl G (.slice A1 l.length cap2) l ∧ bestG pmay pcmp (l.drop k) o ok = bestG pmay pcmp l default false) (fun i => match i with | (k, o, ok) => (((((((Env.nil.put 1 (.func (.func fmay) #[] cmay.toArray)).put 2 (.func (.func fcmp) #[] ccmp.toArray)).put 6 (.pointer (some ⟨b3, 0, none⟩))).put 7 (.bool ok)).put 10 (.slice A1 l.length cap2)).put 11 (.int .i64 (((l.length : Nat) : Int)))).put 12 (.int .i64 (((k : Nat) : Int))))) ?_ (0, (Stand.mk 0 Dig.zero 0), false) _ _ ⟨hC, hB, hl, rfl⟩) (fun _ ha => (((((((ha.start.cons ha (t := 1) rfl).cons ha (t := 2) rfl).cons ha (t := 6) rfl).cons ha (t := 7) rfl).cons ha (t := 10) rfl).cons ha (t := 11) rfl).cons ha (t := 12) rfl))
 rintro ⟨k, o, ok⟩ G w N0 IH0 ⟨hC, hB, hl, hI⟩
 show WC _ _ _ _ (((((((Env.nil.put 1 (.func (.func fmay) #[] cmay.toArray)).put 2 (.func (.func fcmp) #[] ccmp.toArray)).put 6 (.pointer (some ⟨b3, 0, none⟩))).put 7 (.bool ok)).put 10 (.slice A1 l.length cap2)).put 11 (.int .i64 (((l.length : Nat) : Int)))).put 12 (.int .i64 (((k : Nat) : Int)))) w
 refine wcSeq (wcRegion ?_)
 refine wlVal (opLssN rfl rfl) rfl ?_
 refine wlThen (wcSeq ?_)
 cases h4 : decide (k < l.length)
 ·
  skip
  refine wcCondF rfl ?_
  refine wcExit ?_
  refine wcOf ?_
  refine wcSeq (wcRegion ?_)
  refine wlVal (opLoadRow (cs := o.cells) rfl (hB.range (i := 0) (m := 34) rfl (by simp [Mark.cells, Stand.cells])) row58 (by simp [Mark.cells, Stand.cells])) rfl ?_
  refine wlVal (opMove rfl) rfl ?_
  refine wlStore 0 (vs := o.cells) (cs := o.cells) (cs' := o.cells) hC hB rfl rfl rfl sz58 rfl (by simp [Mark.cells, Stand.cells]) (by simp [Mark.cells, Stand.cells, Value.oneCell']) (by simp [Mark.cells, Stand.cells]) (by simp [Mark.cells, Stand.cells]) rfl ?_; intro w hC hB
  refine wlVal (opAssign rfl) rfl ?_
  refine wlThen ?_
  refine wcRet ?_
  exact fun ac_ ha => hQ _ _ _ (results2 ha rfl ⟨_, _, o.cells, rfl, row58, (by simp [Mark.cells, Stand.cells]), hB.range (i := 0) (m := 34) rfl (by simp [Mark.cells, Stand.cells]), rfl⟩ rfl) ha.df (endS hC hw (by have e := hI; rw [List.drop_eq_nil_of_le (Nat.le_of_not_lt (of_decide_eq_false h4))] at e; simp [bestG] at e; simp [← e]))
 ·
  skip
  refine wcCondT rfl ?_
  refine wcSkip ?_
  refine wcOf ?_
  refine wcSeq ?_
  refine wcBlock (wcSeq (wcRegion ?_))
  obtain ⟨x5, hx6⟩ : ∃ y_, l[k]? = some y_ := ⟨_, List.getElem?_eq_getElem (of_decide_eq_true h4)⟩
  obtain ⟨b7, o8, row9, hA12, hr10, hi11⟩ := hl.elem hx6; subst hA12
  obtain rfl := hi11
  refine wlVal (opIndexAddr rfl rfl slo47 (of_decide_eq_true h4)) rfl ?_
  refine wlVal (opLoadRow (cs := x5.cells) rfl (RowG.range hC.holds hr10) row58 (by simp [Mark.cells, Stand.cells])) rfl ?_
  refine wlAlloc hC hB zero58 rfl ?_; intro b13 w hk hC hB
  refine wlStore 0 (vs := x5.cells) (cs := ((.int .i64 0) :: (Dig.zero.cells ++ ((.int .i64 0) :: [])))) (cs' := x5.cells) hC hB rfl rfl rfl sz58 rfl (by simp [Mark.cells, Stand.cells]) (by simp [Mark.cells, Stand.cells, Value.oneCell']) (by simp [Mark.cells, Stand.cells]) (by simp [Mark.cells, Stand.cells]) rfl ?_; intro w hC hB
  refine wlThen (wcSeq (wcRegion ?_))
  refine wlVal (opMove rfl) rfl ?_
  refine wlVal (opLoadRow (cs := x5.cells) rfl (hB.range (i := 0) (m := 34) rfl (by simp [Mark.cells, Stand.cells])) row58 (by simp [Mark.cells, Stand.cells])) rfl ?_
  refine wlCallS hC hB rfl kmay rfl rfl (hmay _ _ x5 hC.gle hC.holds ) ?_; intro w hk hC hB
  refine wlVal (opMove rfl) rfl ?_
  cases h14 : pmay x5
  ·
   skip
   refine wlOff rfl rfl rfl rfl ?_
   refine wlOff rfl rfl rfl rfl ?_
   refine wlOff rfl rfl rfl rfl ?_
   refine wlOffU rfl rfl rfl ?_
   refine wlOffU rfl rfl rfl ?_
   refine wlOffU rfl rfl rfl ?_
   refine wlOffU rfl rfl rfl ?_
   refine wlOffU rfl rfl rfl ?_
   refine wlOff rfl rfl rfl rfl ?_
   refine wlVal (opPickF rfl rfl) rfl ?_
   refine wlThen ?_
   refine wcCondF rfl ?_
   refine wcSkip ?_
   refine wcOf ?_
   refine wcRegion ?_
   refine wlVal (opIncr rfl rfl (incr_ok (of_decide_eq_true h4) hl.le)) rfl ?_
   refine wlVal (opMove rfl) rfl ?_
   refine wlRound ?_
   exact (IH0 (k + 1, o, ok) _ _ ⟨hC, hB.tail, hl, (by rw [← hI, drop_get hx6]; simp [bestG, h4, h14])⟩ (by have := of_decide_eq_true h4; simp; omega)).sub (fun _ ha => (((((((ha.start.cons ha (t := 1) rfl).cons ha (t := 2) rfl).cons ha (t := 6) rfl).cons ha (t := 7) rfl).cons ha (t := 10) rfl).cons ha (t := 11) rfl).cons ha (t := 12) rfl))
  ·
   skip
   refine wlOn rfl rfl ?_
   refine wlVal (opMove rfl) rfl ?_
   refine wlOn rfl rfl ?_
   refine wlVal (opNot rfl) rfl ?_
   refine wlOn rfl rfl ?_
   refine wlVal (opMove rfl) rfl ?_
   cases h15 : ok
   ·
    skip
    refine wlOff rfl rfl rfl rfl ?_
    refine wlOff rfl rfl rfl rfl ?_
    refine wlOff rfl rfl rfl rfl ?_
    refine wlOff rfl rfl rfl rfl ?_
    refine wlOff rfl rfl rfl rfl ?_
    refine wlOn rfl rfl ?_
    refine wlVal (opPickT rfl rfl) rfl ?_
    refine wlVal (opPickT rfl rfl) rfl ?_
    refine wlThen ?_
    refine wcCondT rfl ?_
    refine wcRegion ?_
    refine wlVal (opLoadRow (cs := x5.cells) rfl (hB.range (i := 0) (m := 34) rfl (by simp [Mark.cells, Stand.cells])) row58 (by simp [Mark.cells, Stand.cells])) rfl ?_
    refine wlStore 1 (vs := x5.cells) (cs := o.cells) (cs' := x5.cells) hC hB rfl rfl rfl sz58 rfl (by simp [Mark.cells, Stand.cells]) (by simp [Mark.cells, Stand.cells, Value.oneCell']) (by simp [Mark.cells, Stand.cells]) (by simp [Mark.cells, Stand.cells]) rfl ?_; intro w hC hB
    refine wlVal (opAssign rfl) rfl ?_
    refine wlNil ?_
    refine wcOf ?_
    refine wcRegion ?_
    refine wlVal (opIncr rfl rfl (incr_ok (of_decide_eq_true h4) hl.le)) rfl ?_
    refine wlVal (opMove rfl) rfl ?_
    refine wlRound ?_
    exact (IH0 (k + 1, x5, true) _ _ ⟨hC, hB.tail, hl, (by rw [← hI, drop_get hx6]; simp [bestG, h4, h14, h15])⟩ (by have := of_decide_eq_true h4; simp; omega)).sub (fun _ ha => (((((((ha.start.cons ha (t := 1) rfl).cons ha (t := 2) rfl).cons ha (t := 6) rfl).cons ha (t := 7) rfl).cons ha (t := 10) rfl).cons ha (t := 11) rfl).cons ha (t := 12) rfl))
   ·
    skip
    refine wlOn rfl rfl ?_
    refine wlVal (opMove rfl) rfl ?_
    refine wlOn rfl rfl ?_
    refine wlVal (opLoadRow (cs := x5.cells) rfl (hB.range (i := 0) (m := 34) rfl (by simp [Mark.cells, Stand.cells])) row58 (by simp [Mark.cells, Stand.cells])) rfl ?_
    refine wlOn rfl rfl ?_
    refine wlVal (opLoadRow (cs := o.cells) rfl (hB.range (i := 1) (m := 34) rfl (by simp [Mark.cells, Stand.cells])) row58 (by simp [Mark.cells, Stand.cells])) rfl ?_
    refine wlOn rfl rfl ?_
    refine wlCallS hC hB rfl kcmp rfl rfl (hcmp _ _ x5 o hC.gle hC.holds ) ?_; intro w hk hC hB
    refine wlOn rfl rfl ?_
    refine wlVal (opGtr rfl rfl) rfl ?_
    refine wlOn rfl rfl ?_
    refine wlVal (opPickF rfl rfl) rfl ?_
    refine wlVal (opPickT rfl rfl) rfl ?_
    refine wlThen ?_
    cases h16 : decide (0 < (pcmp x5 o))
    ·
     skip
     refine wcCondF rfl ?_
     refine wcSkip ?_
     refine wcOf ?_
     refine wcRegion ?_
     refine wlVal (opIncr rfl rfl (incr_ok (of_decide_eq_true h4) hl.le)) rfl ?_
     refine wlVal (opMove rfl) rfl ?_
     refine wlRound ?_
     exact (IH0 (k + 1, o, true) _ _ ⟨hC, hB.tail, hl, (by rw [← hI, drop_get hx6]; simp [bestG, h4, h14, h15, h16])⟩ (by have := of_decide_eq_true h4; simp; omega)).sub (fun _ ha => (((((((ha.start.cons ha (t := 1) rfl).cons ha (t := 2) rfl).cons ha (t := 6) rfl).cons ha (t := 7) rfl).cons ha (t := 10) rfl).cons ha (t := 11) rfl).cons ha (t := 12) rfl))
    ·
     skip
     refine wcCondT rfl ?_
     refine wcRegion ?_
     refine wlVal (opLoadRow (cs := x5.cells) rfl (hB.range (i := 0) (m := 34) rfl (by simp [Mark.cells, Stand.cells])) row58 (by simp [Mark.cells, Stand.cells])) rfl ?_
     refine wlStore 1 (vs := x5.cells) (cs := o.cells) (cs' := x5.cells) hC hB rfl rfl rfl sz58 rfl (by simp [Mark.cells, Stand.cells]) (by simp [Mark.cells, Stand.cells, Value.oneCell']) (by simp [Mark.cells, Stand.cells]) (by simp [Mark.cells, Stand.cells]) rfl ?_; intro w hC hB
     refine wlVal (opAssign rfl) rfl ?_
     refine wlNil ?_
     refine wcOf ?_
     refine wcRegion ?_
     refine wlVal (opIncr rfl rfl (incr_ok (of_decide_eq_true h4) hl.le)) rfl ?_
     refine wlVal (opMove rfl) rfl ?_
     refine wlRound ?_
     exact (IH0 (k + 1, x5, true) _ _ ⟨hC, hB.tail, hl, (by rw [← hI, drop_get hx6]; simp [bestG, h4, h14, h15, h16])⟩ (by have := of_decide_eq_true h4; have := of_decide_eq_true h16; simp; omega)).sub (fun _ ha => (((((((ha.start.cons ha (t := 1) rfl).cons ha (t := 2) rfl).cons ha (t := 6) rfl).cons ha (t := 7) rfl).cons ha (t := 10) rfl).cons ha (t := 11) rfl).cons ha (t := 12) rfl))

end Go.Proofs.Ytbhkoipmojdkhaa
