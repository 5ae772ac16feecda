/- What functions of the marks seat return, part 1. No condition. -/
import Derived.Test.YtbmanooiphghmaaMkG0
set_option linter.all false
namespace Go.Proofs.Ytbmanooiphghmaa
open Go Go.Gx Go.RowKit
theorem ar26 : arrOk Try.prog 26 32 5 1 = true := by kernel_rfl
theorem one5 : oneOk Try.prog 5 = true := by kernel_rfl
theorem fmix : Try.prog.follows .mixedOrders = true := by kernel_rfl
theorem isl54 : isSlice Try.prog 54 = true := by kernel_rfl
theorem slo54 : sliceOk Try.prog 54 28 33 = true := by kernel_rfl
theorem row28 : rowOk Try.prog 28 33 = true := by kernel_rfl
theorem eg28 : Try.prog.eqGuardType Try.prog.depth 28 = false := by kernel_rfl
theorem fa28 : fieldsAre Try.prog 28 [(3, 0), (26, 1)] = true := by kernel_rfl
theorem by26 : bytes32 Try.prog 26 = true := by kernel_rfl
theorem row26 : rowOk Try.prog 26 32 = true := by kernel_rfl
theorem eq26 (d : Nat) (x y : Dig) (w : World) : (Op.equalIn (d + 2) 26 (.agg x.cells.toArray) (.agg y.cells.toArray)).run Try.prog w = .ok (decide (x = y)) w := run_equalIn_dig by26 x y w
theorem eq28 (d : Nat) (x y : Mark) (w : World) : (Op.equalIn (d + 4) 28 (.agg x.cells.toArray) (.agg y.cells.toArray)).run Try.prog w = .ok (decide (x = y)) w := by
  have h : decide (x = y) = ((x.seq == y.seq) && (decide (x.dig = y.dig) && true)) := by rw [Bool.eq_iff_iff]; cases x; cases y; simp
  rw [h]; exact run_equalIn_fields fa28 ⟨_, _, _, _, run_part_one one3 (v := .int .i64 x.seq) (by simp [Mark.cells]), run_part_one one3 (v := .int .i64 y.seq) (by simp [Mark.cells]), fun w => run_equalIn_int w _ 3 _ .i64 _ _ ui3, ⟨_, _, _, _, run_part_row' row26 (r := x.dig.cells) (by simp [Mark.cells]), run_part_row' row26 (r := y.dig.cells) (by simp [Mark.cells]), fun w => eq26 _ x.dig y.dig w, rfl, rfl⟩, rfl⟩ w
theorem rsame_ret (G0 : Gh) (w0 : World) (hw : Holds G0 w0) (vx : Value) (x : List Mark) (hx : Sl G0 vx x) (vy : Value) (y : List Mark) (hy : Sl G0 vy y) :
    RetS Try.prog 24 #[vx, vy] G0 w0 (.bool (decide (x = y))) := by
  have hC := Cx.refl hw
  have hB : Bxs G0 w0 w0.heap.size [] := Bxs.nil _ _ _
  obtain ⟨A1, cap2, rfl⟩ := hx.form
  obtain ⟨A3, cap4, rfl⟩ := hy.form
  refine callsOf Try.func24 rfl _ Try.ntmps24 rfl _ (argsCons (argsCons argsNil (t := 0) rfl) (t := 1) rfl) ?_; intro Q0 hQ
  refine wcSeq ?_
  refine wcRegion ?_
  refine wlVal (opAssign rfl) rfl ?_
  refine wlThen ?_
  refine wcSeq ?_
  refine wcSeq ?_
  refine wcRegion ?_
  refine wlVal (opMove rfl) rfl ?_
  refine wlVal (opLen rfl isl54) rfl ?_
  refine wlVal (opMove rfl) rfl ?_
  refine wlVal (opLen rfl isl54) rfl ?_
  refine wlVal (opNeq rfl rfl) rfl ?_
  refine wlThen ?_
  cases h5 : (((x.length : Nat) : Int)) != (((y.length : Nat) : Int))
  · skip
    refine wcCondF rfl ?_
    refine wcSkip ?_
    refine wcOf ?_
    refine wcSeq ?_
    refine wcSeq ?_
    refine wcRegion ?_
    refine wlVal (opAssign rfl) rfl ?_
    refine wlThen ?_
    refine wcBlock ?_
    refine WC.sub (wrInd (ι := Nat) (fun k => x.length - k) (fun k G w => Cx w0 G0 G w ∧ Bxs G w w0.heap.size [] ∧ Sl G (.slice A1 x.length cap2) x ∧ Sl G (.slice A3 y.length cap4) y ∧ k ≤ x.length ∧ x.take k = y.take k) (fun k => (((Env.nil.put 0 (.slice A1 x.length cap2)).put 1 (.slice A3 y.length cap4)).put 5 (.int .i64 (((k : Nat) : Int))))) ?_ (0) _ _ ⟨hC, hB, hx, hy, (by simp), rfl⟩) (fun _ ha => (((ha.start.cons ha (t := 0) rfl).cons ha (t := 1) rfl).cons ha (t := 5) rfl))
    rintro k G w N0 IH0 ⟨hC, hB, hx, hy, hk, hI⟩
    show WC _ _ _ _ (((Env.nil.put 0 (.slice A1 x.length cap2)).put 1 (.slice A3 y.length cap4)).put 5 (.int .i64 (((k : Nat) : Int)))) w
    refine wcSeq ?_
    refine wcSeq ?_
    refine wcRegion ?_
    refine wlVal (opMove rfl) rfl ?_
    refine wlVal (opMove rfl) rfl ?_
    refine wlVal (opLen rfl isl54) rfl ?_
    refine wlVal (opLssN rfl rfl) rfl ?_
    refine wlThen ?_
    cases h6 : decide (k < x.length)
    · skip
      refine wcCondF rfl ?_
      refine wcExit ?_
      refine wcOf ?_
      refine wcSeq ?_
      refine wcRegion ?_
      refine wlVal (opAssign rfl) rfl ?_
      refine wlThen ?_
      refine wcRet ?_
      exact fun ac_ ha => hQ _ _ _ (results1 ha rfl rfl) ha.df (endS hC hw (by have e1 := of_decide_eq_false h6; have e2 := h5; simp at e2; have e3 := hI; rw [List.take_of_length_le (by omega), List.take_of_length_le (by omega)] at e3; simp [e3]))
    · skip
      refine wcCondT rfl ?_
      refine wcSkip ?_
      refine wcOf ?_
      refine wcSeq ?_
      refine wcBlock ?_
      refine wcSeq ?_
      obtain ⟨x7, hx8⟩ : ∃ y_, x[k]? = some y_ := ⟨_, List.getElem?_eq_getElem (of_decide_eq_true h6)⟩
      obtain ⟨b9, o10, row11, hA14, hr12, hi13⟩ := hx.elem hx8; subst hA14
      obtain rfl := hi13
      obtain ⟨x15, hx16⟩ : ∃ y_, y[k]? = some y_ := ⟨_, List.getElem?_eq_getElem (by have e1 := of_decide_eq_true h6; have e2 := h5; simp at e2; omega)⟩
      obtain ⟨b17, o18, row19, hA22, hr20, hi21⟩ := hy.elem hx16; subst hA22
      obtain rfl := hi21
      refine wcDraw fmix (by kernel_rfl) (by kernel_rfl) (vAt [(fun _ v_ => v_ = (.slice (some ⟨b9, o10, none⟩) x.length cap2)), (fun _ v_ => v_ = (.int .i64 (((k : Nat) : Int)))), (fun _ v_ => v_ = (.pointer (some ⟨b9, o10 + k * 33, none⟩))), (fun _ v_ => v_ = (.agg x7.cells.toArray)), (fun _ v_ => v_ = (.slice (some ⟨b17, o18, none⟩) y.length cap4)), (fun _ v_ => v_ = (.int .i64 (((k : Nat) : Int)))), (fun _ v_ => v_ = (.pointer (some ⟨b17, o18 + k * 33, none⟩))), (fun _ v_ => v_ = (.agg x15.cells.toArray)), (fun _ v_ => v_ = (.bool (!(decide (x7 = x15)))))]) (fun _ _ G' w => Cx w0 G0 G' w ∧ Bxs G' w w0.heap.size [] ∧ GLe G G') G (vAt_mono ⟨fun _ _ _ _ h => h, fun _ _ _ _ h => h, fun _ _ _ _ h => h, fun _ _ _ _ h => h, fun _ _ _ _ h => h, fun _ _ _ _ h => h, fun _ _ _ _ h => h, fun _ _ _ _ h => h, fun _ _ _ _ h => h, trivial⟩) (fun _ _ => ⟨hC.drew, hB.drew, fun _ _ h => h⟩) ?_ ?_
      · refine dsNone (j := 1) rfl ?_ ?_
        · intro done G w ac_ hd hp hn ⟨hC, hB, hg⟩ hM
          have f0 : ac_.tmps[0]? = some (.slice (some ⟨b9, o10, none⟩) x.length cap2) := hM.old0 rfl rfl
          have hF : Fr 26 ac_ (Env.nil.put 0 (.slice (some ⟨b9, o10, none⟩) x.length cap2)) := (hM.fr.add f0)
          exact OpVal.draw hF (opMove rfl) ⟨G, fun _ _ h => h, ⟨hC, hB, hg⟩, rfl⟩
        refine dsNone (j := 2) rfl ?_ ?_
        · intro done G w ac_ hd hp hn ⟨hC, hB, hg⟩ hM
          have f5 : ac_.tmps[5]? = some (.int .i64 (((k : Nat) : Int))) := hM.old0 rfl rfl
          have hF : Fr 26 ac_ (Env.nil.put 5 (.int .i64 (((k : Nat) : Int)))) := (hM.fr.add f5)
          exact OpVal.draw hF (opMove rfl) ⟨G, fun _ _ h => h, ⟨hC, hB, hg⟩, rfl⟩
        refine dsNone (j := 3) rfl ?_ ?_
        · intro done G w ac_ hd hp hn ⟨hC, hB, hg⟩ hM
          have f17 : ac_.tmps[17]? = some (.slice (some ⟨b9, o10, none⟩) x.length cap2) := hM.eqv 0 rfl (hp 0 rfl) rfl rfl
          have f18 : ac_.tmps[18]? = some (.int .i64 (((k : Nat) : Int))) := hM.eqv 1 rfl (hp 1 rfl) rfl rfl
          have hF : Fr 26 ac_ ((Env.nil.put 17 (.slice (some ⟨b9, o10, none⟩) x.length cap2)).put 18 (.int .i64 (((k : Nat) : Int)))) := ((hM.fr.add f17).add f18)
          exact OpVal.draw hF (opIndexAddr rfl rfl slo54 (of_decide_eq_true h6)) ⟨G, fun _ _ h => h, ⟨hC, hB, hg⟩, rfl⟩
        refine dsNone (j := 4) rfl ?_ ?_
        · intro done G w ac_ hd hp hn ⟨hC, hB, hg⟩ hM
          replace hr12 := hr12.mono hg
          have f19 : ac_.tmps[19]? = some (.pointer (some ⟨b9, o10 + k * 33, none⟩)) := hM.eqv 2 rfl (hp 2 rfl) rfl rfl
          have hF : Fr 26 ac_ (Env.nil.put 19 (.pointer (some ⟨b9, o10 + k * 33, none⟩))) := (hM.fr.add f19)
          exact OpVal.draw hF (opLoadRow (cs := x7.cells) rfl (RowG.range hC.holds hr12) row28 (by simp [Mark.cells, Do.cells, Word.cells])) ⟨G, fun _ _ h => h, ⟨hC, hB, hg⟩, rfl⟩
        refine dsNone (j := 5) rfl ?_ ?_
        · intro done G w ac_ hd hp hn ⟨hC, hB, hg⟩ hM
          have f1 : ac_.tmps[1]? = some (.slice (some ⟨b17, o18, none⟩) y.length cap4) := hM.old0 rfl rfl
          have hF : Fr 26 ac_ (Env.nil.put 1 (.slice (some ⟨b17, o18, none⟩) y.length cap4)) := (hM.fr.add f1)
          exact OpVal.draw hF (opMove rfl) ⟨G, fun _ _ h => h, ⟨hC, hB, hg⟩, rfl⟩
        refine dsNone (j := 6) rfl ?_ ?_
        · intro done G w ac_ hd hp hn ⟨hC, hB, hg⟩ hM
          have f5 : ac_.tmps[5]? = some (.int .i64 (((k : Nat) : Int))) := hM.old0 rfl rfl
          have hF : Fr 26 ac_ (Env.nil.put 5 (.int .i64 (((k : Nat) : Int)))) := (hM.fr.add f5)
          exact OpVal.draw hF (opMove rfl) ⟨G, fun _ _ h => h, ⟨hC, hB, hg⟩, rfl⟩
        refine dsNone (j := 7) rfl ?_ ?_
        · intro done G w ac_ hd hp hn ⟨hC, hB, hg⟩ hM
          have f21 : ac_.tmps[21]? = some (.slice (some ⟨b17, o18, none⟩) y.length cap4) := hM.eqv 4 rfl (hp 4 rfl) rfl rfl
          have f22 : ac_.tmps[22]? = some (.int .i64 (((k : Nat) : Int))) := hM.eqv 5 rfl (hp 5 rfl) rfl rfl
          have hF : Fr 26 ac_ ((Env.nil.put 21 (.slice (some ⟨b17, o18, none⟩) y.length cap4)).put 22 (.int .i64 (((k : Nat) : Int)))) := ((hM.fr.add f21).add f22)
          exact OpVal.draw hF (opIndexAddr rfl rfl slo54 (by have e1 := of_decide_eq_true h6; have e2 := h5; simp at e2; omega)) ⟨G, fun _ _ h => h, ⟨hC, hB, hg⟩, rfl⟩
        refine dsNone (j := 8) rfl ?_ ?_
        · intro done G w ac_ hd hp hn ⟨hC, hB, hg⟩ hM
          replace hr20 := hr20.mono hg
          have f23 : ac_.tmps[23]? = some (.pointer (some ⟨b17, o18 + k * 33, none⟩)) := hM.eqv 6 rfl (hp 6 rfl) rfl rfl
          have hF : Fr 26 ac_ (Env.nil.put 23 (.pointer (some ⟨b17, o18 + k * 33, none⟩))) := (hM.fr.add f23)
          exact OpVal.draw hF (opLoadRow (cs := x15.cells) rfl (RowG.range hC.holds hr20) row28 (by simp [Mark.cells, Do.cells, Word.cells])) ⟨G, fun _ _ h => h, ⟨hC, hB, hg⟩, rfl⟩
        refine dsNone (j := 9) rfl ?_ ?_
        · intro done G w ac_ hd hp hn ⟨hC, hB, hg⟩ hM
          have f20 : ac_.tmps[20]? = some (.agg x7.cells.toArray) := hM.eqv 3 rfl (hp 3 rfl) rfl rfl
          have f24 : ac_.tmps[24]? = some (.agg x15.cells.toArray) := hM.eqv 7 rfl (hp 7 rfl) rfl rfl
          have hF : Fr 26 ac_ ((Env.nil.put 20 (.agg x7.cells.toArray)).put 24 (.agg x15.cells.toArray)) := ((hM.fr.add f20).add f24)
          exact OpVal.draw hF (opNeRow (eq28 _ x7 x15) eg28 rfl rfl) ⟨G, fun _ _ h => h, ⟨hC, hB, hg⟩, rfl⟩
        exact dsNil
      · intro done G w ac_ hall ⟨hC, hB, hg⟩ hM
        replace hx := hx.mono hg
        replace hy := hy.mono hg
        replace hr12 := hr12.mono hg
        replace hr20 := hr20.mono hg
        have f0 : ac_.tmps[0]? = some (.slice (some ⟨b9, o10, none⟩) x.length cap2) := hM.old0 rfl rfl
        have f1 : ac_.tmps[1]? = some (.slice (some ⟨b17, o18, none⟩) y.length cap4) := hM.old0 rfl rfl
        have f5 : ac_.tmps[5]? = some (.int .i64 (((k : Nat) : Int))) := hM.old0 rfl rfl
        have f25 : ac_.tmps[25]? = some (.bool (!(decide (x7 = x15)))) := hM.eqv 8 rfl (hall 8 (by decide)) rfl rfl
        refine ⟨((((Env.nil.put 0 (.slice (some ⟨b9, o10, none⟩) x.length cap2)).put 1 (.slice (some ⟨b17, o18, none⟩) y.length cap4)).put 5 (.int .i64 (((k : Nat) : Int)))).put 25 (.bool (!(decide (x7 = x15))))), ((((hM.fr.add f0).add f1).add f5).add f25), ?_⟩
        clear hM hall
        refine wcOf ?_
        cases h23 : decide (x7 = x15)
        · skip
          refine wcCondT rfl ?_
          refine wcSeq ?_
          refine wcRegion ?_
          refine wlVal (opAssign rfl) rfl ?_
          refine wlThen ?_
          refine wcRet ?_
          exact fun ac_ ha => hQ _ _ _ (results1 ha rfl rfl) ha.df (endS hC hw (by have e1 := h23; simp at e1; symm; simp; rintro rfl; exact e1 (Option.some.inj (hx8.symm.trans hx16))))
        · skip
          refine wcCondF rfl ?_
          refine wcSkip ?_
          refine wcOf ?_
          refine wcRegion ?_
          refine wlVal (opMove rfl) rfl ?_
          refine wlVal (opIncr rfl rfl (incr_ok (of_decide_eq_true h6) hx.le)) rfl ?_
          refine wlVal (opAssign rfl) rfl ?_
          refine wlRound ?_
          exact (IH0 (k + 1) _ _ ⟨hC, hB, hx, hy, (of_decide_eq_true h6), (by have e1 := h23; simp at e1; rw [List.take_add_one, List.take_add_one, hI, hx8, hx16, e1])⟩ (by have := of_decide_eq_true h6; simp; omega)).sub (fun _ ha => (((ha.start.cons ha (t := 0) rfl).cons ha (t := 1) rfl).cons ha (t := 5) rfl))
  · skip
    refine wcCondT rfl ?_
    refine wcSeq ?_
    refine wcRegion ?_
    refine wlVal (opAssign rfl) rfl ?_
    refine wlThen ?_
    refine wcRet ?_
    exact fun ac_ ha => hQ _ _ _ (results1 ha rfl rfl) ha.df (endS hC hw (by simp at h5; symm; simp; rintro rfl; exact h5 rfl))

end Go.Proofs.Ytbmanooiphghmaa
