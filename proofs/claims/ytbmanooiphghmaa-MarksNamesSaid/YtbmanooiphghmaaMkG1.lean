/- What functions of the marks seat return, part 1. No condition. -/
import Derived.Test.YtbmanooiphghmaaMkG0
set_option linter.all false
namespace Go.Proofs.Ytbmanooiphghmaa
open Go Go.Gx Go.RowKit
theorem ar26 : arrOk Try.prog 26 32 5 1 = true := by kernel_rfl
theorem one5 : oneOk Try.prog 5 = true := by kernel_rfl
theorem fmix : Try.prog.follows .mixedOrders = true := by kernel_rfl
theorem isl54 : isSlice Try.prog 54 = true := by kernel_rfl
theorem slo54 : sliceOk Try.prog 54 28 33 = true := by kernel_rfl
theorem row28 : rowOk Try.prog 28 33 = true := by kernel_rfl
theorem eg28 : Try.prog.eqGuardType Try.prog.depth 28 = false := by kernel_rfl
theorem fa28 : fieldsAre Try.prog 28 [(3, 0), (26, 1)] = true := by kernel_rfl
theorem eg26 : Try.prog.eqGuardType Try.prog.depth 26 = false := by kernel_rfl
theorem by26 : bytes32 Try.prog 26 = true := by kernel_rfl
theorem row26 : rowOk Try.prog 26 32 = true := by kernel_rfl
theorem co50 : callOk Try.prog 50 = true := by kernel_rfl
theorem co30 : callOk Try.prog 30 = true := by kernel_rfl
theorem eq26 (d : Nat) (x y : Dig) (w : World) : (Op.equalIn (d + 2) 26 (.agg x.cells.toArray) (.agg y.cells.toArray)).run Try.prog w = .ok (decide (x = y)) w := run_equalIn_dig by26 x y w
theorem eq28 (d : Nat) (x y : Mark) (w : World) : (Op.equalIn (d + 4) 28 (.agg x.cells.toArray) (.agg y.cells.toArray)).run Try.prog w = .ok (decide (x = y)) w := by
  have h : decide (x = y) = ((x.seq == y.seq) && (decide (x.dig = y.dig) && true)) := by rw [Bool.eq_iff_iff]; cases x; cases y; simp
  rw [h]; exact run_equalIn_fields fa28 ⟨_, _, _, _, run_part_one one3 (v := .int .i64 x.seq) (by simp [Mark.cells]), run_part_one one3 (v := .int .i64 y.seq) (by simp [Mark.cells]), fun w => run_equalIn_int w _ 3 _ .i64 _ _ ui3, ⟨_, _, _, _, run_part_row' row26 (r := x.dig.cells) (by simp [Mark.cells]), run_part_row' row26 (r := y.dig.cells) (by simp [Mark.cells]), fun w => eq26 _ x.dig y.dig w, rfl, rfl⟩, rfl⟩ w
theorem rnode_ret (G0 : Gh) (w0 : World) (hw : Holds G0 w0) (n : Int) :
    RetS Try.prog 50 #[.int .i64 n] G0 w0 (.bool (nodeB n)) := by
  have hC := Cx.refl hw
  have hB : Bxs G0 w0 w0.heap.size [] := Bxs.nil _ _ _
  refine callsOf Try.func50 rfl _ Try.ntmps50 rfl _ (argsCons argsNil (t := 0) rfl) ?_; intro Q0 hQ
  refine wcSeq ?_
  refine wcRegion ?_
  refine wlVal (opAssign rfl) rfl ?_
  refine wlThen ?_
  refine wcSeq ?_
  refine wcRegion ?_
  refine wlVal (opMove rfl) rfl ?_
  refine wlVal (opGeq rfl rfl) rfl ?_
  refine wlVal (opMove rfl) rfl ?_
  cases h1 : decide (1 ≤ n)
  · skip
    refine wlOff rfl rfl rfl rfl ?_
    refine wlOff rfl rfl rfl rfl ?_
    refine wlVal (opPickF rfl rfl) rfl ?_
    refine wlVal (opAssign rfl) rfl ?_
    refine wlThen ?_
    refine wcRet ?_
    exact fun ac_ ha => hQ _ _ _ (results1 ha rfl rfl) ha.df (endS hC hw (by simp [nodeB, *]))
  · skip
    refine wlOn rfl rfl ?_
    refine wlVal (opMove rfl) rfl ?_
    refine wlOn rfl rfl ?_
    refine wlVal (opLeq rfl rfl) rfl ?_
    refine wlVal (opPickT rfl rfl) rfl ?_
    refine wlVal (opAssign rfl) rfl ?_
    refine wlThen ?_
    refine wcRet ?_
    exact fun ac_ ha => hQ _ _ _ (results1 ha rfl rfl) ha.df (endS hC hw (by simp [nodeB, *]))

theorem rless_ret (G0 : Gh) (w0 : World) (hw : Holds G0 w0) (a : Dig) (b : Dig) :
    RetS Try.prog 65 #[.agg a.cells.toArray, .agg b.cells.toArray] G0 w0 (.bool (lessB a.l b.l)) := by
  have hC := Cx.refl hw
  have hB : Bxs G0 w0 w0.heap.size [] := Bxs.nil _ _ _
  refine callsOf Try.func65 rfl _ Try.ntmps65 rfl _ (argsCons (argsCons argsNil (t := 0) rfl) (t := 1) rfl) ?_; intro Q0 hQ
  refine wcSeq ?_
  refine wcRegion ?_
  refine wlBox (cs := a.cells) hC hB rfl rfl rfl ?_; intro b1 w hk hC hB
  refine wlBox (cs := b.cells) hC hB rfl rfl rfl ?_; intro b2 w hk hC hB
  refine wlVal (opAssign rfl) rfl ?_
  refine wlThen ?_
  refine wcSeq ?_
  refine wcSeq ?_
  refine wcRegion ?_
  refine wlVal (opAssign rfl) rfl ?_
  refine wlThen ?_
  refine wcBlock ?_
  refine WC.sub (wrInd (ι := Nat) (fun k => 32 - k) (fun k G w => Cx w0 G0 G w ∧ Bxs G w w0.heap.size [(b2, 26, b.cells), (b1, 26, a.cells)] ∧ lessB (a.l.drop k) (b.l.drop k) = lessB a.l b.l) (fun k => (((Env.nil.put 2 (.pointer (some ⟨b1, 0, none⟩))).put 3 (.pointer (some ⟨b2, 0, none⟩))).put 5 (.int .i64 (((k : Nat) : Int))))) ?_ (0) _ _ ⟨hC, hB, rfl⟩) (fun _ ha => (((ha.start.cons ha (t := 2) rfl).cons ha (t := 3) rfl).cons ha (t := 5) rfl))
  rintro k G w N0 IH0 ⟨hC, hB, hI⟩
  show WC _ _ _ _ (((Env.nil.put 2 (.pointer (some ⟨b1, 0, none⟩))).put 3 (.pointer (some ⟨b2, 0, none⟩))).put 5 (.int .i64 (((k : Nat) : Int)))) w
  refine wcSeq ?_
  refine wcSeq ?_
  refine wcRegion ?_
  refine wlVal (opMove rfl) rfl ?_
  refine wlVal (opLssN (b := 32) rfl rfl) rfl ?_
  refine wlThen ?_
  cases h3 : decide (k < 32)
  · skip
    refine wcCondF rfl ?_
    refine wcExit ?_
    refine wcOf ?_
    refine wcSeq ?_
    refine wcRegion ?_
    refine wlVal (opAssign rfl) rfl ?_
    refine wlThen ?_
    refine wcRet ?_
    exact fun ac_ ha => hQ _ _ _ (results1 ha rfl rfl) ha.df (endS hC hw (by have hk32 := of_decide_eq_false h3; have e := hI; rw [List.drop_eq_nil_of_le (by rw [a.h]; omega)] at e; simp [lessB] at e; simp [← e]))
  · skip
    refine wcCondT rfl ?_
    refine wcSkip ?_
    refine wcOf ?_
    refine wcSeq ?_
    refine wcBlock ?_
    refine wcSeq ?_
    refine wcDraw fmix (by kernel_rfl) (by kernel_rfl) (vAt [(fun _ v_ => v_ = (.int .i64 (((k : Nat) : Int)))), (fun _ v_ => v_ = (.pointer (some ⟨b1, 0 + k * 1, none⟩))), (fun _ v_ => v_ = (.int .u8 (((a.l.getD k 0).toNat : Int)))), (fun _ v_ => v_ = (.int .i64 (((k : Nat) : Int)))), (fun _ v_ => v_ = (.pointer (some ⟨b2, 0 + k * 1, none⟩))), (fun _ v_ => v_ = (.int .u8 (((b.l.getD k 0).toNat : Int)))), (fun _ v_ => v_ = (.bool ((((a.l.getD k 0).toNat : Int)) != (((b.l.getD k 0).toNat : Int)))))]) (fun _ _ G' w => Cx w0 G0 G' w ∧ Bxs G' w w0.heap.size [(b2, 26, b.cells), (b1, 26, a.cells)] ∧ GLe G G') G (vAt_mono ⟨fun _ _ _ _ h => h, fun _ _ _ _ h => h, fun _ _ _ _ h => h, fun _ _ _ _ h => h, fun _ _ _ _ h => h, fun _ _ _ _ h => h, fun _ _ _ _ h => h, trivial⟩) (fun _ _ => ⟨hC.drew, hB.drew, fun _ _ h => h⟩) ?_ ?_
    · refine dsNone (j := 1) rfl ?_ ?_
      · intro done G w ac_ hd hp hn ⟨hC, hB, hg⟩ hM
        have f5 : ac_.tmps[5]? = some (.int .i64 (((k : Nat) : Int))) := hM.old0 rfl rfl
        have hF : Fr 24 ac_ (Env.nil.put 5 (.int .i64 (((k : Nat) : Int)))) := (hM.fr.add f5)
        exact OpVal.draw hF (opMove rfl) ⟨G, fun _ _ h => h, ⟨hC, hB, hg⟩, rfl⟩
      refine dsNone (j := 2) rfl ?_ ?_
      · intro done G w ac_ hd hp hn ⟨hC, hB, hg⟩ hM
        have f2 : ac_.tmps[2]? = some (.pointer (some ⟨b1, 0, none⟩)) := hM.old0 rfl rfl
        have f10 : ac_.tmps[10]? = some (.int .i64 (((k : Nat) : Int))) := hM.eqv 0 rfl (hp 0 rfl) rfl rfl
        have hF : Fr 24 ac_ ((Env.nil.put 2 (.pointer (some ⟨b1, 0, none⟩))).put 10 (.int .i64 (((k : Nat) : Int)))) := ((hM.fr.add f2).add f10)
        exact OpVal.draw hF (opIndexArr rfl rfl ar26 (of_decide_eq_true h3)) ⟨G, fun _ _ h => h, ⟨hC, hB, hg⟩, rfl⟩
      refine dsNone (j := 3) rfl ?_ ?_
      · intro done G w ac_ hd hp hn ⟨hC, hB, hg⟩ hM
        have f11 : ac_.tmps[11]? = some (.pointer (some ⟨b1, 0 + k * 1, none⟩)) := hM.eqv 1 rfl (hp 1 rfl) rfl rfl
        have hF : Fr 24 ac_ (Env.nil.put 11 (.pointer (some ⟨b1, 0 + k * 1, none⟩))) := (hM.fr.add f11)
        exact OpVal.draw hF (opLoadOne (v := (.int .u8 (((a.l.getD k 0).toNat : Int)))) rfl (hB.cell (i := 1) rfl (Dig.cellAt a (of_decide_eq_true h3))) one5) ⟨G, fun _ _ h => h, ⟨hC, hB, hg⟩, rfl⟩
      refine dsNone (j := 4) rfl ?_ ?_
      · intro done G w ac_ hd hp hn ⟨hC, hB, hg⟩ hM
        have f5 : ac_.tmps[5]? = some (.int .i64 (((k : Nat) : Int))) := hM.old0 rfl rfl
        have hF : Fr 24 ac_ (Env.nil.put 5 (.int .i64 (((k : Nat) : Int)))) := (hM.fr.add f5)
        exact OpVal.draw hF (opMove rfl) ⟨G, fun _ _ h => h, ⟨hC, hB, hg⟩, rfl⟩
      refine dsNone (j := 5) rfl ?_ ?_
      · intro done G w ac_ hd hp hn ⟨hC, hB, hg⟩ hM
        have f3 : ac_.tmps[3]? = some (.pointer (some ⟨b2, 0, none⟩)) := hM.old0 rfl rfl
        have f13 : ac_.tmps[13]? = some (.int .i64 (((k : Nat) : Int))) := hM.eqv 3 rfl (hp 3 rfl) rfl rfl
        have hF : Fr 24 ac_ ((Env.nil.put 3 (.pointer (some ⟨b2, 0, none⟩))).put 13 (.int .i64 (((k : Nat) : Int)))) := ((hM.fr.add f3).add f13)
        exact OpVal.draw hF (opIndexArr rfl rfl ar26 (of_decide_eq_true h3)) ⟨G, fun _ _ h => h, ⟨hC, hB, hg⟩, rfl⟩
      refine dsNone (j := 6) rfl ?_ ?_
      · intro done G w ac_ hd hp hn ⟨hC, hB, hg⟩ hM
        have f14 : ac_.tmps[14]? = some (.pointer (some ⟨b2, 0 + k * 1, none⟩)) := hM.eqv 4 rfl (hp 4 rfl) rfl rfl
        have hF : Fr 24 ac_ (Env.nil.put 14 (.pointer (some ⟨b2, 0 + k * 1, none⟩))) := (hM.fr.add f14)
        exact OpVal.draw hF (opLoadOne (v := (.int .u8 (((b.l.getD k 0).toNat : Int)))) rfl (hB.cell (i := 0) rfl (Dig.cellAt b (of_decide_eq_true h3))) one5) ⟨G, fun _ _ h => h, ⟨hC, hB, hg⟩, rfl⟩
      refine dsNone (j := 7) rfl ?_ ?_
      · intro done G w ac_ hd hp hn ⟨hC, hB, hg⟩ hM
        have f12 : ac_.tmps[12]? = some (.int .u8 (((a.l.getD k 0).toNat : Int))) := hM.eqv 2 rfl (hp 2 rfl) rfl rfl
        have f15 : ac_.tmps[15]? = some (.int .u8 (((b.l.getD k 0).toNat : Int))) := hM.eqv 5 rfl (hp 5 rfl) rfl rfl
        have hF : Fr 24 ac_ ((Env.nil.put 12 (.int .u8 (((a.l.getD k 0).toNat : Int)))).put 15 (.int .u8 (((b.l.getD k 0).toNat : Int)))) := ((hM.fr.add f12).add f15)
        exact OpVal.draw hF (opNeq rfl rfl) ⟨G, fun _ _ h => h, ⟨hC, hB, hg⟩, rfl⟩
      exact dsNil
    · intro done G w ac_ hall ⟨hC, hB, hg⟩ hM
      have f2 : ac_.tmps[2]? = some (.pointer (some ⟨b1, 0, none⟩)) := hM.old0 rfl rfl
      have f3 : ac_.tmps[3]? = some (.pointer (some ⟨b2, 0, none⟩)) := hM.old0 rfl rfl
      have f5 : ac_.tmps[5]? = some (.int .i64 (((k : Nat) : Int))) := hM.old0 rfl rfl
      have f16 : ac_.tmps[16]? = some (.bool ((((a.l.getD k 0).toNat : Int)) != (((b.l.getD k 0).toNat : Int)))) := hM.eqv 6 rfl (hall 6 (by decide)) rfl rfl
      refine ⟨((((Env.nil.put 2 (.pointer (some ⟨b1, 0, none⟩))).put 3 (.pointer (some ⟨b2, 0, none⟩))).put 5 (.int .i64 (((k : Nat) : Int)))).put 16 (.bool ((((a.l.getD k 0).toNat : Int)) != (((b.l.getD k 0).toNat : Int))))), ((((hM.fr.add f2).add f3).add f5).add f16), ?_⟩
      clear hM hall
      refine wcOf ?_
      cases h4 : (((a.l.getD k 0).toNat : Int)) != (((b.l.getD k 0).toNat : Int))
      · skip
        refine wcCondF rfl ?_
        refine wcSkip ?_
        refine wcOf ?_
        refine wcRegion ?_
        refine wlVal (opMove rfl) rfl ?_
        refine wlVal (opIncr rfl rfl (by have := of_decide_eq_true h3; omega)) rfl ?_
        refine wlVal (opAssign rfl) rfl ?_
        refine wlRound ?_
        exact (IH0 (k + 1) _ _ ⟨hC, hB, (by have hk32 := of_decide_eq_true h3; rw [← hI, drop_getD (d := 0) a.l k (by rw [a.h]; omega), drop_getD (d := 0) b.l k (by rw [b.h]; omega)]; simp only [lessB, h3, h4, cond_true, cond_false])⟩ (by have := of_decide_eq_true h3; show 32 - (k + 1) < 32 - k; omega)).sub (fun _ ha => (((ha.start.cons ha (t := 2) rfl).cons ha (t := 3) rfl).cons ha (t := 5) rfl))
      · skip
        refine wcCondT rfl ?_
        refine wcSeq ?_
        refine wcDraw fmix (by kernel_rfl) (by kernel_rfl) (vAt [(fun _ v_ => v_ = (.int .i64 (((k : Nat) : Int)))), (fun _ v_ => v_ = (.pointer (some ⟨b1, 0 + k * 1, none⟩))), (fun _ v_ => v_ = (.int .u8 (((a.l.getD k 0).toNat : Int)))), (fun _ v_ => v_ = (.int .i64 (((k : Nat) : Int)))), (fun _ v_ => v_ = (.pointer (some ⟨b2, 0 + k * 1, none⟩))), (fun _ v_ => v_ = (.int .u8 (((b.l.getD k 0).toNat : Int)))), (fun _ v_ => v_ = (.bool (decide (((a.l.getD k 0).toNat : Int) < ((b.l.getD k 0).toNat : Int))))), (fun _ v_ => v_ = (.bool (decide (((a.l.getD k 0).toNat : Int) < ((b.l.getD k 0).toNat : Int)))))]) (fun _ _ G' w => Cx w0 G0 G' w ∧ Bxs G' w w0.heap.size [(b2, 26, b.cells), (b1, 26, a.cells)] ∧ GLe G G') G (vAt_mono ⟨fun _ _ _ _ h => h, fun _ _ _ _ h => h, fun _ _ _ _ h => h, fun _ _ _ _ h => h, fun _ _ _ _ h => h, fun _ _ _ _ h => h, fun _ _ _ _ h => h, fun _ _ _ _ h => h, trivial⟩) (fun _ _ => ⟨hC.drew, hB.drew, fun _ _ h => h⟩) ?_ ?_
        · refine dsNone (j := 1) rfl ?_ ?_
          · intro done G w ac_ hd hp hn ⟨hC, hB, hg⟩ hM
            have f5 : ac_.tmps[5]? = some (.int .i64 (((k : Nat) : Int))) := hM.old0 rfl rfl
            have hF : Fr 24 ac_ (Env.nil.put 5 (.int .i64 (((k : Nat) : Int)))) := (hM.fr.add f5)
            exact OpVal.draw hF (opMove rfl) ⟨G, fun _ _ h => h, ⟨hC, hB, hg⟩, rfl⟩
          refine dsNone (j := 2) rfl ?_ ?_
          · intro done G w ac_ hd hp hn ⟨hC, hB, hg⟩ hM
            have f2 : ac_.tmps[2]? = some (.pointer (some ⟨b1, 0, none⟩)) := hM.old0 rfl rfl
            have f17 : ac_.tmps[17]? = some (.int .i64 (((k : Nat) : Int))) := hM.eqv 0 rfl (hp 0 rfl) rfl rfl
            have hF : Fr 24 ac_ ((Env.nil.put 2 (.pointer (some ⟨b1, 0, none⟩))).put 17 (.int .i64 (((k : Nat) : Int)))) := ((hM.fr.add f2).add f17)
            exact OpVal.draw hF (opIndexArr rfl rfl ar26 (of_decide_eq_true h3)) ⟨G, fun _ _ h => h, ⟨hC, hB, hg⟩, rfl⟩
          refine dsNone (j := 3) rfl ?_ ?_
          · intro done G w ac_ hd hp hn ⟨hC, hB, hg⟩ hM
            have f18 : ac_.tmps[18]? = some (.pointer (some ⟨b1, 0 + k * 1, none⟩)) := hM.eqv 1 rfl (hp 1 rfl) rfl rfl
            have hF : Fr 24 ac_ (Env.nil.put 18 (.pointer (some ⟨b1, 0 + k * 1, none⟩))) := (hM.fr.add f18)
            exact OpVal.draw hF (opLoadOne (v := (.int .u8 (((a.l.getD k 0).toNat : Int)))) rfl (hB.cell (i := 1) rfl (Dig.cellAt a (of_decide_eq_true h3))) one5) ⟨G, fun _ _ h => h, ⟨hC, hB, hg⟩, rfl⟩
          refine dsNone (j := 4) rfl ?_ ?_
          · intro done G w ac_ hd hp hn ⟨hC, hB, hg⟩ hM
            have f5 : ac_.tmps[5]? = some (.int .i64 (((k : Nat) : Int))) := hM.old0 rfl rfl
            have hF : Fr 24 ac_ (Env.nil.put 5 (.int .i64 (((k : Nat) : Int)))) := (hM.fr.add f5)
            exact OpVal.draw hF (opMove rfl) ⟨G, fun _ _ h => h, ⟨hC, hB, hg⟩, rfl⟩
          refine dsNone (j := 5) rfl ?_ ?_
          · intro done G w ac_ hd hp hn ⟨hC, hB, hg⟩ hM
            have f3 : ac_.tmps[3]? = some (.pointer (some ⟨b2, 0, none⟩)) := hM.old0 rfl rfl
            have f20 : ac_.tmps[20]? = some (.int .i64 (((k : Nat) : Int))) := hM.eqv 3 rfl (hp 3 rfl) rfl rfl
            have hF : Fr 24 ac_ ((Env.nil.put 3 (.pointer (some ⟨b2, 0, none⟩))).put 20 (.int .i64 (((k : Nat) : Int)))) := ((hM.fr.add f3).add f20)
            exact OpVal.draw hF (opIndexArr rfl rfl ar26 (of_decide_eq_true h3)) ⟨G, fun _ _ h => h, ⟨hC, hB, hg⟩, rfl⟩
          refine dsNone (j := 6) rfl ?_ ?_
          · intro done G w ac_ hd hp hn ⟨hC, hB, hg⟩ hM
            have f21 : ac_.tmps[21]? = some (.pointer (some ⟨b2, 0 + k * 1, none⟩)) := hM.eqv 4 rfl (hp 4 rfl) rfl rfl
            have hF : Fr 24 ac_ (Env.nil.put 21 (.pointer (some ⟨b2, 0 + k * 1, none⟩))) := (hM.fr.add f21)
            exact OpVal.draw hF (opLoadOne (v := (.int .u8 (((b.l.getD k 0).toNat : Int)))) rfl (hB.cell (i := 0) rfl (Dig.cellAt b (of_decide_eq_true h3))) one5) ⟨G, fun _ _ h => h, ⟨hC, hB, hg⟩, rfl⟩
          refine dsNone (j := 7) rfl ?_ ?_
          · intro done G w ac_ hd hp hn ⟨hC, hB, hg⟩ hM
            have f19 : ac_.tmps[19]? = some (.int .u8 (((a.l.getD k 0).toNat : Int))) := hM.eqv 2 rfl (hp 2 rfl) rfl rfl
            have f22 : ac_.tmps[22]? = some (.int .u8 (((b.l.getD k 0).toNat : Int))) := hM.eqv 5 rfl (hp 5 rfl) rfl rfl
            have hF : Fr 24 ac_ ((Env.nil.put 19 (.int .u8 (((a.l.getD k 0).toNat : Int)))).put 22 (.int .u8 (((b.l.getD k 0).toNat : Int)))) := ((hM.fr.add f19).add f22)
            exact OpVal.draw hF (opLss rfl rfl) ⟨G, fun _ _ h => h, ⟨hC, hB, hg⟩, rfl⟩
          refine dsNone (j := 8) rfl ?_ ?_
          · intro done G w ac_ hd hp hn ⟨hC, hB, hg⟩ hM
            have f23 : ac_.tmps[23]? = some (.bool (decide (((a.l.getD k 0).toNat : Int) < ((b.l.getD k 0).toNat : Int)))) := hM.eqv 6 rfl (hp 6 rfl) rfl rfl
            have hF : Fr 24 ac_ (Env.nil.put 23 (.bool (decide (((a.l.getD k 0).toNat : Int) < ((b.l.getD k 0).toNat : Int))))) := (hM.fr.add f23)
            exact OpVal.draw hF (opAssign rfl) ⟨G, fun _ _ h => h, ⟨hC, hB, hg⟩, rfl⟩
          exact dsNil
        · intro done G w ac_ hall ⟨hC, hB, hg⟩ hM
          have f4 : ac_.tmps[4]? = some (.bool (decide (((a.l.getD k 0).toNat : Int) < ((b.l.getD k 0).toNat : Int)))) := hM.eqv 7 rfl (hall 7 (by decide)) rfl rfl
          refine ⟨(Env.nil.put 4 (.bool (decide (((a.l.getD k 0).toNat : Int) < ((b.l.getD k 0).toNat : Int))))), (hM.fr.add f4), ?_⟩
          clear hM hall
          refine wcOf ?_
          refine wcRet ?_
          exact fun ac_ ha => hQ _ _ _ (results1 ha rfl rfl) ha.df (endS hC hw (by have hk32 := of_decide_eq_true h3; have e := hI; rw [drop_getD (d := 0) a.l k (by rw [a.h]; omega), drop_getD (d := 0) b.l k (by rw [b.h]; omega)] at e; simp only [lessB, h3, h4, cond_true, cond_false] at e; rw [← e]))

theorem rsame_ret (G0 : Gh) (w0 : World) (hw : Holds G0 w0) (vx : Value) (x : List Mark) (hx : Sl G0 vx x) (vy : Value) (y : List Mark) (hy : Sl G0 vy y) :
    RetS Try.prog 24 #[vx, vy] G0 w0 (.bool (decide (x = y))) := by
  have hC := Cx.refl hw
  have hB : Bxs G0 w0 w0.heap.size [] := Bxs.nil _ _ _
  obtain ⟨A1, cap2, rfl⟩ := hx.form
  obtain ⟨A3, cap4, rfl⟩ := hy.form
  refine callsOf Try.func24 rfl _ Try.ntmps24 rfl _ (argsCons (argsCons argsNil (t := 0) rfl) (t := 1) rfl) ?_; intro Q0 hQ
  refine wcSeq ?_
  refine wcRegion ?_
  refine wlVal (opAssign rfl) rfl ?_
  refine wlThen ?_
  refine wcSeq ?_
  refine wcSeq ?_
  refine wcRegion ?_
  refine wlVal (opMove rfl) rfl ?_
  refine wlVal (opLen rfl isl54) rfl ?_
  refine wlVal (opMove rfl) rfl ?_
  refine wlVal (opLen rfl isl54) rfl ?_
  refine wlVal (opNeq rfl rfl) rfl ?_
  refine wlThen ?_
  cases h5 : (((x.length : Nat) : Int)) != (((y.length : Nat) : Int))
  · skip
    refine wcCondF rfl ?_
    refine wcSkip ?_
    refine wcOf ?_
    refine wcSeq ?_
    refine wcSeq ?_
    refine wcRegion ?_
    refine wlVal (opAssign rfl) rfl ?_
    refine wlThen ?_
    refine wcBlock ?_
    refine WC.sub (wrInd (ι := Nat) (fun k => x.length - k) (fun k G w => Cx w0 G0 G w ∧ Bxs G w w0.heap.size [] ∧ Sl G (.slice A1 x.length cap2) x ∧ Sl G (.slice A3 y.length cap4) y ∧ k ≤ x.length ∧ x.take k = y.take k) (fun k => (((Env.nil.put 0 (.slice A1 x.length cap2)).put 1 (.slice A3 y.length cap4)).put 5 (.int .i64 (((k : Nat) : Int))))) ?_ (0) _ _ ⟨hC, hB, hx, hy, (by simp), rfl⟩) (fun _ ha => (((ha.start.cons ha (t := 0) rfl).cons ha (t := 1) rfl).cons ha (t := 5) rfl))
    rintro k G w N0 IH0 ⟨hC, hB, hx, hy, hk, hI⟩
    show WC _ _ _ _ (((Env.nil.put 0 (.slice A1 x.length cap2)).put 1 (.slice A3 y.length cap4)).put 5 (.int .i64 (((k : Nat) : Int)))) w
    refine wcSeq ?_
    refine wcSeq ?_
    refine wcRegion ?_
    refine wlVal (opMove rfl) rfl ?_
    refine wlVal (opMove rfl) rfl ?_
    refine wlVal (opLen rfl isl54) rfl ?_
    refine wlVal (opLssN rfl rfl) rfl ?_
    refine wlThen ?_
    cases h6 : decide (k < x.length)
    · skip
      refine wcCondF rfl ?_
      refine wcExit ?_
      refine wcOf ?_
      refine wcSeq ?_
      refine wcRegion ?_
      refine wlVal (opAssign rfl) rfl ?_
      refine wlThen ?_
      refine wcRet ?_
      exact fun ac_ ha => hQ _ _ _ (results1 ha rfl rfl) ha.df (endS hC hw (by have e1 := of_decide_eq_false h6; have e2 := h5; simp at e2; have e3 := hI; rw [List.take_of_length_le (by omega), List.take_of_length_le (by omega)] at e3; simp [e3]))
    · skip
      refine wcCondT rfl ?_
      refine wcSkip ?_
      refine wcOf ?_
      refine wcSeq ?_
      refine wcBlock ?_
      refine wcSeq ?_
      obtain ⟨x7, hx8⟩ : ∃ y_, x[k]? = some y_ := ⟨_, List.getElem?_eq_getElem (of_decide_eq_true h6)⟩
      obtain ⟨b9, o10, row11, hA14, hr12, hi13⟩ := hx.elem hx8; subst hA14
      obtain rfl := hi13
      obtain ⟨x15, hx16⟩ : ∃ y_, y[k]? = some y_ := ⟨_, List.getElem?_eq_getElem (by have e1 := of_decide_eq_true h6; have e2 := h5; simp at e2; omega)⟩
      obtain ⟨b17, o18, row19, hA22, hr20, hi21⟩ := hy.elem hx16; subst hA22
      obtain rfl := hi21
      refine wcDraw fmix (by kernel_rfl) (by kernel_rfl) (vAt [(fun _ v_ => v_ = (.slice (some ⟨b9, o10, none⟩) x.length cap2)), (fun _ v_ => v_ = (.int .i64 (((k : Nat) : Int)))), (fun _ v_ => v_ = (.pointer (some ⟨b9, o10 + k * 33, none⟩))), (fun _ v_ => v_ = (.agg x7.cells.toArray)), (fun _ v_ => v_ = (.slice (some ⟨b17, o18, none⟩) y.length cap4)), (fun _ v_ => v_ = (.int .i64 (((k : Nat) : Int)))), (fun _ v_ => v_ = (.pointer (some ⟨b17, o18 + k * 33, none⟩))), (fun _ v_ => v_ = (.agg x15.cells.toArray)), (fun _ v_ => v_ = (.bool (!(decide (x7 = x15)))))]) (fun _ _ G' w => Cx w0 G0 G' w ∧ Bxs G' w w0.heap.size [] ∧ GLe G G') G (vAt_mono ⟨fun _ _ _ _ h => h, fun _ _ _ _ h => h, fun _ _ _ _ h => h, fun _ _ _ _ h => h, fun _ _ _ _ h => h, fun _ _ _ _ h => h, fun _ _ _ _ h => h, fun _ _ _ _ h => h, fun _ _ _ _ h => h, trivial⟩) (fun _ _ => ⟨hC.drew, hB.drew, fun _ _ h => h⟩) ?_ ?_
      · refine dsNone (j := 1) rfl ?_ ?_
        · intro done G w ac_ hd hp hn ⟨hC, hB, hg⟩ hM
          have f0 : ac_.tmps[0]? = some (.slice (some ⟨b9, o10, none⟩) x.length cap2) := hM.old0 rfl rfl
          have hF : Fr 26 ac_ (Env.nil.put 0 (.slice (some ⟨b9, o10, none⟩) x.length cap2)) := (hM.fr.add f0)
          exact OpVal.draw hF (opMove rfl) ⟨G, fun _ _ h => h, ⟨hC, hB, hg⟩, rfl⟩
        refine dsNone (j := 2) rfl ?_ ?_
        · intro done G w ac_ hd hp hn ⟨hC, hB, hg⟩ hM
          have f5 : ac_.tmps[5]? = some (.int .i64 (((k : Nat) : Int))) := hM.old0 rfl rfl
          have hF : Fr 26 ac_ (Env.nil.put 5 (.int .i64 (((k : Nat) : Int)))) := (hM.fr.add f5)
          exact OpVal.draw hF (opMove rfl) ⟨G, fun _ _ h => h, ⟨hC, hB, hg⟩, rfl⟩
        refine dsNone (j := 3) rfl ?_ ?_
        · intro done G w ac_ hd hp hn ⟨hC, hB, hg⟩ hM
          have f17 : ac_.tmps[17]? = some (.slice (some ⟨b9, o10, none⟩) x.length cap2) := hM.eqv 0 rfl (hp 0 rfl) rfl rfl
          have f18 : ac_.tmps[18]? = some (.int .i64 (((k : Nat) : Int))) := hM.eqv 1 rfl (hp 1 rfl) rfl rfl
          have hF : Fr 26 ac_ ((Env.nil.put 17 (.slice (some ⟨b9, o10, none⟩) x.length cap2)).put 18 (.int .i64 (((k : Nat) : Int)))) := ((hM.fr.add f17).add f18)
          exact OpVal.draw hF (opIndexAddr rfl rfl slo54 (of_decide_eq_true h6)) ⟨G, fun _ _ h => h, ⟨hC, hB, hg⟩, rfl⟩
        refine dsNone (j := 4) rfl ?_ ?_
        · intro done G w ac_ hd hp hn ⟨hC, hB, hg⟩ hM
          replace hr12 := hr12.mono hg
          have f19 : ac_.tmps[19]? = some (.pointer (some ⟨b9, o10 + k * 33, none⟩)) := hM.eqv 2 rfl (hp 2 rfl) rfl rfl
          have hF : Fr 26 ac_ (Env.nil.put 19 (.pointer (some ⟨b9, o10 + k * 33, none⟩))) := (hM.fr.add f19)
          exact OpVal.draw hF (opLoadRow (cs := x7.cells) rfl (RowG.range hC.holds hr12) row28 (by simp [Mark.cells, Do.cells, Word.cells])) ⟨G, fun _ _ h => h, ⟨hC, hB, hg⟩, rfl⟩
        refine dsNone (j := 5) rfl ?_ ?_
        · intro done G w ac_ hd hp hn ⟨hC, hB, hg⟩ hM
          have f1 : ac_.tmps[1]? = some (.slice (some ⟨b17, o18, none⟩) y.length cap4) := hM.old0 rfl rfl
          have hF : Fr 26 ac_ (Env.nil.put 1 (.slice (some ⟨b17, o18, none⟩) y.length cap4)) := (hM.fr.add f1)
          exact OpVal.draw hF (opMove rfl) ⟨G, fun _ _ h => h, ⟨hC, hB, hg⟩, rfl⟩
        refine dsNone (j := 6) rfl ?_ ?_
        · intro done G w ac_ hd hp hn ⟨hC, hB, hg⟩ hM
          have f5 : ac_.tmps[5]? = some (.int .i64 (((k : Nat) : Int))) := hM.old0 rfl rfl
          have hF : Fr 26 ac_ (Env.nil.put 5 (.int .i64 (((k : Nat) : Int)))) := (hM.fr.add f5)
          exact OpVal.draw hF (opMove rfl) ⟨G, fun _ _ h => h, ⟨hC, hB, hg⟩, rfl⟩
        refine dsNone (j := 7) rfl ?_ ?_
        · intro done G w ac_ hd hp hn ⟨hC, hB, hg⟩ hM
          have f21 : ac_.tmps[21]? = some (.slice (some ⟨b17, o18, none⟩) y.length cap4) := hM.eqv 4 rfl (hp 4 rfl) rfl rfl
          have f22 : ac_.tmps[22]? = some (.int .i64 (((k : Nat) : Int))) := hM.eqv 5 rfl (hp 5 rfl) rfl rfl
          have hF : Fr 26 ac_ ((Env.nil.put 21 (.slice (some ⟨b17, o18, none⟩) y.length cap4)).put 22 (.int .i64 (((k : Nat) : Int)))) := ((hM.fr.add f21).add f22)
          exact OpVal.draw hF (opIndexAddr rfl rfl slo54 (by have e1 := of_decide_eq_true h6; have e2 := h5; simp at e2; omega)) ⟨G, fun _ _ h => h, ⟨hC, hB, hg⟩, rfl⟩
        refine dsNone (j := 8) rfl ?_ ?_
        · intro done G w ac_ hd hp hn ⟨hC, hB, hg⟩ hM
          replace hr20 := hr20.mono hg
          have f23 : ac_.tmps[23]? = some (.pointer (some ⟨b17, o18 + k * 33, none⟩)) := hM.eqv 6 rfl (hp 6 rfl) rfl rfl
          have hF : Fr 26 ac_ (Env.nil.put 23 (.pointer (some ⟨b17, o18 + k * 33, none⟩))) := (hM.fr.add f23)
          exact OpVal.draw hF (opLoadRow (cs := x15.cells) rfl (RowG.range hC.holds hr20) row28 (by simp [Mark.cells, Do.cells, Word.cells])) ⟨G, fun _ _ h => h, ⟨hC, hB, hg⟩, rfl⟩
        refine dsNone (j := 9) rfl ?_ ?_
        · intro done G w ac_ hd hp hn ⟨hC, hB, hg⟩ hM
          have f20 : ac_.tmps[20]? = some (.agg x7.cells.toArray) := hM.eqv 3 rfl (hp 3 rfl) rfl rfl
          have f24 : ac_.tmps[24]? = some (.agg x15.cells.toArray) := hM.eqv 7 rfl (hp 7 rfl) rfl rfl
          have hF : Fr 26 ac_ ((Env.nil.put 20 (.agg x7.cells.toArray)).put 24 (.agg x15.cells.toArray)) := ((hM.fr.add f20).add f24)
          exact OpVal.draw hF (opNeRow (eq28 _ x7 x15) eg28 rfl rfl) ⟨G, fun _ _ h => h, ⟨hC, hB, hg⟩, rfl⟩
        exact dsNil
      · intro done G w ac_ hall ⟨hC, hB, hg⟩ hM
        replace hx := hx.mono hg
        replace hy := hy.mono hg
        replace hr12 := hr12.mono hg
        replace hr20 := hr20.mono hg
        have f0 : ac_.tmps[0]? = some (.slice (some ⟨b9, o10, none⟩) x.length cap2) := hM.old0 rfl rfl
        have f1 : ac_.tmps[1]? = some (.slice (some ⟨b17, o18, none⟩) y.length cap4) := hM.old0 rfl rfl
        have f5 : ac_.tmps[5]? = some (.int .i64 (((k : Nat) : Int))) := hM.old0 rfl rfl
        have f25 : ac_.tmps[25]? = some (.bool (!(decide (x7 = x15)))) := hM.eqv 8 rfl (hall 8 (by decide)) rfl rfl
        refine ⟨((((Env.nil.put 0 (.slice (some ⟨b9, o10, none⟩) x.length cap2)).put 1 (.slice (some ⟨b17, o18, none⟩) y.length cap4)).put 5 (.int .i64 (((k : Nat) : Int)))).put 25 (.bool (!(decide (x7 = x15))))), ((((hM.fr.add f0).add f1).add f5).add f25), ?_⟩
        clear hM hall
        refine wcOf ?_
        cases h23 : decide (x7 = x15)
        · skip
          refine wcCondT rfl ?_
          refine wcSeq ?_
          refine wcRegion ?_
          refine wlVal (opAssign rfl) rfl ?_
          refine wlThen ?_
          refine wcRet ?_
          exact fun ac_ ha => hQ _ _ _ (results1 ha rfl rfl) ha.df (endS hC hw (by have e1 := h23; simp at e1; symm; simp; rintro rfl; exact e1 (Option.some.inj (hx8.symm.trans hx16))))
        · skip
          refine wcCondF rfl ?_
          refine wcSkip ?_
          refine wcOf ?_
          refine wcRegion ?_
          refine wlVal (opMove rfl) rfl ?_
          refine wlVal (opIncr rfl rfl (incr_ok (of_decide_eq_true h6) hx.le)) rfl ?_
          refine wlVal (opAssign rfl) rfl ?_
          refine wlRound ?_
          exact (IH0 (k + 1) _ _ ⟨hC, hB, hx, hy, (of_decide_eq_true h6), (by have e1 := h23; simp at e1; rw [List.take_add_one, List.take_add_one, hI, hx8, hx16, e1])⟩ (by have := of_decide_eq_true h6; simp; omega)).sub (fun _ ha => (((ha.start.cons ha (t := 0) rfl).cons ha (t := 1) rfl).cons ha (t := 5) rfl))
  · skip
    refine wcCondT rfl ?_
    refine wcSeq ?_
    refine wcRegion ?_
    refine wlVal (opAssign rfl) rfl ?_
    refine wlThen ?_
    refine wcRet ?_
    exact fun ac_ ha => hQ _ _ _ (results1 ha rfl rfl) ha.df (endS hC hw (by simp at h5; symm; simp; rintro rfl; exact h5 rfl))

theorem rcheck_ret (G0 : Gh) (w0 : World) (hw : Holds G0 w0) (csc : List Value) (c : Crew) (hc : Rp.Is G0 csc c) :
    RetS Try.prog 30 #[.agg csc.toArray] G0 w0 (.int .i64 (check c)) := by
  have hC := Cx.refl hw
  have hB : Bxs G0 w0 w0.heap.size [] := Bxs.nil _ _ _
  obtain ⟨v1, rfl, hs2⟩ := Crew.opIs hc
  obtain ⟨A3, cap4, rfl⟩ := hs2.form
  refine callsOf Try.func30 rfl _ Try.ntmps30 rfl _ (argsCons argsNil (t := 0) rfl) ?_; intro Q0 hQ
  refine wcSeq ?_
  refine wcRegion ?_
  refine wlBox (cs := [(.int .i64 c.faults), (.slice A3 c.nodes.length cap4)]) hC hB rfl rfl rfl ?_; intro b5 w hk hC hB
  refine wlVal (opAssign rfl) rfl ?_
  refine wlThen ?_
  refine wcSeq ?_
  refine wcSeq ?_
  refine wcRegion ?_
  refine wlVal (opFieldAddr rfl fo24_0) rfl ?_
  refine wlVal (opLoadOne (v := (.int .i64 c.faults)) rfl (hB.cell (i := 0) rfl rfl) one3) rfl ?_
  refine wlVal (opLss rfl rfl) rfl ?_
  refine wlVal (opMove rfl) rfl ?_
  cases h6 : decide (c.faults < 0)
  · skip
    refine wlOn rfl rfl ?_
    refine wlVal (opFieldAddr rfl fo24_0) rfl ?_
    refine wlOn rfl rfl ?_
    refine wlVal (opLoadOne (v := (.int .i64 c.faults)) rfl (hB.cell (i := 0) rfl rfl) one3) rfl ?_
    refine wlOn rfl rfl ?_
    refine wlVal (opGtr rfl rfl) rfl ?_
    refine wlVal (opPickF rfl rfl) rfl ?_
    refine wlVal (opMove rfl) rfl ?_
    cases h7 : decide (2 < c.faults)
    · skip
      refine wlOn rfl rfl ?_
      refine wlVal (opFieldAddr rfl fo24_1) rfl ?_
      refine wlOn rfl rfl ?_
      refine wlVal (opLoadOne (v := (.slice A3 c.nodes.length cap4)) rfl (hB.cell (i := 0) rfl rfl) one22) rfl ?_
      refine wlOn rfl rfl ?_
      refine wlVal (opLen rfl isl22) rfl ?_
      refine wlOn rfl rfl ?_
      refine wlVal (opFieldAddr rfl fo24_0) rfl ?_
      refine wlOn rfl rfl ?_
      refine wlVal (opLoadOne (v := (.int .i64 c.faults)) rfl (hB.cell (i := 0) rfl rfl) one3) rfl ?_
      refine wlOn rfl rfl ?_
      refine wlVal (opMul rfl rfl) rfl ?_
      refine wlOn rfl rfl ?_
      refine wlVal (opAdd rfl rfl) rfl ?_
      refine wlOn rfl rfl ?_
      refine wlVal (opNeq rfl rfl) rfl ?_
      refine wlVal (opPickF rfl rfl) rfl ?_
      refine wlThen ?_
      cases h8 : (((c.nodes.length : Nat) : Int)) != (IntKind.wrap .i64 (IntKind.wrap .i64 (3 * c.faults) + 1))
      · skip
        refine wcCondF rfl ?_
        refine wcSkip ?_
        refine wcOf ?_
        refine wcSeq ?_
        refine wcSeq ?_
        refine wcRegion ?_
        refine wlVal (opAssign rfl) rfl ?_
        refine wlThen ?_
        refine wcBlock ?_
        refine WC.sub (wrInd (ι := Nat) (fun k => c.nodes.length - k) (fun k G w => Cx w0 G0 G w ∧ Bxs G w w0.heap.size [(b5, 24, [(.int .i64 c.faults), (.slice A3 c.nodes.length cap4)])] ∧ Sl G (.slice A3 c.nodes.length cap4) c.nodes ∧ risesB (prevI c.nodes k) (c.nodes.drop k) = risesB 0 c.nodes) (fun k => ((Env.nil.put 1 (.pointer (some ⟨b5, 0, none⟩))).put 3 (.int .i64 (((k : Nat) : Int))))) ?_ (0) _ _ ⟨hC, hB, hs2, rfl⟩) (fun _ ha => ((ha.start.cons ha (t := 1) rfl).cons ha (t := 3) rfl))
        rintro k G w N0 IH0 ⟨hC, hB, hs2, hI⟩
        show WC _ _ _ _ ((Env.nil.put 1 (.pointer (some ⟨b5, 0, none⟩))).put 3 (.int .i64 (((k : Nat) : Int)))) w
        refine wcSeq ?_
        refine wcSeq ?_
        refine wcRegion ?_
        refine wlVal (opMove rfl) rfl ?_
        refine wlVal (opFieldAddr rfl fo24_1) rfl ?_
        refine wlVal (opLoadOne (v := (.slice A3 c.nodes.length cap4)) rfl (hB.cell (i := 0) rfl rfl) one22) rfl ?_
        refine wlVal (opLen rfl isl22) rfl ?_
        refine wlVal (opLssN rfl rfl) rfl ?_
        refine wlThen ?_
        cases h9 : decide (k < c.nodes.length)
        · skip
          refine wcCondF rfl ?_
          refine wcExit ?_
          refine wcOf ?_
          refine wcSeq ?_
          refine wcRegion ?_
          refine wlVal (opAssign rfl) rfl ?_
          refine wlThen ?_
          refine wcRet ?_
          exact fun ac_ ha => hQ _ _ _ (results1 ha rfl rfl) ha.df (endS hC hw (by have e := hI; rw [List.drop_eq_nil_of_le (Nat.le_of_not_lt (of_decide_eq_false h9))] at e; simp [risesB, h6, h7, h8, h9] at e; first | (simp [check, h6, h7, h8, h9, e]; done) | (simp at e)))
        · skip
          refine wcCondT rfl ?_
          refine wcSkip ?_
          refine wcOf ?_
          refine wcSeq ?_
          refine wcBlock ?_
          refine wcSeq ?_
          obtain ⟨x10, hx11⟩ : ∃ y_, c.nodes[k]? = some y_ := ⟨_, List.getElem?_eq_getElem (of_decide_eq_true h9)⟩
          obtain ⟨b12, o13, row14, hA17, hr15, hi16⟩ := hs2.elem hx11; subst hA17
          obtain rfl := hi16
          cases h18 : (nodeB x10)
          · skip
            refine wcDraw fmix (by kernel_rfl) (by kernel_rfl) (vAt [(fun _ v_ => v_ = (.pointer (some ⟨b5, 1, none⟩))), (fun _ v_ => v_ = (.slice (some ⟨b12, o13, none⟩) c.nodes.length cap4)), (fun _ v_ => v_ = (.int .i64 (((k : Nat) : Int)))), (fun _ v_ => v_ = (.pointer (some ⟨b12, o13 + k * 1, none⟩))), (fun _ v_ => v_ = (.int .i64 x10)), (fun _ v_ => v_ = (.bool false)), (fun _ v_ => v_ = (.bool true)), (fun _ v_ => v_ = (.bool true)), (fun _ v_ => v_ = undef), (fun _ v_ => v_ = undef), (fun _ v_ => v_ = undef), (fun _ v_ => v_ = undef), (fun _ v_ => v_ = undef), (fun _ v_ => v_ = undef), (fun _ v_ => v_ = undef), (fun _ v_ => v_ = undef), (fun _ v_ => v_ = undef), (fun _ v_ => v_ = undef), (fun _ v_ => v_ = undef), (fun _ v_ => v_ = undef), (fun _ v_ => v_ = undef), (fun _ v_ => v_ = undef), (fun _ v_ => v_ = undef), (fun _ v_ => v_ = undef), (fun _ v_ => v_ = (.bool true))]) (fun _ _ G' w => Cx w0 G0 G' w ∧ Bxs G' w w0.heap.size [(b5, 24, [(.int .i64 c.faults), (.slice (some ⟨b12, o13, none⟩) c.nodes.length cap4)])] ∧ GLe G G') G (vAt_mono ⟨fun _ _ _ _ h => h, fun _ _ _ _ h => h, fun _ _ _ _ h => h, fun _ _ _ _ h => h, fun _ _ _ _ h => h, fun _ _ _ _ h => h, fun _ _ _ _ h => h, fun _ _ _ _ h => h, fun _ _ _ _ h => h, fun _ _ _ _ h => h, fun _ _ _ _ h => h, fun _ _ _ _ h => h, fun _ _ _ _ h => h, fun _ _ _ _ h => h, fun _ _ _ _ h => h, fun _ _ _ _ h => h, fun _ _ _ _ h => h, fun _ _ _ _ h => h, fun _ _ _ _ h => h, fun _ _ _ _ h => h, fun _ _ _ _ h => h, fun _ _ _ _ h => h, fun _ _ _ _ h => h, fun _ _ _ _ h => h, fun _ _ _ _ h => h, trivial⟩) (fun _ _ => ⟨hC.drew, hB.drew, fun _ _ h => h⟩) ?_ ?_
            · refine dsNone (j := 1) rfl ?_ ?_
              · intro done G w ac_ hd hp hn ⟨hC, hB, hg⟩ hM
                have f1 : ac_.tmps[1]? = some (.pointer (some ⟨b5, 0, none⟩)) := hM.old0 rfl rfl
                have hF : Fr 54 ac_ (Env.nil.put 1 (.pointer (some ⟨b5, 0, none⟩))) := (hM.fr.add f1)
                exact OpVal.draw hF (opFieldAddr rfl fo24_1) ⟨G, fun _ _ h => h, ⟨hC, hB, hg⟩, rfl⟩
              refine dsNone (j := 2) rfl ?_ ?_
              · intro done G w ac_ hd hp hn ⟨hC, hB, hg⟩ hM
                have f29 : ac_.tmps[29]? = some (.pointer (some ⟨b5, 1, none⟩)) := hM.eqv 0 rfl (hp 0 rfl) rfl rfl
                have hF : Fr 54 ac_ (Env.nil.put 29 (.pointer (some ⟨b5, 1, none⟩))) := (hM.fr.add f29)
                exact OpVal.draw hF (opLoadOne (v := (.slice (some ⟨b12, o13, none⟩) c.nodes.length cap4)) rfl (hB.cell (i := 0) rfl rfl) one22) ⟨G, fun _ _ h => h, ⟨hC, hB, hg⟩, rfl⟩
              refine dsNone (j := 3) rfl ?_ ?_
              · intro done G w ac_ hd hp hn ⟨hC, hB, hg⟩ hM
                have f3 : ac_.tmps[3]? = some (.int .i64 (((k : Nat) : Int))) := hM.old0 rfl rfl
                have hF : Fr 54 ac_ (Env.nil.put 3 (.int .i64 (((k : Nat) : Int)))) := (hM.fr.add f3)
                exact OpVal.draw hF (opMove rfl) ⟨G, fun _ _ h => h, ⟨hC, hB, hg⟩, rfl⟩
              refine dsNone (j := 4) rfl ?_ ?_
              · intro done G w ac_ hd hp hn ⟨hC, hB, hg⟩ hM
                have f30 : ac_.tmps[30]? = some (.slice (some ⟨b12, o13, none⟩) c.nodes.length cap4) := hM.eqv 1 rfl (hp 1 rfl) rfl rfl
                have f31 : ac_.tmps[31]? = some (.int .i64 (((k : Nat) : Int))) := hM.eqv 2 rfl (hp 2 rfl) rfl rfl
                have hF : Fr 54 ac_ ((Env.nil.put 30 (.slice (some ⟨b12, o13, none⟩) c.nodes.length cap4)).put 31 (.int .i64 (((k : Nat) : Int)))) := ((hM.fr.add f30).add f31)
                exact OpVal.draw hF (opIndexAddr rfl rfl slo22 (of_decide_eq_true h9)) ⟨G, fun _ _ h => h, ⟨hC, hB, hg⟩, rfl⟩
              refine dsNone (j := 5) rfl ?_ ?_
              · intro done G w ac_ hd hp hn ⟨hC, hB, hg⟩ hM
                replace hr15 := hr15.mono hg
                have f32 : ac_.tmps[32]? = some (.pointer (some ⟨b12, o13 + k * 1, none⟩)) := hM.eqv 3 rfl (hp 3 rfl) rfl rfl
                have hF : Fr 54 ac_ (Env.nil.put 32 (.pointer (some ⟨b12, o13 + k * 1, none⟩))) := (hM.fr.add f32)
                exact OpVal.draw hF (opLoadOne (v := (.int .i64 x10)) rfl (RowG.cell0 hC.holds hr15 rfl) one3) ⟨G, fun _ _ h => h, ⟨hC, hB, hg⟩, rfl⟩
              refine dsNone (j := 6) rfl ?_ ?_
              · intro done G w ac_ hd hp hn ⟨hC, hB, hg⟩ hM
                have f33 : ac_.tmps[33]? = some (.int .i64 x10) := hM.eqv 4 rfl (hp 4 rfl) rfl rfl
                have hF : Fr 54 ac_ (Env.nil.put 33 (.int .i64 x10)) := (hM.fr.add f33)
                exact drawCallS hF rfl co50 rfl (RetS.cast (rnode_ret _ _ hC.holds x10) (congrArg Value.bool h18)) (fun w' hk => ⟨G, fun _ _ h => h, ⟨hC.trans hk, hB.ext hk, hg⟩, rfl⟩)
              refine dsNone (j := 7) rfl ?_ ?_
              · intro done G w ac_ hd hp hn ⟨hC, hB, hg⟩ hM
                have f34 : ac_.tmps[34]? = some (.bool false) := hM.eqv 5 rfl (hp 5 rfl) rfl rfl
                have hF : Fr 54 ac_ (Env.nil.put 34 (.bool false)) := (hM.fr.add f34)
                exact OpVal.draw hF (opNot rfl) ⟨G, fun _ _ h => h, ⟨hC, hB, hg⟩, rfl⟩
              refine dsNone (j := 8) rfl ?_ ?_
              · intro done G w ac_ hd hp hn ⟨hC, hB, hg⟩ hM
                have f35 : ac_.tmps[35]? = some (.bool true) := hM.eqv 6 rfl (hp 6 rfl) rfl rfl
                have hF : Fr 54 ac_ (Env.nil.put 35 (.bool true)) := (hM.fr.add f35)
                exact OpVal.draw hF (opMove rfl) ⟨G, fun _ _ h => h, ⟨hC, hB, hg⟩, rfl⟩
              refine dsOff (j := 9) (b' := true) rfl rfl rfl ?_ ?_
              · intro done G w ac_ hd hp hn ⟨hC, hB, hg⟩ hM
                have f36 : ac_.tmps[36]? = some (.bool true) := hM.eqv 7 rfl (hp 7 rfl) rfl rfl
                exact ⟨f36, ⟨hC, hB, hg⟩, rfl⟩
              refine dsOff (j := 10) (b' := true) rfl rfl rfl ?_ ?_
              · intro done G w ac_ hd hp hn ⟨hC, hB, hg⟩ hM
                have f36 : ac_.tmps[36]? = some (.bool true) := hM.eqv 7 rfl (hp 7 rfl) rfl rfl
                exact ⟨f36, ⟨hC, hB, hg⟩, rfl⟩
              refine dsOff (j := 11) (b' := true) rfl rfl rfl ?_ ?_
              · intro done G w ac_ hd hp hn ⟨hC, hB, hg⟩ hM
                have f36 : ac_.tmps[36]? = some (.bool true) := hM.eqv 7 rfl (hp 7 rfl) rfl rfl
                exact ⟨f36, ⟨hC, hB, hg⟩, rfl⟩
              refine dsOffU (j := 12) rfl rfl ?_ ?_
              · intro done G w ac_ hd hp hn ⟨hC, hB, hg⟩ hM
                have f39 : ac_.tmps[39]? = some undef := hM.eqv 10 rfl (hp 10 rfl) rfl rfl
                exact ⟨f39, ⟨hC, hB, hg⟩, rfl⟩
              refine dsOffU (j := 13) rfl rfl ?_ ?_
              · intro done G w ac_ hd hp hn ⟨hC, hB, hg⟩ hM
                have f39 : ac_.tmps[39]? = some undef := hM.eqv 10 rfl (hp 10 rfl) rfl rfl
                exact ⟨f39, ⟨hC, hB, hg⟩, rfl⟩
              refine dsOffU (j := 14) rfl rfl ?_ ?_
              · intro done G w ac_ hd hp hn ⟨hC, hB, hg⟩ hM
                have f39 : ac_.tmps[39]? = some undef := hM.eqv 10 rfl (hp 10 rfl) rfl rfl
                exact ⟨f39, ⟨hC, hB, hg⟩, rfl⟩
              refine dsOffU (j := 15) rfl rfl ?_ ?_
              · intro done G w ac_ hd hp hn ⟨hC, hB, hg⟩ hM
                have f39 : ac_.tmps[39]? = some undef := hM.eqv 10 rfl (hp 10 rfl) rfl rfl
                exact ⟨f39, ⟨hC, hB, hg⟩, rfl⟩
              refine dsOffU (j := 16) rfl rfl ?_ ?_
              · intro done G w ac_ hd hp hn ⟨hC, hB, hg⟩ hM
                have f39 : ac_.tmps[39]? = some undef := hM.eqv 10 rfl (hp 10 rfl) rfl rfl
                exact ⟨f39, ⟨hC, hB, hg⟩, rfl⟩
              refine dsOffU (j := 17) rfl rfl ?_ ?_
              · intro done G w ac_ hd hp hn ⟨hC, hB, hg⟩ hM
                have f39 : ac_.tmps[39]? = some undef := hM.eqv 10 rfl (hp 10 rfl) rfl rfl
                exact ⟨f39, ⟨hC, hB, hg⟩, rfl⟩
              refine dsOffU (j := 18) rfl rfl ?_ ?_
              · intro done G w ac_ hd hp hn ⟨hC, hB, hg⟩ hM
                have f39 : ac_.tmps[39]? = some undef := hM.eqv 10 rfl (hp 10 rfl) rfl rfl
                exact ⟨f39, ⟨hC, hB, hg⟩, rfl⟩
              refine dsOffU (j := 19) rfl rfl ?_ ?_
              · intro done G w ac_ hd hp hn ⟨hC, hB, hg⟩ hM
                have f39 : ac_.tmps[39]? = some undef := hM.eqv 10 rfl (hp 10 rfl) rfl rfl
                exact ⟨f39, ⟨hC, hB, hg⟩, rfl⟩
              refine dsOffU (j := 20) rfl rfl ?_ ?_
              · intro done G w ac_ hd hp hn ⟨hC, hB, hg⟩ hM
                have f39 : ac_.tmps[39]? = some undef := hM.eqv 10 rfl (hp 10 rfl) rfl rfl
                exact ⟨f39, ⟨hC, hB, hg⟩, rfl⟩
              refine dsOffU (j := 21) rfl rfl ?_ ?_
              · intro done G w ac_ hd hp hn ⟨hC, hB, hg⟩ hM
                have f39 : ac_.tmps[39]? = some undef := hM.eqv 10 rfl (hp 10 rfl) rfl rfl
                exact ⟨f39, ⟨hC, hB, hg⟩, rfl⟩
              refine dsOffU (j := 22) rfl rfl ?_ ?_
              · intro done G w ac_ hd hp hn ⟨hC, hB, hg⟩ hM
                have f39 : ac_.tmps[39]? = some undef := hM.eqv 10 rfl (hp 10 rfl) rfl rfl
                exact ⟨f39, ⟨hC, hB, hg⟩, rfl⟩
              refine dsOffU (j := 23) rfl rfl ?_ ?_
              · intro done G w ac_ hd hp hn ⟨hC, hB, hg⟩ hM
                have f39 : ac_.tmps[39]? = some undef := hM.eqv 10 rfl (hp 10 rfl) rfl rfl
                exact ⟨f39, ⟨hC, hB, hg⟩, rfl⟩
              refine dsOff (j := 24) (b' := true) rfl rfl rfl ?_ ?_
              · intro done G w ac_ hd hp hn ⟨hC, hB, hg⟩ hM
                have f36 : ac_.tmps[36]? = some (.bool true) := hM.eqv 7 rfl (hp 7 rfl) rfl rfl
                exact ⟨f36, ⟨hC, hB, hg⟩, rfl⟩
              refine dsNone (j := 25) rfl ?_ ?_
              · intro done G w ac_ hd hp hn ⟨hC, hB, hg⟩ hM
                have f36 : ac_.tmps[36]? = some (.bool true) := hM.eqv 7 rfl (hp 7 rfl) rfl rfl
                have f52 : ac_.tmps[52]? = some undef := hM.eqv 23 rfl (hp 23 rfl) rfl rfl
                have hF : Fr 54 ac_ ((Env.nil.put 36 (.bool true)).put 52 undef) := ((hM.fr.add f36).add f52)
                exact OpVal.draw hF (opPickT rfl rfl) ⟨G, fun _ _ h => h, ⟨hC, hB, hg⟩, rfl⟩
              exact dsNil
            · intro done G w ac_ hall ⟨hC, hB, hg⟩ hM
              replace hs2 := hs2.mono hg
              replace hr15 := hr15.mono hg
              have f1 : ac_.tmps[1]? = some (.pointer (some ⟨b5, 0, none⟩)) := hM.old0 rfl rfl
              have f3 : ac_.tmps[3]? = some (.int .i64 (((k : Nat) : Int))) := hM.old0 rfl rfl
              have f53 : ac_.tmps[53]? = some (.bool true) := hM.eqv 24 rfl (hall 24 (by decide)) rfl rfl
              refine ⟨(((Env.nil.put 1 (.pointer (some ⟨b5, 0, none⟩))).put 3 (.int .i64 (((k : Nat) : Int)))).put 53 (.bool true)), (((hM.fr.add f1).add f3).add f53), ?_⟩
              clear hM hall
              refine wcOf ?_
              refine wcCondT rfl ?_
              refine wcSeq ?_
              refine wcRegion ?_
              refine wlVal (opAssign rfl) rfl ?_
              refine wlThen ?_
              refine wcRet ?_
              exact fun ac_ ha => hQ _ _ _ (results1 ha rfl rfl) ha.df (endS hC hw (by have e := hI; rw [drop_get hx11] at e; simp [risesB, h6, h7, h8, h9, h18] at e; first | (simp [check, h6, h7, h8, h9, h18, e]; done) | (simp at e)))
          · skip
            cases h19 : decide (0 < ((k : Nat) : Int))
            · skip
              refine wcDraw fmix (by kernel_rfl) (by kernel_rfl) (vAt [(fun _ v_ => v_ = (.pointer (some ⟨b5, 1, none⟩))), (fun _ v_ => v_ = (.slice (some ⟨b12, o13, none⟩) c.nodes.length cap4)), (fun _ v_ => v_ = (.int .i64 (((k : Nat) : Int)))), (fun _ v_ => v_ = (.pointer (some ⟨b12, o13 + k * 1, none⟩))), (fun _ v_ => v_ = (.int .i64 x10)), (fun _ v_ => v_ = (.bool true)), (fun _ v_ => v_ = (.bool false)), (fun _ v_ => v_ = (.bool false)), (fun _ v_ => v_ = (.int .i64 (((k : Nat) : Int)))), (fun _ v_ => v_ = (.bool false)), (fun _ v_ => v_ = (.bool false)), (fun _ v_ => v_ = undef), (fun _ v_ => v_ = undef), (fun _ v_ => v_ = undef), (fun _ v_ => v_ = undef), (fun _ v_ => v_ = undef), (fun _ v_ => v_ = undef), (fun _ v_ => v_ = undef), (fun _ v_ => v_ = undef), (fun _ v_ => v_ = undef), (fun _ v_ => v_ = undef), (fun _ v_ => v_ = undef), (fun _ v_ => v_ = undef), (fun _ v_ => v_ = (.bool false)), (fun _ v_ => v_ = (.bool false))]) (fun _ _ G' w => Cx w0 G0 G' w ∧ Bxs G' w w0.heap.size [(b5, 24, [(.int .i64 c.faults), (.slice (some ⟨b12, o13, none⟩) c.nodes.length cap4)])] ∧ GLe G G') G (vAt_mono ⟨fun _ _ _ _ h => h, fun _ _ _ _ h => h, fun _ _ _ _ h => h, fun _ _ _ _ h => h, fun _ _ _ _ h => h, fun _ _ _ _ h => h, fun _ _ _ _ h => h, fun _ _ _ _ h => h, fun _ _ _ _ h => h, fun _ _ _ _ h => h, fun _ _ _ _ h => h, fun _ _ _ _ h => h, fun _ _ _ _ h => h, fun _ _ _ _ h => h, fun _ _ _ _ h => h, fun _ _ _ _ h => h, fun _ _ _ _ h => h, fun _ _ _ _ h => h, fun _ _ _ _ h => h, fun _ _ _ _ h => h, fun _ _ _ _ h => h, fun _ _ _ _ h => h, fun _ _ _ _ h => h, fun _ _ _ _ h => h, fun _ _ _ _ h => h, trivial⟩) (fun _ _ => ⟨hC.drew, hB.drew, fun _ _ h => h⟩) ?_ ?_
              · refine dsNone (j := 1) rfl ?_ ?_
                · intro done G w ac_ hd hp hn ⟨hC, hB, hg⟩ hM
                  have f1 : ac_.tmps[1]? = some (.pointer (some ⟨b5, 0, none⟩)) := hM.old0 rfl rfl
                  have hF : Fr 54 ac_ (Env.nil.put 1 (.pointer (some ⟨b5, 0, none⟩))) := (hM.fr.add f1)
                  exact OpVal.draw hF (opFieldAddr rfl fo24_1) ⟨G, fun _ _ h => h, ⟨hC, hB, hg⟩, rfl⟩
                refine dsNone (j := 2) rfl ?_ ?_
                · intro done G w ac_ hd hp hn ⟨hC, hB, hg⟩ hM
                  have f29 : ac_.tmps[29]? = some (.pointer (some ⟨b5, 1, none⟩)) := hM.eqv 0 rfl (hp 0 rfl) rfl rfl
                  have hF : Fr 54 ac_ (Env.nil.put 29 (.pointer (some ⟨b5, 1, none⟩))) := (hM.fr.add f29)
                  exact OpVal.draw hF (opLoadOne (v := (.slice (some ⟨b12, o13, none⟩) c.nodes.length cap4)) rfl (hB.cell (i := 0) rfl rfl) one22) ⟨G, fun _ _ h => h, ⟨hC, hB, hg⟩, rfl⟩
                refine dsNone (j := 3) rfl ?_ ?_
                · intro done G w ac_ hd hp hn ⟨hC, hB, hg⟩ hM
                  have f3 : ac_.tmps[3]? = some (.int .i64 (((k : Nat) : Int))) := hM.old0 rfl rfl
                  have hF : Fr 54 ac_ (Env.nil.put 3 (.int .i64 (((k : Nat) : Int)))) := (hM.fr.add f3)
                  exact OpVal.draw hF (opMove rfl) ⟨G, fun _ _ h => h, ⟨hC, hB, hg⟩, rfl⟩
                refine dsNone (j := 4) rfl ?_ ?_
                · intro done G w ac_ hd hp hn ⟨hC, hB, hg⟩ hM
                  have f30 : ac_.tmps[30]? = some (.slice (some ⟨b12, o13, none⟩) c.nodes.length cap4) := hM.eqv 1 rfl (hp 1 rfl) rfl rfl
                  have f31 : ac_.tmps[31]? = some (.int .i64 (((k : Nat) : Int))) := hM.eqv 2 rfl (hp 2 rfl) rfl rfl
                  have hF : Fr 54 ac_ ((Env.nil.put 30 (.slice (some ⟨b12, o13, none⟩) c.nodes.length cap4)).put 31 (.int .i64 (((k : Nat) : Int)))) := ((hM.fr.add f30).add f31)
                  exact OpVal.draw hF (opIndexAddr rfl rfl slo22 (of_decide_eq_true h9)) ⟨G, fun _ _ h => h, ⟨hC, hB, hg⟩, rfl⟩
                refine dsNone (j := 5) rfl ?_ ?_
                · intro done G w ac_ hd hp hn ⟨hC, hB, hg⟩ hM
                  replace hr15 := hr15.mono hg
                  have f32 : ac_.tmps[32]? = some (.pointer (some ⟨b12, o13 + k * 1, none⟩)) := hM.eqv 3 rfl (hp 3 rfl) rfl rfl
                  have hF : Fr 54 ac_ (Env.nil.put 32 (.pointer (some ⟨b12, o13 + k * 1, none⟩))) := (hM.fr.add f32)
                  exact OpVal.draw hF (opLoadOne (v := (.int .i64 x10)) rfl (RowG.cell0 hC.holds hr15 rfl) one3) ⟨G, fun _ _ h => h, ⟨hC, hB, hg⟩, rfl⟩
                refine dsNone (j := 6) rfl ?_ ?_
                · intro done G w ac_ hd hp hn ⟨hC, hB, hg⟩ hM
                  have f33 : ac_.tmps[33]? = some (.int .i64 x10) := hM.eqv 4 rfl (hp 4 rfl) rfl rfl
                  have hF : Fr 54 ac_ (Env.nil.put 33 (.int .i64 x10)) := (hM.fr.add f33)
                  exact drawCallS hF rfl co50 rfl (RetS.cast (rnode_ret _ _ hC.holds x10) (congrArg Value.bool h18)) (fun w' hk => ⟨G, fun _ _ h => h, ⟨hC.trans hk, hB.ext hk, hg⟩, rfl⟩)
                refine dsNone (j := 7) rfl ?_ ?_
                · intro done G w ac_ hd hp hn ⟨hC, hB, hg⟩ hM
                  have f34 : ac_.tmps[34]? = some (.bool true) := hM.eqv 5 rfl (hp 5 rfl) rfl rfl
                  have hF : Fr 54 ac_ (Env.nil.put 34 (.bool true)) := (hM.fr.add f34)
                  exact OpVal.draw hF (opNot rfl) ⟨G, fun _ _ h => h, ⟨hC, hB, hg⟩, rfl⟩
                refine dsNone (j := 8) rfl ?_ ?_
                · intro done G w ac_ hd hp hn ⟨hC, hB, hg⟩ hM
                  have f35 : ac_.tmps[35]? = some (.bool false) := hM.eqv 6 rfl (hp 6 rfl) rfl rfl
                  have hF : Fr 54 ac_ (Env.nil.put 35 (.bool false)) := (hM.fr.add f35)
                  exact OpVal.draw hF (opMove rfl) ⟨G, fun _ _ h => h, ⟨hC, hB, hg⟩, rfl⟩
                refine dsOn (j := 9) rfl rfl ?_ ?_
                · intro done G w ac_ hd hp hn ⟨hC, hB, hg⟩ hM
                  have f3 : ac_.tmps[3]? = some (.int .i64 (((k : Nat) : Int))) := hM.old0 rfl rfl
                  have f36 : ac_.tmps[36]? = some (.bool false) := hM.eqv 7 rfl (hp 7 rfl) rfl rfl
                  refine ⟨f36, ?_⟩
                  have hF : Fr 54 ac_ (Env.nil.put 3 (.int .i64 (((k : Nat) : Int)))) := (hM.fr.add f3)
                  exact OpVal.draw hF (opMove rfl) ⟨G, fun _ _ h => h, ⟨hC, hB, hg⟩, rfl⟩
                refine dsOn (j := 10) rfl rfl ?_ ?_
                · intro done G w ac_ hd hp hn ⟨hC, hB, hg⟩ hM
                  have f37 : ac_.tmps[37]? = some (.int .i64 (((k : Nat) : Int))) := hM.eqv 8 rfl (hp 8 rfl) rfl rfl
                  have f36 : ac_.tmps[36]? = some (.bool false) := hM.eqv 7 rfl (hp 7 rfl) rfl rfl
                  refine ⟨f36, ?_⟩
                  have hF : Fr 54 ac_ (Env.nil.put 37 (.int .i64 (((k : Nat) : Int)))) := (hM.fr.add f37)
                  exact OpVal.draw hF (OpVal.cast (opGtr rfl rfl) (congrArg Value.bool h19)) ⟨G, fun _ _ h => h, ⟨hC, hB, hg⟩, rfl⟩
                refine dsOn (j := 11) rfl rfl ?_ ?_
                · intro done G w ac_ hd hp hn ⟨hC, hB, hg⟩ hM
                  have f38 : ac_.tmps[38]? = some (.bool false) := hM.eqv 9 rfl (hp 9 rfl) rfl rfl
                  have f36 : ac_.tmps[36]? = some (.bool false) := hM.eqv 7 rfl (hp 7 rfl) rfl rfl
                  refine ⟨f36, ?_⟩
                  have hF : Fr 54 ac_ (Env.nil.put 38 (.bool false)) := (hM.fr.add f38)
                  exact OpVal.draw hF (opMove rfl) ⟨G, fun _ _ h => h, ⟨hC, hB, hg⟩, rfl⟩
                refine dsOff (j := 12) (b' := false) rfl rfl rfl ?_ ?_
                · intro done G w ac_ hd hp hn ⟨hC, hB, hg⟩ hM
                  have f39 : ac_.tmps[39]? = some (.bool false) := hM.eqv 10 rfl (hp 10 rfl) rfl rfl
                  exact ⟨f39, ⟨hC, hB, hg⟩, rfl⟩
                refine dsOff (j := 13) (b' := false) rfl rfl rfl ?_ ?_
                · intro done G w ac_ hd hp hn ⟨hC, hB, hg⟩ hM
                  have f39 : ac_.tmps[39]? = some (.bool false) := hM.eqv 10 rfl (hp 10 rfl) rfl rfl
                  exact ⟨f39, ⟨hC, hB, hg⟩, rfl⟩
                refine dsOff (j := 14) (b' := false) rfl rfl rfl ?_ ?_
                · intro done G w ac_ hd hp hn ⟨hC, hB, hg⟩ hM
                  have f39 : ac_.tmps[39]? = some (.bool false) := hM.eqv 10 rfl (hp 10 rfl) rfl rfl
                  exact ⟨f39, ⟨hC, hB, hg⟩, rfl⟩
                refine dsOff (j := 15) (b' := false) rfl rfl rfl ?_ ?_
                · intro done G w ac_ hd hp hn ⟨hC, hB, hg⟩ hM
                  have f39 : ac_.tmps[39]? = some (.bool false) := hM.eqv 10 rfl (hp 10 rfl) rfl rfl
                  exact ⟨f39, ⟨hC, hB, hg⟩, rfl⟩
                refine dsOff (j := 16) (b' := false) rfl rfl rfl ?_ ?_
                · intro done G w ac_ hd hp hn ⟨hC, hB, hg⟩ hM
                  have f39 : ac_.tmps[39]? = some (.bool false) := hM.eqv 10 rfl (hp 10 rfl) rfl rfl
                  exact ⟨f39, ⟨hC, hB, hg⟩, rfl⟩
                refine dsOff (j := 17) (b' := false) rfl rfl rfl ?_ ?_
                · intro done G w ac_ hd hp hn ⟨hC, hB, hg⟩ hM
                  have f39 : ac_.tmps[39]? = some (.bool false) := hM.eqv 10 rfl (hp 10 rfl) rfl rfl
                  exact ⟨f39, ⟨hC, hB, hg⟩, rfl⟩
                refine dsOff (j := 18) (b' := false) rfl rfl rfl ?_ ?_
                · intro done G w ac_ hd hp hn ⟨hC, hB, hg⟩ hM
                  have f39 : ac_.tmps[39]? = some (.bool false) := hM.eqv 10 rfl (hp 10 rfl) rfl rfl
                  exact ⟨f39, ⟨hC, hB, hg⟩, rfl⟩
                refine dsOff (j := 19) (b' := false) rfl rfl rfl ?_ ?_
                · intro done G w ac_ hd hp hn ⟨hC, hB, hg⟩ hM
                  have f39 : ac_.tmps[39]? = some (.bool false) := hM.eqv 10 rfl (hp 10 rfl) rfl rfl
                  exact ⟨f39, ⟨hC, hB, hg⟩, rfl⟩
                refine dsOff (j := 20) (b' := false) rfl rfl rfl ?_ ?_
                · intro done G w ac_ hd hp hn ⟨hC, hB, hg⟩ hM
                  have f39 : ac_.tmps[39]? = some (.bool false) := hM.eqv 10 rfl (hp 10 rfl) rfl rfl
                  exact ⟨f39, ⟨hC, hB, hg⟩, rfl⟩
                refine dsOff (j := 21) (b' := false) rfl rfl rfl ?_ ?_
                · intro done G w ac_ hd hp hn ⟨hC, hB, hg⟩ hM
                  have f39 : ac_.tmps[39]? = some (.bool false) := hM.eqv 10 rfl (hp 10 rfl) rfl rfl
                  exact ⟨f39, ⟨hC, hB, hg⟩, rfl⟩
                refine dsOff (j := 22) (b' := false) rfl rfl rfl ?_ ?_
                · intro done G w ac_ hd hp hn ⟨hC, hB, hg⟩ hM
                  have f39 : ac_.tmps[39]? = some (.bool false) := hM.eqv 10 rfl (hp 10 rfl) rfl rfl
                  exact ⟨f39, ⟨hC, hB, hg⟩, rfl⟩
                refine dsOff (j := 23) (b' := false) rfl rfl rfl ?_ ?_
                · intro done G w ac_ hd hp hn ⟨hC, hB, hg⟩ hM
                  have f39 : ac_.tmps[39]? = some (.bool false) := hM.eqv 10 rfl (hp 10 rfl) rfl rfl
                  exact ⟨f39, ⟨hC, hB, hg⟩, rfl⟩
                refine dsOn (j := 24) rfl rfl ?_ ?_
                · intro done G w ac_ hd hp hn ⟨hC, hB, hg⟩ hM
                  have f39 : ac_.tmps[39]? = some (.bool false) := hM.eqv 10 rfl (hp 10 rfl) rfl rfl
                  have f51 : ac_.tmps[51]? = some undef := hM.eqv 22 rfl (hp 22 rfl) rfl rfl
                  have f36 : ac_.tmps[36]? = some (.bool false) := hM.eqv 7 rfl (hp 7 rfl) rfl rfl
                  refine ⟨f36, ?_⟩
                  have hF : Fr 54 ac_ ((Env.nil.put 39 (.bool false)).put 51 undef) := ((hM.fr.add f39).add f51)
                  exact OpVal.draw hF (opPickF rfl rfl) ⟨G, fun _ _ h => h, ⟨hC, hB, hg⟩, rfl⟩
                refine dsNone (j := 25) rfl ?_ ?_
                · intro done G w ac_ hd hp hn ⟨hC, hB, hg⟩ hM
                  have f36 : ac_.tmps[36]? = some (.bool false) := hM.eqv 7 rfl (hp 7 rfl) rfl rfl
                  have f52 : ac_.tmps[52]? = some (.bool false) := hM.eqv 23 rfl (hp 23 rfl) rfl rfl
                  have hF : Fr 54 ac_ ((Env.nil.put 36 (.bool false)).put 52 (.bool false)) := ((hM.fr.add f36).add f52)
                  exact OpVal.draw hF (opPickF rfl rfl) ⟨G, fun _ _ h => h, ⟨hC, hB, hg⟩, rfl⟩
                exact dsNil
              · intro done G w ac_ hall ⟨hC, hB, hg⟩ hM
                replace hs2 := hs2.mono hg
                replace hr15 := hr15.mono hg
                have f1 : ac_.tmps[1]? = some (.pointer (some ⟨b5, 0, none⟩)) := hM.old0 rfl rfl
                have f3 : ac_.tmps[3]? = some (.int .i64 (((k : Nat) : Int))) := hM.old0 rfl rfl
                have f53 : ac_.tmps[53]? = some (.bool false) := hM.eqv 24 rfl (hall 24 (by decide)) rfl rfl
                refine ⟨(((Env.nil.put 1 (.pointer (some ⟨b5, 0, none⟩))).put 3 (.int .i64 (((k : Nat) : Int)))).put 53 (.bool false)), (((hM.fr.add f1).add f3).add f53), ?_⟩
                clear hM hall
                refine wcOf ?_
                refine wcCondF rfl ?_
                refine wcSkip ?_
                refine wcOf ?_
                refine wcRegion ?_
                refine wlVal (opMove rfl) rfl ?_
                refine wlVal (opIncr rfl rfl (incr_ok (of_decide_eq_true h9) hs2.le)) rfl ?_
                refine wlVal (opAssign rfl) rfl ?_
                refine wlRound ?_
                exact (IH0 (k + 1) _ _ ⟨hC, hB, hs2, (by have hk0 : k = 0 := (by have := of_decide_eq_false h19; omega); subst hk0; rw [← hI, drop_get hx11]; rw [prevI_succ hx11]; simp only [risesB, h6, h7, h8, h9, h18, h19]; rw [prevI_0, nodeB_pos (by simpa using h18)]; simp)⟩ (by have := of_decide_eq_true h9; simp; omega)).sub (fun _ ha => ((ha.start.cons ha (t := 1) rfl).cons ha (t := 3) rfl))
            · skip
              obtain ⟨x20, hx21⟩ : ∃ y_, c.nodes[(k - 1)]? = some y_ := ⟨_, List.getElem?_eq_getElem (by have := of_decide_eq_true h9; omega)⟩
              obtain ⟨row24, hr25, hi26⟩ := Sl.elem' hs2 hx21
              obtain rfl := hi26
              refine wcDraw fmix (by kernel_rfl) (by kernel_rfl) (vAt [(fun _ v_ => v_ = (.pointer (some ⟨b5, 1, none⟩))), (fun _ v_ => v_ = (.slice (some ⟨b12, o13, none⟩) c.nodes.length cap4)), (fun _ v_ => v_ = (.int .i64 (((k : Nat) : Int)))), (fun _ v_ => v_ = (.pointer (some ⟨b12, o13 + k * 1, none⟩))), (fun _ v_ => v_ = (.int .i64 x10)), (fun _ v_ => v_ = (.bool true)), (fun _ v_ => v_ = (.bool false)), (fun _ v_ => v_ = (.bool false)), (fun _ v_ => v_ = (.int .i64 (((k : Nat) : Int)))), (fun _ v_ => v_ = (.bool true)), (fun _ v_ => v_ = (.bool true)), (fun _ v_ => v_ = (.pointer (some ⟨b5, 1, none⟩))), (fun _ v_ => v_ = (.slice (some ⟨b12, o13, none⟩) c.nodes.length cap4)), (fun _ v_ => v_ = (.int .i64 (((k : Nat) : Int)))), (fun _ v_ => v_ = (.pointer (some ⟨b12, o13 + k * 1, none⟩))), (fun _ v_ => v_ = (.int .i64 x10)), (fun _ v_ => v_ = (.pointer (some ⟨b5, 1, none⟩))), (fun _ v_ => v_ = (.slice (some ⟨b12, o13, none⟩) c.nodes.length cap4)), (fun _ v_ => v_ = (.int .i64 (((k : Nat) : Int)))), (fun _ v_ => v_ = (.int .i64 ((((k - 1) : Nat) : Int)))), (fun _ v_ => v_ = (.pointer (some ⟨b12, o13 + ((k - 1)) * 1, none⟩))), (fun _ v_ => v_ = (.int .i64 x20)), (fun _ v_ => v_ = (.bool (decide (x10 ≤ x20)))), (fun _ v_ => v_ = (.bool (decide (x10 ≤ x20)))), (fun _ v_ => v_ = (.bool (decide (x10 ≤ x20))))]) (fun _ _ G' w => Cx w0 G0 G' w ∧ Bxs G' w w0.heap.size [(b5, 24, [(.int .i64 c.faults), (.slice (some ⟨b12, o13, none⟩) c.nodes.length cap4)])] ∧ GLe G G') G (vAt_mono ⟨fun _ _ _ _ h => h, fun _ _ _ _ h => h, fun _ _ _ _ h => h, fun _ _ _ _ h => h, fun _ _ _ _ h => h, fun _ _ _ _ h => h, fun _ _ _ _ h => h, fun _ _ _ _ h => h, fun _ _ _ _ h => h, fun _ _ _ _ h => h, fun _ _ _ _ h => h, fun _ _ _ _ h => h, fun _ _ _ _ h => h, fun _ _ _ _ h => h, fun _ _ _ _ h => h, fun _ _ _ _ h => h, fun _ _ _ _ h => h, fun _ _ _ _ h => h, fun _ _ _ _ h => h, fun _ _ _ _ h => h, fun _ _ _ _ h => h, fun _ _ _ _ h => h, fun _ _ _ _ h => h, fun _ _ _ _ h => h, fun _ _ _ _ h => h, trivial⟩) (fun _ _ => ⟨hC.drew, hB.drew, fun _ _ h => h⟩) ?_ ?_
              · refine dsNone (j := 1) rfl ?_ ?_
                · intro done G w ac_ hd hp hn ⟨hC, hB, hg⟩ hM
                  have f1 : ac_.tmps[1]? = some (.pointer (some ⟨b5, 0, none⟩)) := hM.old0 rfl rfl
                  have hF : Fr 54 ac_ (Env.nil.put 1 (.pointer (some ⟨b5, 0, none⟩))) := (hM.fr.add f1)
                  exact OpVal.draw hF (opFieldAddr rfl fo24_1) ⟨G, fun _ _ h => h, ⟨hC, hB, hg⟩, rfl⟩
                refine dsNone (j := 2) rfl ?_ ?_
                · intro done G w ac_ hd hp hn ⟨hC, hB, hg⟩ hM
                  have f29 : ac_.tmps[29]? = some (.pointer (some ⟨b5, 1, none⟩)) := hM.eqv 0 rfl (hp 0 rfl) rfl rfl
                  have hF : Fr 54 ac_ (Env.nil.put 29 (.pointer (some ⟨b5, 1, none⟩))) := (hM.fr.add f29)
                  exact OpVal.draw hF (opLoadOne (v := (.slice (some ⟨b12, o13, none⟩) c.nodes.length cap4)) rfl (hB.cell (i := 0) rfl rfl) one22) ⟨G, fun _ _ h => h, ⟨hC, hB, hg⟩, rfl⟩
                refine dsNone (j := 3) rfl ?_ ?_
                · intro done G w ac_ hd hp hn ⟨hC, hB, hg⟩ hM
                  have f3 : ac_.tmps[3]? = some (.int .i64 (((k : Nat) : Int))) := hM.old0 rfl rfl
                  have hF : Fr 54 ac_ (Env.nil.put 3 (.int .i64 (((k : Nat) : Int)))) := (hM.fr.add f3)
                  exact OpVal.draw hF (opMove rfl) ⟨G, fun _ _ h => h, ⟨hC, hB, hg⟩, rfl⟩
                refine dsNone (j := 4) rfl ?_ ?_
                · intro done G w ac_ hd hp hn ⟨hC, hB, hg⟩ hM
                  have f30 : ac_.tmps[30]? = some (.slice (some ⟨b12, o13, none⟩) c.nodes.length cap4) := hM.eqv 1 rfl (hp 1 rfl) rfl rfl
                  have f31 : ac_.tmps[31]? = some (.int .i64 (((k : Nat) : Int))) := hM.eqv 2 rfl (hp 2 rfl) rfl rfl
                  have hF : Fr 54 ac_ ((Env.nil.put 30 (.slice (some ⟨b12, o13, none⟩) c.nodes.length cap4)).put 31 (.int .i64 (((k : Nat) : Int)))) := ((hM.fr.add f30).add f31)
                  exact OpVal.draw hF (opIndexAddr rfl rfl slo22 (of_decide_eq_true h9)) ⟨G, fun _ _ h => h, ⟨hC, hB, hg⟩, rfl⟩
                refine dsNone (j := 5) rfl ?_ ?_
                · intro done G w ac_ hd hp hn ⟨hC, hB, hg⟩ hM
                  replace hr15 := hr15.mono hg
                  have f32 : ac_.tmps[32]? = some (.pointer (some ⟨b12, o13 + k * 1, none⟩)) := hM.eqv 3 rfl (hp 3 rfl) rfl rfl
                  have hF : Fr 54 ac_ (Env.nil.put 32 (.pointer (some ⟨b12, o13 + k * 1, none⟩))) := (hM.fr.add f32)
                  exact OpVal.draw hF (opLoadOne (v := (.int .i64 x10)) rfl (RowG.cell0 hC.holds hr15 rfl) one3) ⟨G, fun _ _ h => h, ⟨hC, hB, hg⟩, rfl⟩
                refine dsNone (j := 6) rfl ?_ ?_
                · intro done G w ac_ hd hp hn ⟨hC, hB, hg⟩ hM
                  have f33 : ac_.tmps[33]? = some (.int .i64 x10) := hM.eqv 4 rfl (hp 4 rfl) rfl rfl
                  have hF : Fr 54 ac_ (Env.nil.put 33 (.int .i64 x10)) := (hM.fr.add f33)
                  exact drawCallS hF rfl co50 rfl (RetS.cast (rnode_ret _ _ hC.holds x10) (congrArg Value.bool h18)) (fun w' hk => ⟨G, fun _ _ h => h, ⟨hC.trans hk, hB.ext hk, hg⟩, rfl⟩)
                refine dsNone (j := 7) rfl ?_ ?_
                · intro done G w ac_ hd hp hn ⟨hC, hB, hg⟩ hM
                  have f34 : ac_.tmps[34]? = some (.bool true) := hM.eqv 5 rfl (hp 5 rfl) rfl rfl
                  have hF : Fr 54 ac_ (Env.nil.put 34 (.bool true)) := (hM.fr.add f34)
                  exact OpVal.draw hF (opNot rfl) ⟨G, fun _ _ h => h, ⟨hC, hB, hg⟩, rfl⟩
                refine dsNone (j := 8) rfl ?_ ?_
                · intro done G w ac_ hd hp hn ⟨hC, hB, hg⟩ hM
                  have f35 : ac_.tmps[35]? = some (.bool false) := hM.eqv 6 rfl (hp 6 rfl) rfl rfl
                  have hF : Fr 54 ac_ (Env.nil.put 35 (.bool false)) := (hM.fr.add f35)
                  exact OpVal.draw hF (opMove rfl) ⟨G, fun _ _ h => h, ⟨hC, hB, hg⟩, rfl⟩
                refine dsOn (j := 9) rfl rfl ?_ ?_
                · intro done G w ac_ hd hp hn ⟨hC, hB, hg⟩ hM
                  have f3 : ac_.tmps[3]? = some (.int .i64 (((k : Nat) : Int))) := hM.old0 rfl rfl
                  have f36 : ac_.tmps[36]? = some (.bool false) := hM.eqv 7 rfl (hp 7 rfl) rfl rfl
                  refine ⟨f36, ?_⟩
                  have hF : Fr 54 ac_ (Env.nil.put 3 (.int .i64 (((k : Nat) : Int)))) := (hM.fr.add f3)
                  exact OpVal.draw hF (opMove rfl) ⟨G, fun _ _ h => h, ⟨hC, hB, hg⟩, rfl⟩
                refine dsOn (j := 10) rfl rfl ?_ ?_
                · intro done G w ac_ hd hp hn ⟨hC, hB, hg⟩ hM
                  have f37 : ac_.tmps[37]? = some (.int .i64 (((k : Nat) : Int))) := hM.eqv 8 rfl (hp 8 rfl) rfl rfl
                  have f36 : ac_.tmps[36]? = some (.bool false) := hM.eqv 7 rfl (hp 7 rfl) rfl rfl
                  refine ⟨f36, ?_⟩
                  have hF : Fr 54 ac_ (Env.nil.put 37 (.int .i64 (((k : Nat) : Int)))) := (hM.fr.add f37)
                  exact OpVal.draw hF (OpVal.cast (opGtr rfl rfl) (congrArg Value.bool h19)) ⟨G, fun _ _ h => h, ⟨hC, hB, hg⟩, rfl⟩
                refine dsOn (j := 11) rfl rfl ?_ ?_
                · intro done G w ac_ hd hp hn ⟨hC, hB, hg⟩ hM
                  have f38 : ac_.tmps[38]? = some (.bool true) := hM.eqv 9 rfl (hp 9 rfl) rfl rfl
                  have f36 : ac_.tmps[36]? = some (.bool false) := hM.eqv 7 rfl (hp 7 rfl) rfl rfl
                  refine ⟨f36, ?_⟩
                  have hF : Fr 54 ac_ (Env.nil.put 38 (.bool true)) := (hM.fr.add f38)
                  exact OpVal.draw hF (opMove rfl) ⟨G, fun _ _ h => h, ⟨hC, hB, hg⟩, rfl⟩
                refine dsOn (j := 12) rfl rfl ?_ ?_
                · intro done G w ac_ hd hp hn ⟨hC, hB, hg⟩ hM
                  have f1 : ac_.tmps[1]? = some (.pointer (some ⟨b5, 0, none⟩)) := hM.old0 rfl rfl
                  have f39 : ac_.tmps[39]? = some (.bool true) := hM.eqv 10 rfl (hp 10 rfl) rfl rfl
                  refine ⟨f39, ?_⟩
                  have hF : Fr 54 ac_ (Env.nil.put 1 (.pointer (some ⟨b5, 0, none⟩))) := (hM.fr.add f1)
                  exact OpVal.draw hF (opFieldAddr rfl fo24_1) ⟨G, fun _ _ h => h, ⟨hC, hB, hg⟩, rfl⟩
                refine dsOn (j := 13) rfl rfl ?_ ?_
                · intro done G w ac_ hd hp hn ⟨hC, hB, hg⟩ hM
                  have f40 : ac_.tmps[40]? = some (.pointer (some ⟨b5, 1, none⟩)) := hM.eqv 11 rfl (hp 11 rfl) rfl rfl
                  have f39 : ac_.tmps[39]? = some (.bool true) := hM.eqv 10 rfl (hp 10 rfl) rfl rfl
                  refine ⟨f39, ?_⟩
                  have hF : Fr 54 ac_ (Env.nil.put 40 (.pointer (some ⟨b5, 1, none⟩))) := (hM.fr.add f40)
                  exact OpVal.draw hF (opLoadOne (v := (.slice (some ⟨b12, o13, none⟩) c.nodes.length cap4)) rfl (hB.cell (i := 0) rfl rfl) one22) ⟨G, fun _ _ h => h, ⟨hC, hB, hg⟩, rfl⟩
                refine dsOn (j := 14) rfl rfl ?_ ?_
                · intro done G w ac_ hd hp hn ⟨hC, hB, hg⟩ hM
                  have f3 : ac_.tmps[3]? = some (.int .i64 (((k : Nat) : Int))) := hM.old0 rfl rfl
                  have f39 : ac_.tmps[39]? = some (.bool true) := hM.eqv 10 rfl (hp 10 rfl) rfl rfl
                  refine ⟨f39, ?_⟩
                  have hF : Fr 54 ac_ (Env.nil.put 3 (.int .i64 (((k : Nat) : Int)))) := (hM.fr.add f3)
                  exact OpVal.draw hF (opMove rfl) ⟨G, fun _ _ h => h, ⟨hC, hB, hg⟩, rfl⟩
                refine dsOn (j := 15) rfl rfl ?_ ?_
                · intro done G w ac_ hd hp hn ⟨hC, hB, hg⟩ hM
                  have f41 : ac_.tmps[41]? = some (.slice (some ⟨b12, o13, none⟩) c.nodes.length cap4) := hM.eqv 12 rfl (hp 12 rfl) rfl rfl
                  have f42 : ac_.tmps[42]? = some (.int .i64 (((k : Nat) : Int))) := hM.eqv 13 rfl (hp 13 rfl) rfl rfl
                  have f39 : ac_.tmps[39]? = some (.bool true) := hM.eqv 10 rfl (hp 10 rfl) rfl rfl
                  refine ⟨f39, ?_⟩
                  have hF : Fr 54 ac_ ((Env.nil.put 41 (.slice (some ⟨b12, o13, none⟩) c.nodes.length cap4)).put 42 (.int .i64 (((k : Nat) : Int)))) := ((hM.fr.add f41).add f42)
                  exact OpVal.draw hF (opIndexAddr rfl rfl slo22 (of_decide_eq_true h9)) ⟨G, fun _ _ h => h, ⟨hC, hB, hg⟩, rfl⟩
                refine dsOn (j := 16) rfl rfl ?_ ?_
                · intro done G w ac_ hd hp hn ⟨hC, hB, hg⟩ hM
                  replace hr15 := hr15.mono hg
                  have f43 : ac_.tmps[43]? = some (.pointer (some ⟨b12, o13 + k * 1, none⟩)) := hM.eqv 14 rfl (hp 14 rfl) rfl rfl
                  have f39 : ac_.tmps[39]? = some (.bool true) := hM.eqv 10 rfl (hp 10 rfl) rfl rfl
                  refine ⟨f39, ?_⟩
                  have hF : Fr 54 ac_ (Env.nil.put 43 (.pointer (some ⟨b12, o13 + k * 1, none⟩))) := (hM.fr.add f43)
                  exact OpVal.draw hF (opLoadOne (v := (.int .i64 x10)) rfl (RowG.cell0 hC.holds hr15 rfl) one3) ⟨G, fun _ _ h => h, ⟨hC, hB, hg⟩, rfl⟩
                refine dsOn (j := 17) rfl rfl ?_ ?_
                · intro done G w ac_ hd hp hn ⟨hC, hB, hg⟩ hM
                  have f1 : ac_.tmps[1]? = some (.pointer (some ⟨b5, 0, none⟩)) := hM.old0 rfl rfl
                  have f39 : ac_.tmps[39]? = some (.bool true) := hM.eqv 10 rfl (hp 10 rfl) rfl rfl
                  refine ⟨f39, ?_⟩
                  have hF : Fr 54 ac_ (Env.nil.put 1 (.pointer (some ⟨b5, 0, none⟩))) := (hM.fr.add f1)
                  exact OpVal.draw hF (opFieldAddr rfl fo24_1) ⟨G, fun _ _ h => h, ⟨hC, hB, hg⟩, rfl⟩
                refine dsOn (j := 18) rfl rfl ?_ ?_
                · intro done G w ac_ hd hp hn ⟨hC, hB, hg⟩ hM
                  have f45 : ac_.tmps[45]? = some (.pointer (some ⟨b5, 1, none⟩)) := hM.eqv 16 rfl (hp 16 rfl) rfl rfl
                  have f39 : ac_.tmps[39]? = some (.bool true) := hM.eqv 10 rfl (hp 10 rfl) rfl rfl
                  refine ⟨f39, ?_⟩
                  have hF : Fr 54 ac_ (Env.nil.put 45 (.pointer (some ⟨b5, 1, none⟩))) := (hM.fr.add f45)
                  exact OpVal.draw hF (opLoadOne (v := (.slice (some ⟨b12, o13, none⟩) c.nodes.length cap4)) rfl (hB.cell (i := 0) rfl rfl) one22) ⟨G, fun _ _ h => h, ⟨hC, hB, hg⟩, rfl⟩
                refine dsOn (j := 19) rfl rfl ?_ ?_
                · intro done G w ac_ hd hp hn ⟨hC, hB, hg⟩ hM
                  have f3 : ac_.tmps[3]? = some (.int .i64 (((k : Nat) : Int))) := hM.old0 rfl rfl
                  have f39 : ac_.tmps[39]? = some (.bool true) := hM.eqv 10 rfl (hp 10 rfl) rfl rfl
                  refine ⟨f39, ?_⟩
                  have hF : Fr 54 ac_ (Env.nil.put 3 (.int .i64 (((k : Nat) : Int)))) := (hM.fr.add f3)
                  exact OpVal.draw hF (opMove rfl) ⟨G, fun _ _ h => h, ⟨hC, hB, hg⟩, rfl⟩
                refine dsOn (j := 20) rfl rfl ?_ ?_
                · intro done G w ac_ hd hp hn ⟨hC, hB, hg⟩ hM
                  replace hs2 := hs2.mono hg
                  have f47 : ac_.tmps[47]? = some (.int .i64 (((k : Nat) : Int))) := hM.eqv 18 rfl (hp 18 rfl) rfl rfl
                  have f39 : ac_.tmps[39]? = some (.bool true) := hM.eqv 10 rfl (hp 10 rfl) rfl rfl
                  refine ⟨f39, ?_⟩
                  have hF : Fr 54 ac_ (Env.nil.put 47 (.int .i64 (((k : Nat) : Int)))) := (hM.fr.add f47)
                  exact OpVal.draw hF (opDecr rfl rfl (Int.ofNat_lt.1 (of_decide_eq_true h19)) (incr_ok (of_decide_eq_true h9) hs2.le)) ⟨G, fun _ _ h => h, ⟨hC, hB, hg⟩, rfl⟩
                refine dsOn (j := 21) rfl rfl ?_ ?_
                · intro done G w ac_ hd hp hn ⟨hC, hB, hg⟩ hM
                  have f46 : ac_.tmps[46]? = some (.slice (some ⟨b12, o13, none⟩) c.nodes.length cap4) := hM.eqv 17 rfl (hp 17 rfl) rfl rfl
                  have f48 : ac_.tmps[48]? = some (.int .i64 ((((k - 1) : Nat) : Int))) := hM.eqv 19 rfl (hp 19 rfl) rfl rfl
                  have f39 : ac_.tmps[39]? = some (.bool true) := hM.eqv 10 rfl (hp 10 rfl) rfl rfl
                  refine ⟨f39, ?_⟩
                  have hF : Fr 54 ac_ ((Env.nil.put 46 (.slice (some ⟨b12, o13, none⟩) c.nodes.length cap4)).put 48 (.int .i64 ((((k - 1) : Nat) : Int)))) := ((hM.fr.add f46).add f48)
                  exact OpVal.draw hF (opIndexAddr rfl rfl slo22 (by have := of_decide_eq_true h9; omega)) ⟨G, fun _ _ h => h, ⟨hC, hB, hg⟩, rfl⟩
                refine dsOn (j := 22) rfl rfl ?_ ?_
                · intro done G w ac_ hd hp hn ⟨hC, hB, hg⟩ hM
                  replace hr25 := hr25.mono hg
                  have f49 : ac_.tmps[49]? = some (.pointer (some ⟨b12, o13 + ((k - 1)) * 1, none⟩)) := hM.eqv 20 rfl (hp 20 rfl) rfl rfl
                  have f39 : ac_.tmps[39]? = some (.bool true) := hM.eqv 10 rfl (hp 10 rfl) rfl rfl
                  refine ⟨f39, ?_⟩
                  have hF : Fr 54 ac_ (Env.nil.put 49 (.pointer (some ⟨b12, o13 + ((k - 1)) * 1, none⟩))) := (hM.fr.add f49)
                  exact OpVal.draw hF (opLoadOne (v := (.int .i64 x20)) rfl (RowG.cell0 hC.holds hr25 rfl) one3) ⟨G, fun _ _ h => h, ⟨hC, hB, hg⟩, rfl⟩
                refine dsOn (j := 23) rfl rfl ?_ ?_
                · intro done G w ac_ hd hp hn ⟨hC, hB, hg⟩ hM
                  have f44 : ac_.tmps[44]? = some (.int .i64 x10) := hM.eqv 15 rfl (hp 15 rfl) rfl rfl
                  have f50 : ac_.tmps[50]? = some (.int .i64 x20) := hM.eqv 21 rfl (hp 21 rfl) rfl rfl
                  have f39 : ac_.tmps[39]? = some (.bool true) := hM.eqv 10 rfl (hp 10 rfl) rfl rfl
                  refine ⟨f39, ?_⟩
                  have hF : Fr 54 ac_ ((Env.nil.put 44 (.int .i64 x10)).put 50 (.int .i64 x20)) := ((hM.fr.add f44).add f50)
                  exact OpVal.draw hF (opLeq rfl rfl) ⟨G, fun _ _ h => h, ⟨hC, hB, hg⟩, rfl⟩
                refine dsOn (j := 24) rfl rfl ?_ ?_
                · intro done G w ac_ hd hp hn ⟨hC, hB, hg⟩ hM
                  have f39 : ac_.tmps[39]? = some (.bool true) := hM.eqv 10 rfl (hp 10 rfl) rfl rfl
                  have f51 : ac_.tmps[51]? = some (.bool (decide (x10 ≤ x20))) := hM.eqv 22 rfl (hp 22 rfl) rfl rfl
                  have f36 : ac_.tmps[36]? = some (.bool false) := hM.eqv 7 rfl (hp 7 rfl) rfl rfl
                  refine ⟨f36, ?_⟩
                  have hF : Fr 54 ac_ ((Env.nil.put 39 (.bool true)).put 51 (.bool (decide (x10 ≤ x20)))) := ((hM.fr.add f39).add f51)
                  exact OpVal.draw hF (opPickT rfl rfl) ⟨G, fun _ _ h => h, ⟨hC, hB, hg⟩, rfl⟩
                refine dsNone (j := 25) rfl ?_ ?_
                · intro done G w ac_ hd hp hn ⟨hC, hB, hg⟩ hM
                  have f36 : ac_.tmps[36]? = some (.bool false) := hM.eqv 7 rfl (hp 7 rfl) rfl rfl
                  have f52 : ac_.tmps[52]? = some (.bool (decide (x10 ≤ x20))) := hM.eqv 23 rfl (hp 23 rfl) rfl rfl
                  have hF : Fr 54 ac_ ((Env.nil.put 36 (.bool false)).put 52 (.bool (decide (x10 ≤ x20)))) := ((hM.fr.add f36).add f52)
                  exact OpVal.draw hF (opPickF rfl rfl) ⟨G, fun _ _ h => h, ⟨hC, hB, hg⟩, rfl⟩
                exact dsNil
              · intro done G w ac_ hall ⟨hC, hB, hg⟩ hM
                replace hs2 := hs2.mono hg
                replace hr15 := hr15.mono hg
                replace hr25 := hr25.mono hg
                have f1 : ac_.tmps[1]? = some (.pointer (some ⟨b5, 0, none⟩)) := hM.old0 rfl rfl
                have f3 : ac_.tmps[3]? = some (.int .i64 (((k : Nat) : Int))) := hM.old0 rfl rfl
                have f53 : ac_.tmps[53]? = some (.bool (decide (x10 ≤ x20))) := hM.eqv 24 rfl (hall 24 (by decide)) rfl rfl
                refine ⟨(((Env.nil.put 1 (.pointer (some ⟨b5, 0, none⟩))).put 3 (.int .i64 (((k : Nat) : Int)))).put 53 (.bool (decide (x10 ≤ x20)))), (((hM.fr.add f1).add f3).add f53), ?_⟩
                clear hM hall
                refine wcOf ?_
                cases h28 : decide (x10 ≤ x20)
                · skip
                  refine wcCondF rfl ?_
                  refine wcSkip ?_
                  refine wcOf ?_
                  refine wcRegion ?_
                  refine wlVal (opMove rfl) rfl ?_
                  refine wlVal (opIncr rfl rfl (incr_ok (of_decide_eq_true h9) hs2.le)) rfl ?_
                  refine wlVal (opAssign rfl) rfl ?_
                  refine wlRound ?_
                  exact (IH0 (k + 1) _ _ ⟨hC, hB, hs2, (by rw [← hI, drop_get hx11]; simp [risesB, prevI_succ hx11, prevI_of (Int.ofNat_lt.1 (of_decide_eq_true h19)) hx21, h6, h7, h8, h9, h18, h19, h28])⟩ (by have := of_decide_eq_true h9; have := of_decide_eq_true h19; simp; omega)).sub (fun _ ha => ((ha.start.cons ha (t := 1) rfl).cons ha (t := 3) rfl))
                · skip
                  refine wcCondT rfl ?_
                  refine wcSeq ?_
                  refine wcRegion ?_
                  refine wlVal (opAssign rfl) rfl ?_
                  refine wlThen ?_
                  refine wcRet ?_
                  exact fun ac_ ha => hQ _ _ _ (results1 ha rfl rfl) ha.df (endS hC hw (by have e := hI; rw [drop_get hx11] at e; simp [risesB, h6, h7, h8, h9, h18, h19, h28] at e; first | (simp [check, h6, h7, h8, h9, h18, h19, h28, e]; done) | (have e4 := prevI_of (Int.ofNat_lt.1 (of_decide_eq_true h19)) hx21; simp [e4, h6, h7, h8, h9, h18, h19, h28] at e; simp [check, h6, h7, h8, h9, h18, h19, h28, e])))
      · skip
        refine wcCondT rfl ?_
        refine wcSeq ?_
        refine wcRegion ?_
        refine wlVal (opAssign rfl) rfl ?_
        refine wlThen ?_
        refine wcRet ?_
        exact fun ac_ ha => hQ _ _ _ (results1 ha rfl rfl) ha.df (endS hC hw (by simp [check, h6, h7, h8]))
    · skip
      refine wlOff rfl rfl rfl rfl ?_
      refine wlOff rfl rfl rfl rfl ?_
      refine wlOff rfl rfl rfl rfl ?_
      refine wlOff rfl rfl rfl rfl ?_
      refine wlOff rfl rfl rfl rfl ?_
      refine wlOff rfl rfl rfl rfl ?_
      refine wlOff rfl rfl rfl rfl ?_
      refine wlOff rfl rfl rfl rfl ?_
      refine wlVal (opPickT rfl rfl) rfl ?_
      refine wlThen ?_
      refine wcCondT rfl ?_
      refine wcSeq ?_
      refine wcRegion ?_
      refine wlVal (opAssign rfl) rfl ?_
      refine wlThen ?_
      refine wcRet ?_
      exact fun ac_ ha => hQ _ _ _ (results1 ha rfl rfl) ha.df (endS hC hw (by simp [check, h6, h7]))
  · skip
    refine wlOff rfl rfl rfl rfl ?_
    refine wlOff rfl rfl rfl rfl ?_
    refine wlOff rfl rfl rfl rfl ?_
    refine wlVal (opPickT rfl rfl) rfl ?_
    refine wlVal (opMove rfl) rfl ?_
    refine wlOff rfl rfl rfl rfl ?_
    refine wlOff rfl rfl rfl rfl ?_
    refine wlOff rfl rfl rfl rfl ?_
    refine wlOff rfl rfl rfl rfl ?_
    refine wlOff rfl rfl rfl rfl ?_
    refine wlOff rfl rfl rfl rfl ?_
    refine wlOff rfl rfl rfl rfl ?_
    refine wlOff rfl rfl rfl rfl ?_
    refine wlVal (opPickT rfl rfl) rfl ?_
    refine wlThen ?_
    refine wcCondT rfl ?_
    refine wcSeq ?_
    refine wcRegion ?_
    refine wlVal (opAssign rfl) rfl ?_
    refine wlThen ?_
    refine wcRet ?_
    exact fun ac_ ha => hQ _ _ _ (results1 ha rfl rfl) ha.df (endS hC hw (by simp [check, h6]))

theorem rmost_ret (G0 : Gh) (w0 : World) (hw : Holds G0 w0) (csc : List Value) (c : Crew) (hc : Rp.Is G0 csc c) :
    RetS Try.prog 57 #[.agg csc.toArray] G0 w0 (.int .i64 (most c)) := by
  have hC := Cx.refl hw
  have hB : Bxs G0 w0 w0.heap.size [] := Bxs.nil _ _ _
  obtain ⟨v1, rfl, hs2⟩ := Crew.opIs hc
  obtain ⟨A3, cap4, rfl⟩ := hs2.form
  refine callsOf Try.func57 rfl _ Try.ntmps57 rfl _ (argsCons argsNil (t := 0) rfl) ?_; intro Q0 hQ
  refine wcSeq ?_
  refine wcRegion ?_
  refine wlBox (cs := [(.int .i64 c.faults), (.slice A3 c.nodes.length cap4)]) hC hB rfl rfl rfl ?_; intro b5 w hk hC hB
  refine wlVal (opAssign rfl) rfl ?_
  refine wlThen ?_
  refine wcSeq ?_
  refine wcSeq ?_
  refine wcRegion ?_
  refine wlVal (opLoadRow (cs := [(.int .i64 c.faults), (.slice A3 c.nodes.length cap4)]) rfl (hB.range (i := 0) (m := 2) rfl rfl) row24 rfl) rfl ?_
  refine wlCallS hC hB rfl co30 rfl rfl (rcheck_ret _ _ hC.holds _ c (Crew.mkIs (x := c) hs2)) ?_; intro w hk hC hB
  refine wlVal (opNeq rfl rfl) rfl ?_
  refine wlThen ?_
  cases h6 : ((check c)) != 0
  · skip
    refine wcCondF rfl ?_
    refine wcSkip ?_
    refine wcOf ?_
    refine wcSeq ?_
    refine wcRegion ?_
    refine wlVal (opFieldAddr rfl fo24_0) rfl ?_
    refine wlVal (opLoadOne (v := (.int .i64 c.faults)) rfl (hB.cell (i := 0) rfl rfl) one3) rfl ?_
    refine wlVal (opMul rfl rfl) rfl ?_
    refine wlVal (opAdd rfl rfl) rfl ?_
    refine wlVal (opAssign rfl) rfl ?_
    refine wlThen ?_
    refine wcRet ?_
    exact fun ac_ ha => hQ _ _ _ (results1 ha rfl rfl) ha.df (endS hC hw (by simp [most, h6]))
  · skip
    refine wcCondT rfl ?_
    refine wcSeq ?_
    refine wcRegion ?_
    refine wlVal (opAssign rfl) rfl ?_
    refine wlThen ?_
    refine wcRet ?_
    exact fun ac_ ha => hQ _ _ _ (results1 ha rfl rfl) ha.df (endS hC hw (by simp [most, h6]))

theorem rsome_ret (G0 : Gh) (w0 : World) (hw : Holds G0 w0) (csc : List Value) (c : Crew) (hc : Rp.Is G0 csc c) :
    RetS Try.prog 58 #[.agg csc.toArray] G0 w0 (.int .i64 (some_ c)) := by
  have hC := Cx.refl hw
  have hB : Bxs G0 w0 w0.heap.size [] := Bxs.nil _ _ _
  obtain ⟨v1, rfl, hs2⟩ := Crew.opIs hc
  obtain ⟨A3, cap4, rfl⟩ := hs2.form
  refine callsOf Try.func58 rfl _ Try.ntmps58 rfl _ (argsCons argsNil (t := 0) rfl) ?_; intro Q0 hQ
  refine wcSeq ?_
  refine wcRegion ?_
  refine wlBox (cs := [(.int .i64 c.faults), (.slice A3 c.nodes.length cap4)]) hC hB rfl rfl rfl ?_; intro b5 w hk hC hB
  refine wlVal (opAssign rfl) rfl ?_
  refine wlThen ?_
  refine wcSeq ?_
  refine wcSeq ?_
  refine wcRegion ?_
  refine wlVal (opLoadRow (cs := [(.int .i64 c.faults), (.slice A3 c.nodes.length cap4)]) rfl (hB.range (i := 0) (m := 2) rfl rfl) row24 rfl) rfl ?_
  refine wlCallS hC hB rfl co30 rfl rfl (rcheck_ret _ _ hC.holds _ c (Crew.mkIs (x := c) hs2)) ?_; intro w hk hC hB
  refine wlVal (opNeq rfl rfl) rfl ?_
  refine wlThen ?_
  cases h6 : ((check c)) != 0
  · skip
    refine wcCondF rfl ?_
    refine wcSkip ?_
    refine wcOf ?_
    refine wcSeq ?_
    refine wcRegion ?_
    refine wlVal (opFieldAddr rfl fo24_0) rfl ?_
    refine wlVal (opLoadOne (v := (.int .i64 c.faults)) rfl (hB.cell (i := 0) rfl rfl) one3) rfl ?_
    refine wlVal (opAdd rfl rfl) rfl ?_
    refine wlVal (opAssign rfl) rfl ?_
    refine wlThen ?_
    refine wcRet ?_
    exact fun ac_ ha => hQ _ _ _ (results1 ha rfl rfl) ha.df (endS hC hw (by simp [some_, h6]))
  · skip
    refine wcCondT rfl ?_
    refine wcSeq ?_
    refine wcRegion ?_
    refine wlVal (opAssign rfl) rfl ?_
    refine wlThen ?_
    refine wcRet ?_
    exact fun ac_ ha => hQ _ _ _ (results1 ha rfl rfl) ha.df (endS hC hw (by simp [some_, h6]))

end Go.Proofs.Ytbmanooiphghmaa
