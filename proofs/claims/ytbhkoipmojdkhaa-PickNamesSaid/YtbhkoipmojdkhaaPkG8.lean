/- What functions of the pick seat return, part 8. No condition. -/
import Derived.Test.YtbhkoipmojdkhaaPkG7
set_option linter.all false
namespace Go.Proofs.Ytbhkoipmojdkhaa
open Go Go.Gx Go.RowKit
theorem co48 : callOk Try.prog 48 = true := by kernel_rfl
theorem co50 : callOk Try.prog 50 = true := by kernel_rfl
theorem co47 : callOk Try.prog 47 = true := by kernel_rfl
theorem so30 : structOk Try.prog 30 [(0, 1), (1, 32)] = true := by kernel_rfl
theorem co51 : callOk Try.prog 51 = true := by kernel_rfl
theorem elo47 : elemOk Try.prog 47 58 34 48 = true := by kernel_rfl
theorem at_ret (G0 : Gh) (w0 : World) (hw : Holds G0 w0) (csc : List Value) (c : Council) (hc : Rp.Is G0 csc c) (sq : Int) (hs : (c.list.flatMap (·.p)).length ≤ 1000000) :
  RetS Try.prog 28 #[.agg csc.toArray, .int .i64 sq] G0 w0 (.tuple #[(.agg ((atI c sq).1).cells.toArray), (.bool ((atI c sq).2))]) := by
 have hC := Cx.refl hw
 have hB : Bxs G0 w0 w0.heap.size [] := Bxs.nil _ _ _
 obtain ⟨v1, rfl, hs2⟩ := Council.opIs hc
 obtain ⟨A3, cap4, rfl⟩ := hs2.form
 refine callsOf Try.func28 rfl _ Try.ntmps28 rfl _ (argsCons (argsCons argsNil (t := 0) rfl) (t := 1) rfl) ?_; intro Q0 hQ
 refine wcSeq (wcRegion ?_)
 refine wlBox (cs := [(.int .i64 c.most), (.int .i64 c.some_), (.slice A3 c.list.length cap4)]) hC hB rfl rfl rfl ?_; intro b5 w hk hC hB
 refine wlBox (cs := [(.int .i64 sq)]) hC hB rfl rfl rfl ?_; intro b6 w hk hC hB
 refine wlAlloc hC hB zero30 rfl ?_; intro b7 w hk hC hB
 refine wlVal (opAssign rfl) rfl ?_
 refine wlThen (wcSeq (wcRegion ?_))
 refine wlVal (opAssign rfl) rfl ?_
 refine wlThen (wcSeq (wcSeq (wcRegion ?_)))
 refine wlVal (opFieldAddr rfl fo70_2) rfl ?_
 refine wlVal (opLoadOne (v := (.slice A3 c.list.length cap4)) rfl (hB.cell (i := 2) rfl rfl) one25) rfl ?_
 refine wlVal (opLen rfl isl25) rfl ?_
 refine wlVal (opMove rfl) rfl ?_
 refine wlThen ?_
 refine wcBlock ?_
 refine WC.sub (wrInd (ι := Nat × (Option Addr) × Nat × (Option Bx) × (List Stand)) (fun i => match i with | (k, psA, psC, psO, ps) => c.list.length - k) (fun i G w => match i with | (k, psA, psC, psO, ps) => Cx w0 G0 G w ∧ Bxs G w w0.heap.size ([(b7, 30, ((.int .i64 0) :: (Dig.zero.cells ++ []))), (b6, 3, [(.int .i64 sq)]), (b5, 70, [(.int .i64 c.most), (.int .i64 c.some_), (.slice A3 c.list.length cap4)])] ++ (Option.toList psO ++ [])) ∧ Sl G (.slice A3 c.list.length cap4) c.list ∧ Ow G psO 58 (.slice psA ps.length psC) ps ∧ ps = (c.list.take k).flatMap (·.p)) (fun i => match i with | (k, psA, psC, psO, ps) => (((((((Env.nil.put 2 (.pointer (some ⟨b5, 0, none⟩))).put 3 (.pointer (some ⟨b6, 0, none⟩))).put 4 (.pointer (some ⟨b7, 0, none⟩))).put 6 (.slice psA ps.length psC)).put 13 (.slice A3 c.list.length cap4)).put 14 (.int .i64 (((c.list.length : Nat) : Int)))).put 15 (.int .i64 (((k : Nat) : Int))))) ?_ (0, none, 0, none, []) _ _ ⟨hC, hB, hs2, (Ow.nil_ _ 58), (by simp)⟩) (fun _ ha => (((((((ha.start.cons ha (t := 2) rfl).cons ha (t := 3) rfl).cons ha (t := 4) rfl).cons ha (t := 6) rfl).cons ha (t := 13) rfl).cons ha (t := 14) rfl).cons ha (t := 15) rfl))
 rintro ⟨k, psA, psC, psO, ps⟩ G w N0 IH0 ⟨hC, hB, hs2, hOps, hI⟩
 show WC _ _ _ _ (((((((Env.nil.put 2 (.pointer (some ⟨b5, 0, none⟩))).put 3 (.pointer (some ⟨b6, 0, none⟩))).put 4 (.pointer (some ⟨b7, 0, none⟩))).put 6 (.slice psA ps.length psC)).put 13 (.slice A3 c.list.length cap4)).put 14 (.int .i64 (((c.list.length : Nat) : Int)))).put 15 (.int .i64 (((k : Nat) : Int)))) w
 refine wcSeq (wcRegion ?_)
 refine wlVal (opLssN rfl rfl) rfl ?_
 refine wlThen (wcSeq ?_)
 cases h8 : decide (k < c.list.length)
 ·
  skip
  refine wcCondF rfl ?_
  refine wcExit ?_
  refine wcOf ?_
  refine wcSeq (wcRegion ?_)
  refine wlVal (opMove rfl) rfl ?_
  obtain ⟨G, hg10, hC, hB, hF9⟩ := freezeBox (cs := [(.int .i64 sq)]) hC (Nat.le_refl _) hB (i := 1) rfl
  replace hs2 := hs2.mono hg10; replace hOps := hOps.mono hg10
  obtain ⟨G, hg12, hC, hB, hF11⟩ := freezeBox (cs := [(.int .i64 c.most), (.int .i64 c.some_), (.slice A3 c.list.length cap4)]) hC (Nat.le_refl _) hB (i := 1) rfl
  replace hs2 := hs2.mono hg12; replace hOps := hOps.mono hg12
  replace hF9 := hF9.mono hg12
  refine wlVal (opMakeFunc (fun a ha => ha.evals (xs := []) rfl) (fun a ha => ha.evals (xs := [.tmp 3, .tmp 2]) rfl)) rfl ?_
  obtain ⟨G, hg14, hC, hB, hs13⟩ := Ow.freeze' (bl := [(b7, 30, ((.int .i64 0) :: (Dig.zero.cells ++ [])))]) (r := []) hOps hC (Nat.le_refl _) hB (by rw [hI, List.take_of_length_le (Nat.le_of_not_lt (of_decide_eq_false h8))]; unfold maxL; omega)
  replace hs2 := hs2.mono hg14
  replace hF9 := hF9.mono hg14
  replace hF11 := hF11.mono hg14
  refine wlCallS hC hB rfl co47 rfl rfl (bestS_ret _ _ hC.holds _ ps hs13 48 [(.pointer (some ⟨b6, 0, none⟩)), (.pointer (some ⟨b5, 0, none⟩))] (fun may_x0 => at1B sq c may_x0) co48 (fun G w may_x0 hg hw  => at1_ret G w hw may_x0 _ sq (hF9.mono hg) _ _ c (hF11.mono hg) (Rp.mono hg (Council.mkIs (x := c) hs2)) ) 50 [] (fun cmp_x0 cmp_x1 => orI [cmpI cmp_x0.view cmp_x1.view, cmpB cmp_x1.dig.l cmp_x0.dig.l]) co50 (fun G w cmp_x0 cmp_x1 hg hw  => at2_ret G w hw cmp_x0 cmp_x1  )) ?_; intro w hk hC hB
  refine wlVal (opMove rfl) rfl ?_
  refine wlVal (opExtract rfl rfl) rfl ?_
  refine wlVal (opExtract rfl rfl) rfl ?_
  refine wlAlloc hC hB zero58 rfl ?_; intro b15 w hk hC hB
  refine wlStore 0 (vs := (((bestG (fun may_x0 => at1B sq c may_x0) (fun cmp_x0 cmp_x1 => orI [cmpI cmp_x0.view cmp_x1.view, cmpB cmp_x1.dig.l cmp_x0.dig.l]) ps default false).1)).cells) (cs := ((.int .i64 0) :: (Dig.zero.cells ++ ((.int .i64 0) :: [])))) (cs' := (((bestG (fun may_x0 => at1B sq c may_x0) (fun cmp_x0 cmp_x1 => orI [cmpI cmp_x0.view cmp_x1.view, cmpB cmp_x1.dig.l cmp_x0.dig.l]) ps default false).1)).cells) hC hB rfl rfl rfl sz58 rfl (by simp [Mark.cells, Stand.cells]) (by simp [Mark.cells, Stand.cells, Value.oneCell']) (by simp [Mark.cells, Stand.cells]) (by simp [Mark.cells, Stand.cells]) rfl ?_; intro w hC hB
  refine wlVal (opAssign rfl) rfl ?_
  refine wlThen (wcSeq (wcSeq (wcRegion ?_)))
  refine wlVal (opMove rfl) rfl ?_
  refine wlThen ?_
  cases h16 : ((bestG (fun may_x0 => at1B sq c may_x0) (fun cmp_x0 cmp_x1 => orI [cmpI cmp_x0.view cmp_x1.view, cmpB cmp_x1.dig.l cmp_x0.dig.l]) ps default false).2)
  ·
   skip
   refine wcCondF rfl ?_
   refine wcSkip ?_
   refine wcOf ?_
   refine wcSeq (wcRegion ?_)
   refine wlVal (opMakeFunc (fun a ha => ha.evals (xs := []) rfl) (fun a ha => ha.evals (xs := [.tmp 3]) rfl)) rfl ?_
   refine wlVal (opAssign rfl) rfl ?_
   refine wlThen (wcSeq ?_)
   refine wcDraw fmix (by kernel_rfl) (by kernel_rfl) (vAt [(fun _ v_ => v_ = (.int .i64 sq)), (fun _ v_ => v_ = (.agg ((.int .i64 sq) :: (Dig.zero.cells ++ [])).toArray)), (fun _ v_ => v_ = (.agg [(.int .i64 c.most), (.int .i64 c.some_), (.slice A3 c.list.length cap4)].toArray)), (fun _ v_ => v_ = (.func (.func 51) #[] #[(.pointer (some ⟨b6, 0, none⟩))])), (fun _ v_ => v_ = (.int .i64 ((cnt c (fun is_x0 => at3B sq is_x0))))), (fun _ v_ => v_ = (.pointer (some ⟨b5, 0, none⟩))), (fun _ v_ => v_ = (.int .i64 c.most)), (fun _ v_ => v_ = (.bool (decide (c.most ≤ (cnt c (fun is_x0 => at3B sq is_x0)))))), (fun _ _ => True), (fun _ v_ => v_ = (.bool (decide (c.most ≤ (cnt c (fun is_x0 => at3B sq is_x0))))))]) (fun done _ G' w => Cx w0 G0 G' w ∧ Bxs G' w w0.heap.size [(b15, 58, (((bestG (fun may_x0 => at1B sq c may_x0) (fun cmp_x0 cmp_x1 => orI [cmpI cmp_x0.view cmp_x1.view, cmpB cmp_x1.dig.l cmp_x0.dig.l]) ps default false).1)).cells), (b7, 30, (bif done 8 then ((.int .i64 sq) :: (Dig.zero.cells ++ [])) else ((.int .i64 0) :: (Dig.zero.cells ++ []))))] ∧ GLe G G') G (vAt_mono ⟨fun _ _ _ _ h => h, fun _ _ _ _ h => h, fun _ _ _ _ h => h, fun _ _ _ _ h => h, fun _ _ _ _ h => h, fun _ _ _ _ h => h, fun _ _ _ _ h => h, fun _ _ _ _ h => h, fun _ _ _ _ h => h, fun _ _ _ _ h => h, trivial⟩) (fun _ _ => ⟨hC.drew, by simpa using hB.drew, fun _ _ h => h⟩) ?_ ?_
   ·
    refine dsNone (j := 1) rfl ?_ ?_
    ·
     intro done G w ac_ hd hp hn ⟨hC, hB, hg⟩ hM
     replace hF9 := hF9.mono hg
     have f3 : ac_.tmps[3]? = some (.pointer (some ⟨b6, 0, none⟩)) := hM.old0 rfl rfl
     have hF := (hM.fr.add f3)
     exact OpVal.draw hF (opLoadOne (v := (.int .i64 sq)) rfl (RowG.cell hC.holds hF9 (j := 0) rfl) one3) ⟨G, fun _ _ h => h, ⟨hC, hB, hg⟩, rfl⟩
    refine dsNone (j := 2) rfl ?_ ?_
    ·
     intro done G w ac_ hd hp hn ⟨hC, hB, hg⟩ hM
     have f36 := hM.eqv (s := 36) 0 rfl (hp 0 rfl) rfl rfl
     have hF := (hM.fr.add f36)
     exact OpVal.draw hF (opBuild (ps := [(0, .tmp 36)]) (cs := ((.int .i64 sq) :: (Dig.zero.cells ++ []))) so30 zero30 rfl rfl (by simp [buildCells, Value.cells])) ⟨G, fun _ _ h => h, ⟨hC, hB, hg⟩, rfl⟩
    refine dsNone (j := 3) rfl ?_ ?_
    ·
     intro done G w ac_ hd hp hn ⟨hC, hB, hg⟩ hM
     replace hF11 := hF11.mono hg
     have f2 : ac_.tmps[2]? = some (.pointer (some ⟨b5, 0, none⟩)) := hM.old0 rfl rfl
     have hF := (hM.fr.add f2)
     exact OpVal.draw hF (opLoadRow (cs := [(.int .i64 c.most), (.int .i64 c.some_), (.slice A3 c.list.length cap4)]) rfl (RowG.range hC.holds (hF11.part (i := 0) (m := 3) rfl)) row70 rfl) ⟨G, fun _ _ h => h, ⟨hC, hB, hg⟩, rfl⟩
    refine dsNone (j := 4) rfl ?_ ?_
    ·
     intro done G w ac_ hd hp hn ⟨hC, hB, hg⟩ hM
     have f11 : ac_.tmps[11]? = some (.func (.func 51) #[] #[(.pointer (some ⟨b6, 0, none⟩))]) := hM.old0 rfl rfl
     have hF := (hM.fr.add f11)
     exact OpVal.draw hF (opMove rfl) ⟨G, fun _ _ h => h, ⟨hC, hB, hg⟩, rfl⟩
    refine dsNone (j := 5) rfl ?_ ?_
    ·
     intro done G w ac_ hd hp hn ⟨hC, hB, hg⟩ hM
     replace hs2 := hs2.mono hg
     replace hF9 := hF9.mono hg
     have f38 := hM.eqv (s := 38) 2 rfl (hp 2 rfl) rfl rfl
     have f39 := hM.eqv (s := 39) 3 rfl (hp 3 rfl) rfl rfl
     have hF := ((hM.fr.add f38).add f39)
     exact drawCallS hF rfl co38 rfl (count_ret _ _ hC.holds _ c (Council.mkIs (x := c) hs2) 51 [(.pointer (some ⟨b6, 0, none⟩))] (fun is_x0 => at3B sq is_x0) co51 (fun G w cis_x0 is_x0 hg hw hx0 => at3_ret G w hw _ is_x0 hx0 _ sq (hF9.mono hg) )) (fun w' hk => ⟨G, fun _ _ h => h, ⟨hC.trans hk, hB.ext hk, hg⟩, rfl⟩)
    refine dsNone (j := 6) rfl ?_ ?_
    ·
     intro done G w ac_ hd hp hn ⟨hC, hB, hg⟩ hM
     have f2 : ac_.tmps[2]? = some (.pointer (some ⟨b5, 0, none⟩)) := hM.old0 rfl rfl
     have hF := (hM.fr.add f2)
     exact OpVal.draw hF (opFieldAddr rfl fo70_0) ⟨G, fun _ _ h => h, ⟨hC, hB, hg⟩, rfl⟩
    refine dsNone (j := 7) rfl ?_ ?_
    ·
     intro done G w ac_ hd hp hn ⟨hC, hB, hg⟩ hM
     replace hF11 := hF11.mono hg
     have f41 := hM.eqv (s := 41) 5 rfl (hp 5 rfl) rfl rfl
     have hF := (hM.fr.add f41)
     exact OpVal.draw hF (opLoadOne (v := (.int .i64 c.most)) rfl (RowG.cell hC.holds hF11 (j := 0) rfl) one3) ⟨G, fun _ _ h => h, ⟨hC, hB, hg⟩, rfl⟩
    refine dsNone (j := 8) rfl ?_ ?_
    ·
     intro done G w ac_ hd hp hn ⟨hC, hB, hg⟩ hM
     have f40 := hM.eqv (s := 40) 4 rfl (hp 4 rfl) rfl rfl
     have f42 := hM.eqv (s := 42) 6 rfl (hp 6 rfl) rfl rfl
     have hF := ((hM.fr.add f40).add f42)
     exact OpVal.draw hF (opGeq rfl rfl) ⟨G, fun _ _ h => h, ⟨hC, hB, hg⟩, rfl⟩
    refine dsNone (j := 9) rfl ?_ ?_
    ·
     intro done G w ac_ hd hp hn ⟨hC, hB, hg⟩ hM
     have f4 : ac_.tmps[4]? = some (.pointer (some ⟨b7, 0, none⟩)) := hM.old0 rfl rfl
     have f37 := hM.eqv (s := 37) 1 rfl (hp 1 rfl) rfl rfl
     have hF := ((hM.fr.add f4).add f37)
     try simp only [hd, cond_false] at hB
     exact drawStore hF 1 (vs := ((.int .i64 sq) :: (Dig.zero.cells ++ []))) (cs := ((.int .i64 0) :: (Dig.zero.cells ++ []))) (cs' := ((.int .i64 sq) :: (Dig.zero.cells ++ []))) hC hB rfl rfl rfl sz30 rfl (by simp [Mark.cells, Stand.cells]) (by simp [Mark.cells, Stand.cells, Value.oneCell']) (by simp [Mark.cells, Stand.cells]) (by simp [Mark.cells, Stand.cells]) (fun w' hC hB => ⟨G, fun _ _ h => h, ⟨hC, by simpa [Done.set] using hB, hg⟩, trivial⟩)
    refine dsNone (j := 10) rfl ?_ ?_
    ·
     intro done G w ac_ hd hp hn ⟨hC, hB, hg⟩ hM
     have f43 := hM.eqv (s := 43) 7 rfl (hp 7 rfl) rfl rfl
     have hF := (hM.fr.add f43)
     exact OpVal.draw hF (opAssign rfl) ⟨G, fun _ _ h => h, ⟨hC, hB, hg⟩, rfl⟩
    exact dsNil
   ·
    intro done G w ac_ hall ⟨hC, hB, hg⟩ hM
    replace hs2 := hs2.mono hg
    replace hF9 := hF9.mono hg
    try simp only [hall 8 (by decide), cond_true] at hB
    have f4 : ac_.tmps[4]? = some (.pointer (some ⟨b7, 0, none⟩)) := hM.old0 rfl rfl
    have f5 := hM.eqv (s := 5) 9 rfl (hall 9 (by decide)) rfl rfl
    refine ⟨((Env.nil.put 4 (.pointer (some ⟨b7, 0, none⟩))).put 5 (.bool (decide (c.most ≤ (cnt c (fun is_x0 => at3B sq is_x0)))))), ((hM.fr.add f4).add f5), ?_⟩
    clear hM hall
    refine wcOf ?_
    refine wcRet ?_
    exact fun ac_ ha => hQ _ _ _ (results2 ha rfl ⟨_, _, ((.int .i64 sq) :: (Dig.zero.cells ++ [])), rfl, row30, (by simp [Mark.cells, Stand.cells]), hB.range (i := 1) (m := 33) rfl (by simp [Mark.cells, Stand.cells]), rfl⟩ rfl) ha.df (endS hC hw (by have hE : ps = c.list.flatMap (·.p) := (by rw [hI, List.take_of_length_le (Nat.le_of_not_lt (of_decide_eq_false h8))]); simp only [atI, atB, ← hE, h8, h16, cond_true, cond_false, Mark.cells]))
  ·
   skip
   refine wcCondT rfl ?_
   refine wcSeq (wcRegion ?_)
   refine wlVal (opLoadOne (v := (.int .i64 sq)) rfl (RowG.cell hC.holds hF9 (j := 0) rfl) one3) rfl ?_
   refine wlVal (opFieldAddr rfl fo58_1) rfl ?_
   refine wlVal (opLoadRow (cs := (((bestG (fun may_x0 => at1B sq c may_x0) (fun cmp_x0 cmp_x1 => orI [cmpI cmp_x0.view cmp_x1.view, cmpB cmp_x1.dig.l cmp_x0.dig.l]) ps default false).1).dig).cells) rfl (hB.range (i := 0) (m := 32) rfl (by simp [Mark.cells, Stand.cells])) row28 (by simp [Mark.cells, Stand.cells])) rfl ?_
   refine wlVal (opBuild (ps := [(0, .tmp 31), (1, .tmp 33)]) (cs := ((.int .i64 sq) :: ((((bestG (fun may_x0 => at1B sq c may_x0) (fun cmp_x0 cmp_x1 => orI [cmpI cmp_x0.view cmp_x1.view, cmpB cmp_x1.dig.l cmp_x0.dig.l]) ps default false).1).dig).cells ++ []))) so30 zero30 rfl rfl (by simp [buildCells, Value.cells])) rfl ?_
   refine wlStore 1 (vs := ((.int .i64 sq) :: ((((bestG (fun may_x0 => at1B sq c may_x0) (fun cmp_x0 cmp_x1 => orI [cmpI cmp_x0.view cmp_x1.view, cmpB cmp_x1.dig.l cmp_x0.dig.l]) ps default false).1).dig).cells ++ []))) (cs := ((.int .i64 0) :: (Dig.zero.cells ++ []))) (cs' := ((.int .i64 sq) :: ((((bestG (fun may_x0 => at1B sq c may_x0) (fun cmp_x0 cmp_x1 => orI [cmpI cmp_x0.view cmp_x1.view, cmpB cmp_x1.dig.l cmp_x0.dig.l]) ps default false).1).dig).cells ++ []))) hC hB rfl rfl rfl sz30 rfl (by simp [Mark.cells, Stand.cells]) (by simp [Mark.cells, Stand.cells, Value.oneCell']) (by simp [Mark.cells, Stand.cells]) (by simp [Mark.cells, Stand.cells]) rfl ?_; intro w hC hB
   refine wlVal (opAssign rfl) rfl ?_
   refine wlThen ?_
   refine wcRet ?_
   exact fun ac_ ha => hQ _ _ _ (results2 ha rfl ⟨_, _, ((.int .i64 sq) :: ((((bestG (fun may_x0 => at1B sq c may_x0) (fun cmp_x0 cmp_x1 => orI [cmpI cmp_x0.view cmp_x1.view, cmpB cmp_x1.dig.l cmp_x0.dig.l]) ps default false).1).dig).cells ++ [])), rfl, row30, (by simp [Mark.cells, Stand.cells]), hB.range (i := 1) (m := 33) rfl (by simp [Mark.cells, Stand.cells]), rfl⟩ rfl) ha.df (endS hC hw (by have hE : ps = c.list.flatMap (·.p) := (by rw [hI, List.take_of_length_le (Nat.le_of_not_lt (of_decide_eq_false h8))]); simp only [atI, atB, ← hE, h8, h16, cond_true, cond_false, Mark.cells]))
 ·
  skip
  refine wcCondT rfl ?_
  refine wcSkip ?_
  refine wcOf ?_
  refine wcSeq ?_
  refine wcBlock (wcSeq (wcRegion ?_))
  obtain ⟨x17, hx18⟩ : ∃ y_, c.list[k]? = some y_ := ⟨_, List.getElem?_eq_getElem (of_decide_eq_true h8)⟩
  obtain ⟨b19, o20, row21, hA24, hr22, hi23⟩ := hs2.elem hx18; subst hA24
  obtain ⟨v25, v27, v29, rfl, hs26, hs28, hs30⟩ := Change.opIs hi23
  obtain ⟨A31, cap32, rfl⟩ := hs26.form
  obtain ⟨A33, cap34, rfl⟩ := hs28.form
  obtain ⟨A35, cap36, rfl⟩ := hs30.form
  refine wlVal (opIndexAddr rfl rfl slo25 (of_decide_eq_true h8)) rfl ?_
  refine wlVal (opLoadRow (cs := [(.int .i64 x17.node), (.int .i64 x17.view), (.int .i64 x17.low), (.slice A31 x17.marks.length cap32), (.slice A33 x17.p.length cap34), (.slice A35 x17.q.length cap36)]) rfl (RowG.range hC.holds hr22) row49 rfl) rfl ?_
  refine wlAlloc hC hB zero49 rfl ?_; intro b37 w hk hC hB
  replace hB : Bxs G w w0.heap.size ([(b37, 49, [(.int .i64 0), (.int .i64 0), (.int .i64 0), (.slice none 0 0), (.slice none 0 0), (.slice none 0 0)]), (b7, 30, ((.int .i64 0) :: (Dig.zero.cells ++ []))), (b6, 3, [(.int .i64 sq)]), (b5, 70, [(.int .i64 c.most), (.int .i64 c.some_), (.slice (some ⟨b19, o20, none⟩) c.list.length cap4)])] ++ (Option.toList psO ++ [])) := hB
  refine wlStore 0 (vs := [(.int .i64 x17.node), (.int .i64 x17.view), (.int .i64 x17.low), (.slice A31 x17.marks.length cap32), (.slice A33 x17.p.length cap34), (.slice A35 x17.q.length cap36)]) (cs := [(.int .i64 0), (.int .i64 0), (.int .i64 0), (.slice none 0 0), (.slice none 0 0), (.slice none 0 0)]) (cs' := [(.int .i64 x17.node), (.int .i64 x17.view), (.int .i64 x17.low), (.slice A31 x17.marks.length cap32), (.slice A33 x17.p.length cap34), (.slice A35 x17.q.length cap36)]) hC hB rfl rfl rfl sz49 rfl rfl rfl (by simp [Mark.cells, Stand.cells]) rfl rfl ?_; intro w hC hB
  replace hB : Bxs G w w0.heap.size ([(b37, 49, [(.int .i64 x17.node), (.int .i64 x17.view), (.int .i64 x17.low), (.slice A31 x17.marks.length cap32), (.slice A33 x17.p.length cap34), (.slice A35 x17.q.length cap36)]), (b7, 30, ((.int .i64 0) :: (Dig.zero.cells ++ []))), (b6, 3, [(.int .i64 sq)]), (b5, 70, [(.int .i64 c.most), (.int .i64 c.some_), (.slice (some ⟨b19, o20, none⟩) c.list.length cap4)])] ++ (Option.toList psO ++ [])) := hB
  refine wlThen (wcRegion ?_)
  refine wlVal (opMove rfl) rfl ?_
  refine wlVal (opFieldAddr rfl fo49_4) rfl ?_
  refine wlVal (opLoadOne (v := (.slice A33 x17.p.length cap34)) rfl (hB.cell (i := 0) rfl rfl) one47) rfl ?_
  refine wlAppend (α := Stand) (bl := [(b37, 49, [(.int .i64 x17.node), (.int .i64 x17.view), (.int .i64 x17.low), (.slice A31 x17.marks.length cap32), (.slice A33 x17.p.length cap34), (.slice A35 x17.q.length cap36)]), (b7, 30, ((.int .i64 0) :: (Dig.zero.cells ++ []))), (b6, 3, [(.int .i64 sq)]), (b5, 70, [(.int .i64 c.most), (.int .i64 c.some_), (.slice (some ⟨b19, o20, none⟩) c.list.length cap4)])]) (o := psO) (r := []) elo47 hC hB rfl rfl hOps hs28 (by have := flat_le hs hx18; rw [hI]; omega) rfl rfl ?_; intro A38 cap39 o40 w hC hB hO41
  refine wlVal (opAssign rfl) rfl ?_
  refine wlNil ?_
  refine wcOf ?_
  refine wcRegion ?_
  refine wlVal (opIncr rfl rfl (incr_ok (of_decide_eq_true h8) hs2.le)) rfl ?_
  refine wlVal (opMove rfl) rfl ?_
  refine wlRound ?_
  exact (IH0 (k + 1, A38, cap39, o40, (ps ++ x17.p)) _ _ ⟨hC, hB.tail, hs2, hO41, (by rw [List.take_add_one, hx18]; simp [hI])⟩ (by have := of_decide_eq_true h8; simp; omega)).sub (fun _ ha => (((((((ha.start.cons ha (t := 2) rfl).cons ha (t := 3) rfl).cons ha (t := 4) rfl).cons ha (t := 6) rfl).cons ha (t := 13) rfl).cons ha (t := 14) rfl).cons ha (t := 15) rfl))

end Go.Proofs.Ytbhkoipmojdkhaa
