/- What functions of the pick seat return, part 19. No condition. -/
import Derived.Test.YtbhkoipmojdkhaaPkG18
import Derived.Test.YtbhkoipmojdkhaaGxMap
set_option linter.all false
namespace Go.Proofs.Ytbhkoipmojdkhaa
open Go Go.Gx Go.RowKit
def badB (p : Int → Bool) : List Int → List Change → Bool
  | _, [] => false
  | pre, x :: r => bif !p x.node || pre.any (fun y => y == x.node) then true else badB p (pre ++ [x.node]) r
def pickGo (co : Council) (lo : Mark) : Nat → Int → List Mark → Nat → Mark × List Mark × Int
  | 0, _, out, m => (lo, out.take m, 0)
  | f + 1, n, out, m => bif !(atI co n).2 then (Mark.mk 0 Dig.zero, [], 210) else pickGo co lo f (n + 1) (out ++ [(atI co n).1]) (bif decide ((atI co n).1.dig = Dig.zero) then m else out.length + 1)
theorem pickGo_step {co : Council} {lo : Mark} {f : Nat} {n : Int} {out : List Mark} {m : Nat} (h : 0 < f) : pickGo co lo f n out m =
    bif !(atI co n).2 then (Mark.mk 0 Dig.zero, [], 210) else pickGo co lo (f - 1) (n + 1) (out ++ [(atI co n).1]) (bif decide ((atI co n).1.dig = Dig.zero) then m else out.length + 1) := by
  cases f with
  | zero => omega
  | succ f => rfl
def selI (p : Int → Bool) (c : Crew) (l : List Change) : Mark × List Mark × Int :=
  bif check c != 0 then (Mark.mk 0 Dig.zero, [], 110) else bif badB p [] l then (Mark.mk 0 Dig.zero, [], 2) else
  bif decide (((l.length : Nat) : Int) < most c) || !(lowI (Council.mk (most c) (some_ c) l)).2 then (Mark.mk 0 Dig.zero, [], 210) else
  pickGo (Council.mk (most c) (some_ c) l) (lowI (Council.mk (most c) (some_ c) l)).1 8 ((lowI (Council.mk (most c) (some_ c) l)).1.seq + 1) [] 0
theorem bestG_may {α : Type} (may : α → Bool) (cmp : α → α → Int) : ∀ (l : List α) (o : α) (k : Bool), (k = true → may o = true) → (bestG may cmp l o k).2 = true → may (bestG may cmp l o k).1 = true
  | [], o, k, h, h2 => h h2
  | x :: r, o, k, h, h2 => by
    simp only [bestG] at h2 ⊢
    cases hx : may x && (!k || decide (0 < cmp x o)) with
    | true => simp only [hx, cond_true] at h2 ⊢; exact bestG_may may cmp r x true (fun _ => by simp at hx; exact hx.1) h2
    | false => simp only [hx, cond_false] at h2 ⊢; exact bestG_may may cmp r o k h h2
theorem lowI_rng {c : Council} (h : (lowI c).2 = true) : 0 ≤ (lowI c).1.seq ∧ (lowI c).1.seq ≤ 9007199254740983 := by
  have := bestG_may (fun x => lowMayB c x) _ _ _ _ (by intro h; cases h) h
  rw [lowMayB, Bool.and_eq_true, Bool.and_eq_true] at this
  exact ⟨of_decide_eq_true this.1, of_decide_eq_true this.2.1⟩
theorem co25 : callOk Try.prog 25 = true := by kernel_rfl
theorem co26 : callOk Try.prog 26 = true := by kernel_rfl
theorem so70 : structOk Try.prog 70 [(0, 1), (1, 1), (2, 1)] = true := by kernel_rfl
theorem zero70 : (Try.prog.info? 70).bind (fun i => i.zero.map Value.cells) = some ([(.int .i64 0), (.int .i64 0), (.slice none 0 0)] : List Value).toArray := by kernel_rfl
theorem sz70 : (Try.prog.info? 70).map (·.size) = some 3 := by kernel_rfl
theorem co27 : callOk Try.prog 27 = true := by kernel_rfl
theorem co28 : callOk Try.prog 28 = true := by kernel_rfl
theorem fo49_0 : fieldOk Try.prog 49 0 0 = true := by kernel_rfl
theorem co24 : callOk Try.prog 24 = true := by kernel_rfl
theorem im66 : intMapOk Try.prog 66 3 3 = true := by kernel_rfl
theorem zi3 : (Try.prog.info? 3).bind (fun i => i.zero) = some (.int .i64 0) := by kernel_rfl
theorem select_ret (G0 : Gh) (w0 : World) (hw : Holds G0 w0) (csc : List Value) (c : Crew) (hc : Rp.Is G0 csc c) (vl : Value) (l : List Change) (hl : Sl G0 vl l) (hsm : (l.flatMap (·.marks)).length ≤ 1000000) (hsp : (l.flatMap (·.p)).length ≤ 1000000) :
  RetO Try.prog 10 #[.agg csc.toArray, vl] G0 w0 (fun G o v => ∃ A cap, v = (.tuple #[(.agg ((selI (has c) c l).1).cells.toArray), (.slice A ((selI (has c) c l).2.1).length cap), (.int .i64 ((selI (has c) c l).2.2))]) ∧ Ow G o 30 (.slice A ((selI (has c) c l).2.1).length cap) ((selI (has c) c l).2.1)) := by
 have hC := Cx.refl hw
 have hB : Bxs G0 w0 w0.heap.size [] := Bxs.nil _ _ _
 obtain ⟨v1, rfl, hs2⟩ := Crew.opIs hc
 obtain ⟨A3, cap4, rfl⟩ := hs2.form
 obtain ⟨A5, cap6, rfl⟩ := hl.form
 refine callsOf Try.func10 rfl _ Try.ntmps10 rfl _ (argsCons (argsCons argsNil (t := 0) rfl) (t := 1) rfl) ?_; intro Q0 hQ
 refine wcSeq (wcRegion ?_)
 refine wlBox (cs := [(.int .i64 c.faults), (.slice A3 c.nodes.length cap4)]) hC hB rfl rfl rfl ?_; intro b7 w hk hC hB
 refine wlAlloc hC hB zero30 rfl ?_; intro b8 w hk hC hB
 refine wlVal (opAssign rfl) rfl ?_
 refine wlVal (opAssign rfl) rfl ?_
 refine wlThen (wcSeq (wcSeq (wcRegion ?_)))
 refine wlVal (opLoadRow (cs := [(.int .i64 c.faults), (.slice A3 c.nodes.length cap4)]) rfl (hB.range (i := 1) (m := 2) rfl rfl) row24 rfl) rfl ?_
 refine wlCallS hC hB rfl co23 rfl rfl (check_ret _ _ hC.holds _ c (Crew.mkIs (x := c) hs2)) ?_; intro w hk hC hB
 refine wlVal (opNeq rfl rfl) rfl ?_
 refine wlThen ?_
 cases h9 : ((check c)) != 0
 ·
  skip
  refine wcCondF rfl ?_
  refine wcSkip ?_
  refine wcOf ?_
  refine wcSeq (wcRegion ?_)
  refine wlMakeMap hC hB rfl ?_; intro b10 w hk hC hB hM11
  refine wlVal (opAssign rfl) rfl ?_
  refine wlThen (wcSeq (wcSeq (wcRegion ?_)))
  refine wlVal (opMove rfl) rfl ?_
  refine wlVal (opLen rfl isl25) rfl ?_
  refine wlVal (opMove rfl) rfl ?_
  refine wlThen ?_
  refine wcBlock ?_
  refine WC.sub (wrInd (ι := Nat) (fun k => l.length - k) (fun k G w => Cx w0 G0 G w ∧ Bxs G w w0.heap.size [(b8, 30, ((.int .i64 0) :: (Dig.zero.cells ++ []))), (b7, 24, [(.int .i64 c.faults), (.slice A3 c.nodes.length cap4)])] ∧ Sl G (.slice A3 c.nodes.length cap4) c.nodes ∧ Sl G (.slice A5 l.length cap6) l ∧ MapG G w w0.heap.size b10 (ones (((l.take k).map (·.node)))) ∧ badB (has c) ((l.take k).map (·.node)) (l.drop k) = badB (has c) [] l) (fun k => ((((((((Env.nil.put 1 (.slice A5 l.length cap6)).put 2 (.pointer (some ⟨b7, 0, none⟩))).put 4 (.pointer (some ⟨b8, 0, none⟩))).put 5 (.slice none 0 0)).put 7 (.map (some b10))).put 21 (.slice A5 l.length cap6)).put 22 (.int .i64 (((l.length : Nat) : Int)))).put 23 (.int .i64 (((k : Nat) : Int))))) ?_ (0) _ _ ⟨hC, hB, hs2, hl, (by simpa [ones] using hM11), (by simp)⟩) (fun _ ha => ((((((((ha.start.cons ha (t := 1) rfl).cons ha (t := 2) rfl).cons ha (t := 4) rfl).cons ha (t := 5) rfl).cons ha (t := 7) rfl).cons ha (t := 21) rfl).cons ha (t := 22) rfl).cons ha (t := 23) rfl))
  rintro k G w N0 IH0 ⟨hC, hB, hs2, hl, hM11, hI⟩
  show WC _ _ _ _ ((((((((Env.nil.put 1 (.slice A5 l.length cap6)).put 2 (.pointer (some ⟨b7, 0, none⟩))).put 4 (.pointer (some ⟨b8, 0, none⟩))).put 5 (.slice none 0 0)).put 7 (.map (some b10))).put 21 (.slice A5 l.length cap6)).put 22 (.int .i64 (((l.length : Nat) : Int)))).put 23 (.int .i64 (((k : Nat) : Int)))) w
  refine wcSeq (wcRegion ?_)
  refine wlVal (opLssN rfl rfl) rfl ?_
  refine wlThen (wcSeq ?_)
  cases h12 : decide (k < l.length)
  ·
   skip
   refine wcCondF rfl ?_
   refine wcExit ?_
   refine wcOf ?_
   refine wcSeq ?_
   refine wcDraw fmix (by kernel_rfl) (by kernel_rfl) (vAt [(fun _ v_ => v_ = (.agg [(.int .i64 c.faults), (.slice A3 c.nodes.length cap4)].toArray)), (fun _ v_ => v_ = (.int .i64 ((most c)))), (fun _ v_ => v_ = (.agg [(.int .i64 c.faults), (.slice A3 c.nodes.length cap4)].toArray)), (fun _ v_ => v_ = (.int .i64 ((some_ c)))), (fun _ v_ => v_ = (.slice A5 l.length cap6)), (fun _ v_ => v_ = (.agg [(.int .i64 ((most c))), (.int .i64 ((some_ c))), (.slice A5 l.length cap6)].toArray)), (fun _ _ => True), (fun _ _ => True)]) (fun done ac_ G' w => Cx w0 G0 G' w ∧ GLe G G' ∧ ∃ (B6 : Nat), (done 6 = true → ac_.tmps[10]? = some (.pointer (some ⟨B6, 0, none⟩))) ∧ Bxs G' w w0.heap.size ((bif done 6 then [(B6, 70, (bif done 7 then [(.int .i64 ((most c))), (.int .i64 ((some_ c))), (.slice A5 l.length cap6)] else [(.int .i64 0), (.int .i64 0), (.slice none 0 0)]))] else []) ++ [(b8, 30, ((.int .i64 0) :: (Dig.zero.cells ++ []))), (b7, 24, [(.int .i64 c.faults), (.slice A3 c.nodes.length cap4)])])) G (vAt_mono ⟨fun _ _ _ _ h => h, fun _ _ _ _ h => h, fun _ _ _ _ h => h, fun _ _ _ _ h => h, fun _ _ _ _ h => h, fun _ _ _ _ h => h, fun _ _ _ _ h => h, fun _ _ _ _ h => h, trivial⟩) (fun _ _ => ⟨hC.drew, fun _ _ h => h, 0, (fun h => by cases h), hB.drew⟩) ?_ ?_
   ·
    refine dsNone (j := 1) rfl ?_ ?_
    ·
     intro done G w ac_ hd hp hn ⟨hC, hg, B6, hT6, hBx⟩ hM
     have hB := (hBx.sub (List.sublist_append_right _ _))
     have f2 : ac_.tmps[2]? = some (.pointer (some ⟨b7, 0, none⟩)) := hM.old0 rfl rfl
     have hF := (hM.fr.add f2)
     exact OpVal.draw hF (opLoadRow (cs := [(.int .i64 c.faults), (.slice A3 c.nodes.length cap4)]) rfl (hB.range (i := 1) (m := 2) rfl rfl) row24 rfl) ⟨G, fun _ _ h => h, ⟨hC, hg, B6, (fun h => (put_other rfl).trans (hT6 h)), hBx⟩, rfl⟩
    refine dsNone (j := 2) rfl ?_ ?_
    ·
     intro done G w ac_ hd hp hn ⟨hC, hg, B6, hT6, hBx⟩ hM
     have hB := (hBx.sub (List.sublist_append_right _ _))
     replace hs2 := hs2.mono hg
     have f44 := hM.eqv (s := 44) 0 rfl (hp 0 rfl) rfl rfl
     have hF := (hM.fr.add f44)
     exact drawCallS hF rfl co25 rfl (most_ret _ _ hC.holds _ c (Crew.mkIs (x := c) hs2)) (fun w' hk => ⟨G, fun _ _ h => h, ⟨hC.trans hk, hg, B6, (fun h => (put_other rfl).trans (hT6 h)), hBx.ext hk⟩, rfl⟩)
    refine dsNone (j := 3) rfl ?_ ?_
    ·
     intro done G w ac_ hd hp hn ⟨hC, hg, B6, hT6, hBx⟩ hM
     have hB := (hBx.sub (List.sublist_append_right _ _))
     have f2 : ac_.tmps[2]? = some (.pointer (some ⟨b7, 0, none⟩)) := hM.old0 rfl rfl
     have hF := (hM.fr.add f2)
     exact OpVal.draw hF (opLoadRow (cs := [(.int .i64 c.faults), (.slice A3 c.nodes.length cap4)]) rfl (hB.range (i := 1) (m := 2) rfl rfl) row24 rfl) ⟨G, fun _ _ h => h, ⟨hC, hg, B6, (fun h => (put_other rfl).trans (hT6 h)), hBx⟩, rfl⟩
    refine dsNone (j := 4) rfl ?_ ?_
    ·
     intro done G w ac_ hd hp hn ⟨hC, hg, B6, hT6, hBx⟩ hM
     have hB := (hBx.sub (List.sublist_append_right _ _))
     replace hs2 := hs2.mono hg
     have f46 := hM.eqv (s := 46) 2 rfl (hp 2 rfl) rfl rfl
     have hF := (hM.fr.add f46)
     exact drawCallS hF rfl co26 rfl (some_ret _ _ hC.holds _ c (Crew.mkIs (x := c) hs2)) (fun w' hk => ⟨G, fun _ _ h => h, ⟨hC.trans hk, hg, B6, (fun h => (put_other rfl).trans (hT6 h)), hBx.ext hk⟩, rfl⟩)
    refine dsNone (j := 5) rfl ?_ ?_
    ·
     intro done G w ac_ hd hp hn ⟨hC, hg, B6, hT6, hBx⟩ hM
     have hB := (hBx.sub (List.sublist_append_right _ _))
     have f1 : ac_.tmps[1]? = some (.slice A5 l.length cap6) := hM.old0 rfl rfl
     have hF := (hM.fr.add f1)
     exact OpVal.draw hF (opMove rfl) ⟨G, fun _ _ h => h, ⟨hC, hg, B6, (fun h => (put_other rfl).trans (hT6 h)), hBx⟩, rfl⟩
    refine dsNone (j := 6) rfl ?_ ?_
    ·
     intro done G w ac_ hd hp hn ⟨hC, hg, B6, hT6, hBx⟩ hM
     have hB := (hBx.sub (List.sublist_append_right _ _))
     have f45 := hM.eqv (s := 45) 1 rfl (hp 1 rfl) rfl rfl
     have f47 := hM.eqv (s := 47) 3 rfl (hp 3 rfl) rfl rfl
     have f48 := hM.eqv (s := 48) 4 rfl (hp 4 rfl) rfl rfl
     have hF := (((hM.fr.add f45).add f47).add f48)
     exact OpVal.draw hF (opBuild (ps := [(0, .tmp 45), (1, .tmp 47), (2, .tmp 48)]) (cs := [(.int .i64 ((most c))), (.int .i64 ((some_ c))), (.slice A5 l.length cap6)]) so70 zero70 rfl rfl (by simp [buildCells, Value.cells])) ⟨G, fun _ _ h => h, ⟨hC, hg, B6, (fun h => (put_other rfl).trans (hT6 h)), hBx⟩, rfl⟩
    refine dsNone (j := 7) rfl ?_ ?_
    ·
     intro done G w ac_ hd hp hn ⟨hC, hg, B6, hT6, hBx⟩ hM
     have hB := (hBx.sub (List.sublist_append_right _ _))
     have hF := hM.fr
     simp only [hd, hn 7 _ rfl rfl, cond_false, List.nil_append] at hBx
     exact drawAlloc (cs := [(.int .i64 0), (.int .i64 0), (.slice none 0 0)]) hF hC hBx zero70 (fun b w' hC hB => ⟨G, fun _ _ h => h, ⟨hC, hg, b, (fun _ => put_same hM.sz rfl), by simpa [Done.set, hn 7 _ rfl rfl] using hB⟩, trivial⟩)
    refine dsNone (j := 8) rfl ?_ ?_
    ·
     intro done G w ac_ hd hp hn ⟨hC, hg, B6, hT6, hBx⟩ hM
     have hB := (hBx.sub (List.sublist_append_right _ _))
     have f10 := hT6 (hp 6 rfl)
     have f49 := hM.eqv (s := 49) 5 rfl (hp 5 rfl) rfl rfl
     have hF := ((hM.fr.add f10).add f49)
     simp only [hp 6 rfl, hd, cond_true, cond_false] at hBx
     exact drawStoreX (X := []) (vs := [(.int .i64 ((most c))), (.int .i64 ((some_ c))), (.slice A5 l.length cap6)]) (cs := [(.int .i64 0), (.int .i64 0), (.slice none 0 0)]) (cs' := [(.int .i64 ((most c))), (.int .i64 ((some_ c))), (.slice A5 l.length cap6)]) hF hC hBx rfl rfl sz70 rfl rfl rfl (by simp [Mark.cells, Stand.cells]) rfl (fun w' hC hB => ⟨G, fun _ _ h => h, ⟨hC, hg, B6, (fun h => (hT6 h)), by simpa [Done.set, hp 6 rfl] using hB⟩, trivial⟩)
    exact dsNil
   ·
    intro done G w ac_ hall ⟨hC, hg, b13, hT6, hB⟩ hM
    replace hs2 := hs2.mono hg
    replace hl := hl.mono hg
    simp only [hall 6 (by decide), hall 7 (by decide), cond_true] at hB
    have f1 : ac_.tmps[1]? = some (.slice A5 l.length cap6) := hM.old0 rfl rfl
    have f4 : ac_.tmps[4]? = some (.pointer (some ⟨b8, 0, none⟩)) := hM.old0 rfl rfl
    have f5 : ac_.tmps[5]? = some (.slice none 0 0) := hM.old0 rfl rfl
    have f10 := hT6 (hall 6 (by decide))
    replace hB : Bxs G w w0.heap.size [(b13, 70, [(.int .i64 ((most c))), (.int .i64 ((some_ c))), (.slice A5 l.length cap6)]), (b8, 30, ((.int .i64 0) :: (Dig.zero.cells ++ []))), (b7, 24, [(.int .i64 c.faults), (.slice A3 c.nodes.length cap4)])] := hB
    refine ⟨((((Env.nil.put 1 (.slice A5 l.length cap6)).put 4 (.pointer (some ⟨b8, 0, none⟩))).put 5 (.slice none 0 0)).put 10 (.pointer (some ⟨b13, 0, none⟩))), ((((hM.fr.add f1).add f4).add f5).add f10), ?_⟩
    clear hM hall
    refine wcOf ?_
    refine wcSeq (wcRegion ?_)
    refine wlVal (opLoadRow (cs := [(.int .i64 ((most c))), (.int .i64 ((some_ c))), (.slice A5 l.length cap6)]) rfl (hB.range (i := 0) (m := 3) rfl rfl) row70 rfl) rfl ?_
    refine wlCallS hC hB rfl co27 rfl rfl (low_ret _ _ hC.holds _ ((Council.mk ((most c)) ((some_ c)) l)) (Council.mkIs (x := (Council.mk ((most c)) ((some_ c)) l)) hl) hsm) ?_; intro w hk hC hB
    refine wlVal (opMove rfl) rfl ?_
    refine wlVal (opExtract rfl rfl) rfl ?_
    refine wlVal (opExtract rfl rfl) rfl ?_
    refine wlStore 1 (vs := (((lowI ((Council.mk ((most c)) ((some_ c)) l))).1)).cells) (cs := ((.int .i64 0) :: (Dig.zero.cells ++ []))) (cs' := (((lowI ((Council.mk ((most c)) ((some_ c)) l))).1)).cells) hC hB rfl rfl rfl sz30 rfl (by simp [Mark.cells, Stand.cells]) (by simp [Mark.cells, Stand.cells, Value.oneCell']) (by simp [Mark.cells, Stand.cells]) (by simp [Mark.cells, Stand.cells]) rfl ?_; intro w hC hB
    refine wlVal (opAssign rfl) rfl ?_
    refine wlThen (wcSeq (wcSeq (wcRegion ?_)))
    refine wlVal (opMove rfl) rfl ?_
    refine wlVal (opLen rfl isl25) rfl ?_
    refine wlVal (opFieldAddr rfl fo70_0) rfl ?_
    refine wlVal (opLoadOne (v := (.int .i64 ((most c)))) rfl (hB.cell (i := 0) rfl rfl) one3) rfl ?_
    refine wlVal (opLss rfl rfl) rfl ?_
    refine wlVal (opMove rfl) rfl ?_
    cases h14 : decide (((l.length : Nat) : Int) < (most c))
    ·
     skip
     refine wlOn rfl rfl ?_
     refine wlVal (opMove rfl) rfl ?_
     refine wlOn rfl rfl ?_
     refine wlVal (opNot rfl) rfl ?_
     refine wlVal (opPickF rfl rfl) rfl ?_
     refine wlThen ?_
     cases h15 : ((lowI ((Council.mk ((most c)) ((some_ c)) l))).2)
     ·
      skip
      refine wcCondT rfl ?_
      refine wcSeq (wcRegion ?_)
      refine wlVal (opBuild (ps := []) (cs := ((.int .i64 0) :: (Dig.zero.cells ++ []))) so30 zero30 rfl rfl (by simp [buildCells, Value.cells])) rfl ?_
      refine wlStore 1 (vs := ((.int .i64 0) :: (Dig.zero.cells ++ []))) (cs := (((lowI ((Council.mk ((most c)) ((some_ c)) l))).1)).cells) (cs' := ((.int .i64 0) :: (Dig.zero.cells ++ []))) hC hB rfl rfl rfl sz30 rfl (by simp [Mark.cells, Stand.cells]) (by simp [Mark.cells, Stand.cells, Value.oneCell']) (by simp [Mark.cells, Stand.cells]) (by simp [Mark.cells, Stand.cells]) rfl ?_; intro w hC hB
      refine wlVal (opAssign rfl) rfl ?_
      refine wlVal (opAssign rfl) rfl ?_
      refine wlThen ?_
      refine wcRet ?_
      exact fun ac_ ha => hQ _ _ _ (results3 ha rfl ⟨_, _, ((.int .i64 0) :: (Dig.zero.cells ++ [])), rfl, row30, (by simp [Mark.cells, Stand.cells]), hB.range (i := 1) (m := 33) rfl (by simp [Mark.cells, Stand.cells]), rfl⟩ rfl rfl) ha.df (endO (bl := [(b13, 70, [(.int .i64 ((most c))), (.int .i64 ((some_ c))), (.slice A5 l.length cap6)]), (b8, 30, ((.int .i64 0) :: (Dig.zero.cells ++ []))), (b7, 24, [(.int .i64 c.faults), (.slice A3 c.nodes.length cap4)])]) (o := none) (r := []) hC hB (by have e : selI (has c) c l = ((Mark.mk 0 Dig.zero), [], 210) := (by have eb := hI; rw [List.drop_eq_nil_of_le (Nat.le_of_not_lt (of_decide_eq_false h12))] at eb; simp only [badB] at eb; simp only [selI, h9, ← eb, h14, h15, cond_true, cond_false, Bool.false_or, Bool.not_true, Bool.not_false]); rw [e]; exact ⟨_, _, rfl, (Ow.nil_ _ 30)⟩))
     ·
      skip
      refine wcCondF rfl ?_
      refine wcSkip ?_
      refine wcOf ?_
      refine wcSeq (wcRegion ?_)
      refine wlVal (opAssign rfl) rfl ?_
      refine wlThen (wcSeq (wcSeq (wcRegion ?_)))
      refine wlVal (opFieldAddr rfl fo30_0) rfl ?_
      refine wlVal (opLoadOne (v := (.int .i64 (((lowI ((Council.mk ((most c)) ((some_ c)) l))).1).seq))) rfl (hB.cell (i := 1) rfl (by simp [Mark.cells, Stand.cells])) one3) rfl ?_
      refine wlVal (opAdd rfl rfl) rfl ?_
      refine wlVal (opAssign rfl) rfl ?_
      refine wlThen ?_
      refine wcBlock ?_
      refine WC.sub (wrInd (ι := Int × Nat × (Option Addr) × Nat × (Option Bx) × (List Mark) × Nat) (fun i => match i with | (n, m, outA, outC, outO, out, f) => f) (fun i G w => match i with | (n, m, outA, outC, outO, out, f) => Cx w0 G0 G w ∧ Bxs G w w0.heap.size ([(b13, 70, [(.int .i64 ((most c))), (.int .i64 ((some_ c))), (.slice A5 l.length cap6)]), (b8, 30, (((lowI ((Council.mk ((most c)) ((some_ c)) l))).1)).cells), (b7, 24, [(.int .i64 c.faults), (.slice A3 c.nodes.length cap4)])] ++ (Option.toList outO ++ [])) ∧ Sl G (.slice A3 c.nodes.length cap4) c.nodes ∧ Sl G (.slice A5 l.length cap6) l ∧ Ow G outO 30 (.slice outA out.length outC) out ∧ f ≤ 8 ∧ n = (lowI (Council.mk (most c) (some_ c) l)).1.seq + 9 - f ∧ out.length + f = 8 ∧ m ≤ out.length ∧ pickGo (Council.mk (most c) (some_ c) l) (lowI (Council.mk (most c) (some_ c) l)).1 f n out m = pickGo (Council.mk (most c) (some_ c) l) (lowI (Council.mk (most c) (some_ c) l)).1 8 ((lowI (Council.mk (most c) (some_ c) l)).1.seq + 1) [] 0) (fun i => match i with | (n, m, outA, outC, outO, out, f) => (((((Env.nil.put 4 (.pointer (some ⟨b8, 0, none⟩))).put 5 (.slice outA out.length outC)).put 10 (.pointer (some ⟨b13, 0, none⟩))).put 12 (.int .i64 (((m : Nat) : Int)))).put 13 (.int .i64 n))) ?_ (IntKind.wrap .i64 (((lowI ((Council.mk ((most c)) ((some_ c)) l))).1).seq + 1), 0, none, 0, none, [], 8) _ _ ⟨hC, hB, hs2, hl, (Ow.nil_ _ 30), (Nat.le_refl _), (by have hlo := lowI_rng h15; rw [IntWalk.i64_in _ (by omega)]; omega), rfl, (Nat.le_refl _), (by have hlo := lowI_rng h15; rw [IntWalk.i64_in _ (by omega)])⟩) (fun _ ha => (((((ha.start.cons ha (t := 4) rfl).cons ha (t := 5) rfl).cons ha (t := 10) rfl).cons ha (t := 12) rfl).cons ha (t := 13) rfl))
      rintro ⟨n, m, outA, outC, outO, out, f⟩ G w N1 IH1 ⟨hC, hB, hs2, hl, hOout, hf, hn, ho, hm2, hJ⟩
      show WC _ _ _ _ (((((Env.nil.put 4 (.pointer (some ⟨b8, 0, none⟩))).put 5 (.slice outA out.length outC)).put 10 (.pointer (some ⟨b13, 0, none⟩))).put 12 (.int .i64 (((m : Nat) : Int)))).put 13 (.int .i64 n)) w
      refine wcSeq (wcSeq (wcRegion ?_))
      refine wlVal (opMove rfl) rfl ?_
      refine wlVal (opFieldAddr rfl fo30_0) rfl ?_
      refine wlVal (opLoadOne (v := (.int .i64 (((lowI ((Council.mk ((most c)) ((some_ c)) l))).1).seq))) rfl (hB.cell (i := 1) rfl (by simp [Mark.cells, Stand.cells])) one3) rfl ?_
      refine wlVal (opAdd rfl rfl) rfl ?_
      refine wlVal (opLeq rfl rfl) rfl ?_
      refine wlThen ?_
      cases h16 : decide (n ≤ IntKind.wrap .i64 (((lowI ((Council.mk ((most c)) ((some_ c)) l))).1).seq + 8))
      ·
       skip
       refine wcCondF rfl ?_
       refine wcExit ?_
       refine wcOf ?_
       refine wcSeq ?_
       refine wcDraw fmix (by kernel_rfl) (by kernel_rfl) (vAt [(fun _ v_ => v_ = (.agg (((lowI ((Council.mk ((most c)) ((some_ c)) l))).1)).cells.toArray)), (fun _ v_ => v_ = (.slice outA out.length outC)), (fun _ v_ => v_ = (.int .i64 (((m : Nat) : Int)))), (fun _ v_ => v_ = (.slice outA m outC)), (fun _ _ => True), (fun _ v_ => v_ = (.slice outA m outC)), (fun _ v_ => v_ = (.int .i64 0))]) (fun done _ G' w => Cx w0 G0 G' w ∧ Bxs G' w w0.heap.size ([(b13, 70, [(.int .i64 ((most c))), (.int .i64 ((some_ c))), (.slice A5 l.length cap6)]), (b8, 30, (((lowI ((Council.mk ((most c)) ((some_ c)) l))).1)).cells), (b7, 24, [(.int .i64 c.faults), (.slice A3 c.nodes.length cap4)])] ++ (Option.toList outO ++ [])) ∧ GLe G G') G (vAt_mono ⟨fun _ _ _ _ h => h, fun _ _ _ _ h => h, fun _ _ _ _ h => h, fun _ _ _ _ h => h, fun _ _ _ _ h => h, fun _ _ _ _ h => h, fun _ _ _ _ h => h, trivial⟩) (fun _ _ => ⟨hC.drew, by simpa using hB.drew, fun _ _ h => h⟩) ?_ ?_
       ·
        refine dsNone (j := 1) rfl ?_ ?_
        ·
         intro done G w ac_ hd hp hn ⟨hC, hB, hg⟩ hM
         have hBx := hB
         try simp only [hn 4 _ rfl rfl, cond_false] at hB
         have f4 : ac_.tmps[4]? = some (.pointer (some ⟨b8, 0, none⟩)) := hM.old0 rfl rfl
         have hF := (hM.fr.add f4)
         exact OpVal.draw hF (opLoadRow (cs := (((lowI ((Council.mk ((most c)) ((some_ c)) l))).1)).cells) rfl (hB.range (i := 1) (m := 33) rfl (by simp [Mark.cells, Stand.cells])) row30 (by simp [Mark.cells, Stand.cells])) ⟨G, fun _ _ h => h, ⟨hC, hBx, hg⟩, rfl⟩
        refine dsNone (j := 2) rfl ?_ ?_
        ·
         intro done G w ac_ hd hp hn ⟨hC, hB, hg⟩ hM
         have f5 : ac_.tmps[5]? = some (.slice outA out.length outC) := hM.oldK rfl (k := 5) rfl rfl (hn 5 _ rfl rfl)
         have hF := (hM.fr.add f5)
         exact OpVal.draw hF (opMove rfl) ⟨G, fun _ _ h => h, ⟨hC, hB, hg⟩, rfl⟩
        refine dsNone (j := 3) rfl ?_ ?_
        ·
         intro done G w ac_ hd hp hn ⟨hC, hB, hg⟩ hM
         have f12 : ac_.tmps[12]? = some (.int .i64 (((m : Nat) : Int))) := hM.old0 rfl rfl
         have hF := (hM.fr.add f12)
         exact OpVal.draw hF (opMove rfl) ⟨G, fun _ _ h => h, ⟨hC, hB, hg⟩, rfl⟩
        refine dsNone (j := 4) rfl ?_ ?_
        ·
         intro done G w ac_ hd hp hn ⟨hC, hB, hg⟩ hM
         replace hOout := hOout.mono hg
         have f95 := hM.eqv (s := 95) 1 rfl (hp 1 rfl) rfl rfl
         have f96 := hM.eqv (s := 96) 2 rfl (hp 2 rfl) rfl rfl
         have hF := ((hM.fr.add f95).add f96)
         exact OpVal.draw hF (opSliceTo slo31 rfl rfl (Nat.le_trans hm2 (by have := hOout.capLe; simpa using this))) ⟨G, fun _ _ h => h, ⟨hC, hB, hg⟩, rfl⟩
        refine dsNone (j := 5) rfl ?_ ?_
        ·
         intro done G w ac_ hd hp hn ⟨hC, hB, hg⟩ hM
         have f4 : ac_.tmps[4]? = some (.pointer (some ⟨b8, 0, none⟩)) := hM.old0 rfl rfl
         have f94 := hM.eqv (s := 94) 0 rfl (hp 0 rfl) rfl rfl
         have hF := ((hM.fr.add f4).add f94)
         try simp only [hd, cond_false] at hB
         exact drawStore hF 1 (vs := (((lowI ((Council.mk ((most c)) ((some_ c)) l))).1)).cells) (cs := (((lowI ((Council.mk ((most c)) ((some_ c)) l))).1)).cells) (cs' := (((lowI ((Council.mk ((most c)) ((some_ c)) l))).1)).cells) hC hB rfl rfl rfl sz30 rfl (by simp [Mark.cells, Stand.cells]) (by simp [Mark.cells, Stand.cells, Value.oneCell']) (by simp [Mark.cells, Stand.cells]) (by simp [Mark.cells, Stand.cells]) (fun w' hC hB => ⟨G, fun _ _ h => h, ⟨hC, by simpa [Done.set] using hB, hg⟩, trivial⟩)
        refine dsNone (j := 6) rfl ?_ ?_
        ·
         intro done G w ac_ hd hp hn ⟨hC, hB, hg⟩ hM
         have f97 := hM.eqv (s := 97) 3 rfl (hp 3 rfl) rfl rfl
         have hF := (hM.fr.add f97)
         exact OpVal.draw hF (opAssign rfl) ⟨G, fun _ _ h => h, ⟨hC, hB, hg⟩, rfl⟩
        refine dsNone (j := 7) rfl ?_ ?_
        ·
         intro done G w ac_ hd hp hn ⟨hC, hB, hg⟩ hM
         have hF := hM.fr
         exact OpVal.draw hF (opAssign rfl) ⟨G, fun _ _ h => h, ⟨hC, hB, hg⟩, rfl⟩
        exact dsNil
       ·
        intro done G w ac_ hall ⟨hC, hB, hg⟩ hM
        replace hs2 := hs2.mono hg
        replace hl := hl.mono hg
        replace hOout := hOout.mono hg
        try simp only [hall 4 (by decide), cond_true] at hB
        have f4 : ac_.tmps[4]? = some (.pointer (some ⟨b8, 0, none⟩)) := hM.old0 rfl rfl
        have f5 := hM.eqv (s := 5) 5 rfl (hall 5 (by decide)) rfl rfl
        have f6 := hM.eqv (s := 6) 6 rfl (hall 6 (by decide)) rfl rfl
        refine ⟨(((Env.nil.put 4 (.pointer (some ⟨b8, 0, none⟩))).put 5 (.slice outA m outC)).put 6 (.int .i64 0)), (((hM.fr.add f4).add f5).add f6), ?_⟩
        clear hM hall
        refine wcOf ?_
        refine wcRet ?_
        exact fun ac_ ha => hQ _ _ _ (results3 ha rfl ⟨_, _, (((lowI ((Council.mk ((most c)) ((some_ c)) l))).1)).cells, rfl, row30, (by simp [Mark.cells, Stand.cells]), hB.range (i := 1) (m := 33) rfl (by simp [Mark.cells, Stand.cells]), rfl⟩ rfl rfl) ha.df (endO (bl := [(b13, 70, [(.int .i64 ((most c))), (.int .i64 ((some_ c))), (.slice A5 l.length cap6)]), (b8, 30, (((lowI ((Council.mk ((most c)) ((some_ c)) l))).1)).cells), (b7, 24, [(.int .i64 c.faults), (.slice A3 c.nodes.length cap4)])]) (o := outO) (r := []) hC hB (by have e : selI (has c) c l = (((lowI ((Council.mk ((most c)) ((some_ c)) l))).1), (out.take m), 0) := (by have eb := hI; rw [List.drop_eq_nil_of_le (Nat.le_of_not_lt (of_decide_eq_false h12))] at eb; simp only [badB] at eb; simp only [selI, h9, ← eb, h14, h15, cond_true, cond_false, Bool.false_or, Bool.not_true, Bool.not_false]; have hlo := lowI_rng h15; have hf0 : f = 0 := (by have q := of_decide_eq_false h16; rw [IntWalk.i64_in _ (by omega)] at q; omega); subst hf0; rw [← hJ]; rfl); have hl : (out.take m).length = m := (by simp; omega); rw [e]; exact ⟨outA, outC, (by show Value.tuple #[_, .slice _ m _, _] = .tuple #[_, .slice _ (out.take m).length _, _]; rw [hl]), (by show Ow _ _ _ (.slice _ (out.take m).length _) (out.take m); rw [hl]; exact (Ow.take hOout hm2))⟩))
      ·
       skip
       refine wcCondT rfl ?_
       refine wcSkip ?_
       refine wcOf ?_
       refine wcSeq ?_
       refine wcBlock (wcSeq (wcRegion ?_))
       refine wlVal (opLoadRow (cs := [(.int .i64 ((most c))), (.int .i64 ((some_ c))), (.slice A5 l.length cap6)]) rfl (hB.range (i := 0) (m := 3) rfl rfl) row70 rfl) rfl ?_
       refine wlVal (opMove rfl) rfl ?_
       refine wlCallS hC hB rfl co28 rfl rfl (at_ret _ _ hC.holds _ ((Council.mk ((most c)) ((some_ c)) l)) (Council.mkIs (x := (Council.mk ((most c)) ((some_ c)) l)) hl) n hsp) ?_; intro w hk hC hB
       refine wlVal (opMove rfl) rfl ?_
       refine wlVal (opExtract rfl rfl) rfl ?_
       refine wlVal (opExtract rfl rfl) rfl ?_
       refine wlAlloc hC hB zero30 rfl ?_; intro b17 w hk hC hB
       replace hB : Bxs G w w0.heap.size ([(b17, 30, ((.int .i64 0) :: (Dig.zero.cells ++ []))), (b13, 70, [(.int .i64 ((most c))), (.int .i64 ((some_ c))), (.slice A5 l.length cap6)]), (b8, 30, (((lowI ((Council.mk ((most c)) ((some_ c)) l))).1)).cells), (b7, 24, [(.int .i64 c.faults), (.slice A3 c.nodes.length cap4)])] ++ (Option.toList outO ++ [])) := hB
       refine wlStore 0 (vs := (((atI ((Council.mk ((most c)) ((some_ c)) l)) n).1)).cells) (cs := ((.int .i64 0) :: (Dig.zero.cells ++ []))) (cs' := (((atI ((Council.mk ((most c)) ((some_ c)) l)) n).1)).cells) hC hB rfl rfl rfl sz30 rfl (by simp [Mark.cells, Stand.cells]) (by simp [Mark.cells, Stand.cells, Value.oneCell']) (by simp [Mark.cells, Stand.cells]) (by simp [Mark.cells, Stand.cells]) rfl ?_; intro w hC hB
       replace hB : Bxs G w w0.heap.size ([(b17, 30, (((atI ((Council.mk ((most c)) ((some_ c)) l)) n).1)).cells), (b13, 70, [(.int .i64 ((most c))), (.int .i64 ((some_ c))), (.slice A5 l.length cap6)]), (b8, 30, (((lowI ((Council.mk ((most c)) ((some_ c)) l))).1)).cells), (b7, 24, [(.int .i64 c.faults), (.slice A3 c.nodes.length cap4)])] ++ (Option.toList outO ++ [])) := hB
       refine wlVal (opAssign rfl) rfl ?_
       refine wlThen (wcSeq (wcSeq (wcRegion ?_)))
       refine wlVal (opMove rfl) rfl ?_
       refine wlVal (opNot rfl) rfl ?_
       refine wlThen ?_
       cases h18 : ((atI ((Council.mk ((most c)) ((some_ c)) l)) n).2)
       ·
        skip
        refine wcCondT rfl ?_
        refine wcSeq (wcRegion ?_)
        refine wlVal (opBuild (ps := []) (cs := ((.int .i64 0) :: (Dig.zero.cells ++ []))) so30 zero30 rfl rfl (by simp [buildCells, Value.cells])) rfl ?_
        refine wlStore 2 (vs := ((.int .i64 0) :: (Dig.zero.cells ++ []))) (cs := (((lowI ((Council.mk ((most c)) ((some_ c)) l))).1)).cells) (cs' := ((.int .i64 0) :: (Dig.zero.cells ++ []))) hC hB rfl rfl rfl sz30 rfl (by simp [Mark.cells, Stand.cells]) (by simp [Mark.cells, Stand.cells, Value.oneCell']) (by simp [Mark.cells, Stand.cells]) (by simp [Mark.cells, Stand.cells]) rfl ?_; intro w hC hB
        replace hB : Bxs G w w0.heap.size ([(b17, 30, (((atI ((Council.mk ((most c)) ((some_ c)) l)) n).1)).cells), (b13, 70, [(.int .i64 ((most c))), (.int .i64 ((some_ c))), (.slice A5 l.length cap6)]), (b8, 30, ((.int .i64 0) :: (Dig.zero.cells ++ []))), (b7, 24, [(.int .i64 c.faults), (.slice A3 c.nodes.length cap4)])] ++ (Option.toList outO ++ [])) := hB
        refine wlVal (opAssign rfl) rfl ?_
        refine wlVal (opAssign rfl) rfl ?_
        refine wlThen ?_
        refine wcRet ?_
        exact fun ac_ ha => hQ _ _ _ (results3 ha rfl ⟨_, _, ((.int .i64 0) :: (Dig.zero.cells ++ [])), rfl, row30, (by simp [Mark.cells, Stand.cells]), hB.range (i := 2) (m := 33) rfl (by simp [Mark.cells, Stand.cells]), rfl⟩ rfl rfl) ha.df (endO (bl := [(b17, 30, (((atI ((Council.mk ((most c)) ((some_ c)) l)) n).1)).cells), (b13, 70, [(.int .i64 ((most c))), (.int .i64 ((some_ c))), (.slice A5 l.length cap6)]), (b8, 30, ((.int .i64 0) :: (Dig.zero.cells ++ []))), (b7, 24, [(.int .i64 c.faults), (.slice A3 c.nodes.length cap4)])]) (o := none) (r := (Option.toList outO ++ [])) hC hB (by have e : selI (has c) c l = ((Mark.mk 0 Dig.zero), [], 210) := (by have eb := hI; rw [List.drop_eq_nil_of_le (Nat.le_of_not_lt (of_decide_eq_false h12))] at eb; simp only [badB] at eb; simp only [selI, h9, ← eb, h14, h15, cond_true, cond_false, Bool.false_or, Bool.not_true, Bool.not_false]; have hlo := lowI_rng h15; have hfp : 0 < f := (by have q := of_decide_eq_true h16; rw [IntWalk.i64_in _ (by omega)] at q; omega); rw [← hJ, pickGo_step hfp]; simp only [h18, Bool.not_false, cond_true]); rw [e]; exact ⟨_, _, rfl, (Ow.nil_ _ 30)⟩))
       ·
        skip
        refine wcCondF rfl ?_
        refine wcSkip ?_
        refine wcOf ?_
        refine wcSeq (wcRegion ?_)
        refine wlVal (opMove rfl) rfl ?_
        refine wlVal (opLoadRow (cs := (((atI ((Council.mk ((most c)) ((some_ c)) l)) n).1)).cells) rfl (hB.range (i := 0) (m := 33) rfl (by simp [Mark.cells, Stand.cells])) row30 (by simp [Mark.cells, Stand.cells])) rfl ?_
        refine wlBuildSlice (α := Mark) (ps := [(0, .tmp 85)]) (xs := [((atI ((Council.mk ((most c)) ((some_ c)) l)) n).1)]) (rows := [(((atI ((Council.mk ((most c)) ((some_ c)) l)) n).1)).cells]) elo31 rfl rfl hC hB rfl rfl rfl ⟨rfl, trivial⟩ rfl ?_; intro b19 G w hk hC hB hs20
        replace hs2 := hs2.mono hk.gle; replace hl := hl.mono hk.gle; replace hOout := hOout.mono hk.gle
        refine wlAppend (α := Mark) (bl := [(b17, 30, (((atI ((Council.mk ((most c)) ((some_ c)) l)) n).1)).cells), (b13, 70, [(.int .i64 ((most c))), (.int .i64 ((some_ c))), (.slice A5 l.length cap6)]), (b8, 30, (((lowI ((Council.mk ((most c)) ((some_ c)) l))).1)).cells), (b7, 24, [(.int .i64 c.faults), (.slice A3 c.nodes.length cap4)])]) (o := outO) (r := []) elo31 hC hB rfl rfl hOout hs20 (by simp; omega) rfl rfl ?_; intro A21 cap22 o23 w hC hB hO24
        refine wlVal (opAssign rfl) rfl ?_
        refine wlThen (wcSeq (wcRegion ?_))
        refine wlVal (opFieldAddr rfl fo30_1) rfl ?_
        refine wlVal (opLoadRow (cs := (((atI ((Council.mk ((most c)) ((some_ c)) l)) n).1).dig).cells) rfl (hB.range (i := 0) (m := 32) rfl (by simp [Mark.cells, Stand.cells])) row28 (by simp [Mark.cells, Stand.cells])) rfl ?_
        refine wlVal (opBuildArr (ps := []) (cs := Dig.zero.cells) ar28 zero28 rfl rfl (by first | rfl | simp [buildA, Value.cells])) rfl ?_
        refine wlVal (opNeRow (eq28 _ (((atI ((Council.mk ((most c)) ((some_ c)) l)) n).1).dig) Dig.zero) eg28 rfl rfl) rfl ?_
        refine wlThen ?_
        cases h25 : decide (((atI ((Council.mk ((most c)) ((some_ c)) l)) n).1).dig = Dig.zero)
        ·
         skip
         refine wcCondT rfl ?_
         refine wcRegion ?_
         refine wlVal (opMove rfl) rfl ?_
         refine wlVal (opLen rfl isl31) rfl ?_
         refine wlVal (opAssign rfl) rfl ?_
         refine wlNil ?_
         refine wcOf ?_
         refine wcRegion ?_
         refine wlVal (opMove rfl) rfl ?_
         refine wlVal (opAdd rfl rfl) rfl ?_
         refine wlVal (opAssign rfl) rfl ?_
         refine wlRound ?_
         have hlo := lowI_rng h15; have hfp : 0 < f := (by have q := of_decide_eq_true h16; rw [IntWalk.i64_in _ (by omega)] at q; omega)
         have hw1 : IntKind.wrap .i64 (n + 1) = n + 1 := IntWalk.i64_in _ (by omega)
         exact (IH1 (IntKind.wrap .i64 (n + 1), ((out ++ [((atI ((Council.mk ((most c)) ((some_ c)) l)) n).1)])).length, A21, cap22, o23, (out ++ [((atI ((Council.mk ((most c)) ((some_ c)) l)) n).1)]), (f - 1)) _ _ ⟨hC, hB.tail, hs2, hl, hO24, (by omega), (by rw [hw1]; omega), (by simp; omega), (by simp; try omega), (by rw [← hJ, pickGo_step hfp, hw1]; simp only [h18, h25, Bool.not_true, Bool.not_false, cond_true, cond_false, List.length_append, List.length_cons, List.length_nil])⟩ (by show f - 1 < f; omega)).sub (fun _ ha => (((((ha.start.cons ha (t := 4) rfl).cons ha (t := 5) rfl).cons ha (t := 10) rfl).cons ha (t := 12) rfl).cons ha (t := 13) rfl))
        ·
         skip
         refine wcCondF rfl ?_
         refine wcSkip ?_
         refine wcOf ?_
         refine wcRegion ?_
         refine wlVal (opMove rfl) rfl ?_
         refine wlVal (opAdd rfl rfl) rfl ?_
         refine wlVal (opAssign rfl) rfl ?_
         refine wlRound ?_
         have hlo := lowI_rng h15; have hfp : 0 < f := (by have q := of_decide_eq_true h16; rw [IntWalk.i64_in _ (by omega)] at q; omega)
         have hw1 : IntKind.wrap .i64 (n + 1) = n + 1 := IntWalk.i64_in _ (by omega)
         exact (IH1 (IntKind.wrap .i64 (n + 1), m, A21, cap22, o23, (out ++ [((atI ((Council.mk ((most c)) ((some_ c)) l)) n).1)]), (f - 1)) _ _ ⟨hC, hB.tail, hs2, hl, hO24, (by omega), (by rw [hw1]; omega), (by simp; omega), (by simp; try omega), (by rw [← hJ, pickGo_step hfp, hw1]; simp only [h18, h25, Bool.not_true, Bool.not_false, cond_true, cond_false, List.length_append, List.length_cons, List.length_nil])⟩ (by show f - 1 < f; omega)).sub (fun _ ha => (((((ha.start.cons ha (t := 4) rfl).cons ha (t := 5) rfl).cons ha (t := 10) rfl).cons ha (t := 12) rfl).cons ha (t := 13) rfl))
    ·
     skip
     refine wlOff rfl rfl rfl rfl ?_
     refine wlOff rfl rfl rfl rfl ?_
     refine wlVal (opPickT rfl rfl) rfl ?_
     refine wlThen ?_
     refine wcCondT rfl ?_
     refine wcSeq (wcRegion ?_)
     refine wlVal (opBuild (ps := []) (cs := ((.int .i64 0) :: (Dig.zero.cells ++ []))) so30 zero30 rfl rfl (by simp [buildCells, Value.cells])) rfl ?_
     refine wlStore 1 (vs := ((.int .i64 0) :: (Dig.zero.cells ++ []))) (cs := (((lowI ((Council.mk ((most c)) ((some_ c)) l))).1)).cells) (cs' := ((.int .i64 0) :: (Dig.zero.cells ++ []))) hC hB rfl rfl rfl sz30 rfl (by simp [Mark.cells, Stand.cells]) (by simp [Mark.cells, Stand.cells, Value.oneCell']) (by simp [Mark.cells, Stand.cells]) (by simp [Mark.cells, Stand.cells]) rfl ?_; intro w hC hB
     refine wlVal (opAssign rfl) rfl ?_
     refine wlVal (opAssign rfl) rfl ?_
     refine wlThen ?_
     refine wcRet ?_
     exact fun ac_ ha => hQ _ _ _ (results3 ha rfl ⟨_, _, ((.int .i64 0) :: (Dig.zero.cells ++ [])), rfl, row30, (by simp [Mark.cells, Stand.cells]), hB.range (i := 1) (m := 33) rfl (by simp [Mark.cells, Stand.cells]), rfl⟩ rfl rfl) ha.df (endO (bl := [(b13, 70, [(.int .i64 ((most c))), (.int .i64 ((some_ c))), (.slice A5 l.length cap6)]), (b8, 30, ((.int .i64 0) :: (Dig.zero.cells ++ []))), (b7, 24, [(.int .i64 c.faults), (.slice A3 c.nodes.length cap4)])]) (o := none) (r := []) hC hB (by have e : selI (has c) c l = ((Mark.mk 0 Dig.zero), [], 210) := (by have eb := hI; rw [List.drop_eq_nil_of_le (Nat.le_of_not_lt (of_decide_eq_false h12))] at eb; simp only [badB] at eb; simp only [selI, h9, ← eb, h14, cond_true, cond_false, Bool.true_or]); rw [e]; exact ⟨_, _, rfl, (Ow.nil_ _ 30)⟩))
  ·
   skip
   refine wcCondT rfl ?_
   refine wcSkip ?_
   refine wcOf ?_
   refine wcSeq ?_
   refine wcBlock (wcSeq (wcRegion ?_))
   obtain ⟨x26, hx27⟩ : ∃ y_, l[k]? = some y_ := ⟨_, List.getElem?_eq_getElem (of_decide_eq_true h12)⟩
   obtain ⟨b28, o29, row30, hA33, hr31, hi32⟩ := hl.elem hx27; subst hA33
   obtain ⟨v34, v36, v38, rfl, hs35, hs37, hs39⟩ := Change.opIs hi32
   obtain ⟨A40, cap41, rfl⟩ := hs35.form
   obtain ⟨A42, cap43, rfl⟩ := hs37.form
   obtain ⟨A44, cap45, rfl⟩ := hs39.form
   refine wlVal (opIndexAddr rfl rfl slo25 (of_decide_eq_true h12)) rfl ?_
   refine wlVal (opLoadRow (cs := [(.int .i64 x26.node), (.int .i64 x26.view), (.int .i64 x26.low), (.slice A40 x26.marks.length cap41), (.slice A42 x26.p.length cap43), (.slice A44 x26.q.length cap45)]) rfl (RowG.range hC.holds hr31) row49 rfl) rfl ?_
   refine wlAlloc hC hB zero49 rfl ?_; intro b46 w hk hC hB
   replace hM11 := hM11.ext hk
   refine wlStoreM 0 (vs := [(.int .i64 x26.node), (.int .i64 x26.view), (.int .i64 x26.low), (.slice A40 x26.marks.length cap41), (.slice A42 x26.p.length cap43), (.slice A44 x26.q.length cap45)]) (cs := [(.int .i64 0), (.int .i64 0), (.int .i64 0), (.slice none 0 0), (.slice none 0 0), (.slice none 0 0)]) (cs' := [(.int .i64 x26.node), (.int .i64 x26.view), (.int .i64 x26.low), (.slice A40 x26.marks.length cap41), (.slice A42 x26.p.length cap43), (.slice A44 x26.q.length cap45)]) hC hB rfl rfl rfl sz49 rfl rfl rfl (by simp [Mark.cells, Stand.cells]) rfl rfl hM11 ?_; intro w hC hB hM11
   refine wlThen (wcSeq (wcSeq (wcRegion ?_)))
   refine wlVal (opLoadRow (cs := [(.int .i64 c.faults), (.slice A3 c.nodes.length cap4)]) rfl (hB.range (i := 2) (m := 2) rfl rfl) row24 rfl) rfl ?_
   refine wlVal (opFieldAddr rfl fo49_0) rfl ?_
   refine wlVal (opLoadOne (v := (.int .i64 x26.node)) rfl (hB.cell (i := 0) rfl rfl) one3) rfl ?_
   refine wlCallS hC hB rfl co24 rfl rfl (has_ret _ _ hC.holds _ c (Crew.mkIs (x := c) hs2) x26.node) ?_; intro w hk hC hB
   replace hM11 := hM11.ext hk
   refine wlVal (opNot rfl) rfl ?_
   refine wlVal (opMove rfl) rfl ?_
   cases h47 : (has c x26.node)
   ·
    skip
    refine wlOff rfl rfl rfl rfl ?_
    refine wlOff rfl rfl rfl rfl ?_
    refine wlOff rfl rfl rfl rfl ?_
    refine wlOff rfl rfl rfl rfl ?_
    refine wlOff rfl rfl rfl rfl ?_
    refine wlVal (opPickT rfl rfl) rfl ?_
    refine wlThen ?_
    refine wcCondT rfl ?_
    refine wcSeq (wcRegion ?_)
    refine wlVal (opBuild (ps := []) (cs := ((.int .i64 0) :: (Dig.zero.cells ++ []))) so30 zero30 rfl rfl (by simp [buildCells, Value.cells])) rfl ?_
    refine wlStoreM 1 (vs := ((.int .i64 0) :: (Dig.zero.cells ++ []))) (cs := ((.int .i64 0) :: (Dig.zero.cells ++ []))) (cs' := ((.int .i64 0) :: (Dig.zero.cells ++ []))) hC hB rfl rfl rfl sz30 rfl (by simp [Mark.cells, Stand.cells]) (by simp [Mark.cells, Stand.cells, Value.oneCell']) (by simp [Mark.cells, Stand.cells]) (by simp [Mark.cells, Stand.cells]) rfl hM11 ?_; intro w hC hB hM11
    refine wlVal (opAssign rfl) rfl ?_
    refine wlVal (opAssign rfl) rfl ?_
    refine wlThen ?_
    refine wcRet ?_
    exact fun ac_ ha => hQ _ _ _ (results3 ha rfl ⟨_, _, ((.int .i64 0) :: (Dig.zero.cells ++ [])), rfl, row30, (by simp [Mark.cells, Stand.cells]), hB.range (i := 1) (m := 33) rfl (by simp [Mark.cells, Stand.cells]), rfl⟩ rfl rfl) ha.df (endO (bl := [(b46, 49, [(.int .i64 x26.node), (.int .i64 x26.view), (.int .i64 x26.low), (.slice A40 x26.marks.length cap41), (.slice A42 x26.p.length cap43), (.slice A44 x26.q.length cap45)]), (b8, 30, ((.int .i64 0) :: (Dig.zero.cells ++ []))), (b7, 24, [(.int .i64 c.faults), (.slice A3 c.nodes.length cap4)])]) (o := none) (r := []) hC hB (by have e : selI (has c) c l = ((Mark.mk 0 Dig.zero), [], 2) := (by have eb := hI; rw [drop_get hx27] at eb; simp only [badB, h47, Bool.not_false, Bool.true_or, cond_true] at eb; simp only [selI, h9, ← eb, cond_true, cond_false]); rw [e]; exact ⟨_, _, rfl, (Ow.nil_ _ 30)⟩))
   ·
    skip
    refine wlOn rfl rfl ?_
    refine wlVal (opMove rfl) rfl ?_
    refine wlOn rfl rfl ?_
    refine wlVal (opFieldAddr rfl fo49_0) rfl ?_
    refine wlOn rfl rfl ?_
    refine wlVal (opLoadOne (v := (.int .i64 x26.node)) rfl (hB.cell (i := 0) rfl rfl) one3) rfl ?_
    refine wlOn rfl rfl ?_
    refine wlVal (OpVal.cast (opLookup (kvs := ones (((l.take k).map (·.node)))) hM11 rfl rfl im66 ui3 zi3) (mapGet_ones (((l.take k).map (·.node))) x26.node)) rfl ?_
    refine wlOn rfl rfl ?_
    refine wlVal (opGtr rfl rfl) rfl ?_
    refine wlVal (opPickF rfl rfl) rfl ?_
    refine wlThen ?_
    cases h48 : decide (0 < (bif List.any (((l.take k).map (·.node))) (fun y => y == x26.node) then (1 : Int) else 0))
    ·
     skip
     refine wcCondF rfl ?_
     refine wcSkip ?_
     refine wcOf ?_
     refine wcRegion ?_
     refine wlVal (opMove rfl) rfl ?_
     refine wlVal (opFieldAddr rfl fo49_0) rfl ?_
     refine wlVal (opLoadOne (v := (.int .i64 x26.node)) rfl (hB.cell (i := 0) rfl rfl) one3) rfl ?_
     refine wlMapNew (kvs := ones (((l.take k).map (·.node)))) hC hB hM11 rfl rfl rfl im66 ui3 ((mapHas_ones _ _).trans (pos_bif h48)) rfl ?_; intro w hC hB hM11
     refine wlNil ?_
     refine wcOf ?_
     refine wcRegion ?_
     refine wlVal (opIncr rfl rfl (incr_ok (of_decide_eq_true h12) hl.le)) rfl ?_
     refine wlVal (opMove rfl) rfl ?_
     refine wlRound ?_
     exact (IH0 (k + 1) _ _ ⟨hC, hB.tail, hs2, hl, (by rw [List.take_add_one, hx27]; simpa [ones] using hM11), (by rw [← hI, drop_get hx27]; simp only [badB, h47, pos_bif h48, Bool.not_true, Bool.false_or, cond_false]; simp [List.take_add_one, hx27])⟩ (by have := of_decide_eq_true h12; show l.length - (k + 1) < l.length - k; omega)).sub (fun _ ha => ((((((((ha.start.cons ha (t := 1) rfl).cons ha (t := 2) rfl).cons ha (t := 4) rfl).cons ha (t := 5) rfl).cons ha (t := 7) rfl).cons ha (t := 21) rfl).cons ha (t := 22) rfl).cons ha (t := 23) rfl))
    ·
     skip
     refine wcCondT rfl ?_
     refine wcSeq (wcRegion ?_)
     refine wlVal (opBuild (ps := []) (cs := ((.int .i64 0) :: (Dig.zero.cells ++ []))) so30 zero30 rfl rfl (by simp [buildCells, Value.cells])) rfl ?_
     refine wlStoreM 1 (vs := ((.int .i64 0) :: (Dig.zero.cells ++ []))) (cs := ((.int .i64 0) :: (Dig.zero.cells ++ []))) (cs' := ((.int .i64 0) :: (Dig.zero.cells ++ []))) hC hB rfl rfl rfl sz30 rfl (by simp [Mark.cells, Stand.cells]) (by simp [Mark.cells, Stand.cells, Value.oneCell']) (by simp [Mark.cells, Stand.cells]) (by simp [Mark.cells, Stand.cells]) rfl hM11 ?_; intro w hC hB hM11
     refine wlVal (opAssign rfl) rfl ?_
     refine wlVal (opAssign rfl) rfl ?_
     refine wlThen ?_
     refine wcRet ?_
     exact fun ac_ ha => hQ _ _ _ (results3 ha rfl ⟨_, _, ((.int .i64 0) :: (Dig.zero.cells ++ [])), rfl, row30, (by simp [Mark.cells, Stand.cells]), hB.range (i := 1) (m := 33) rfl (by simp [Mark.cells, Stand.cells]), rfl⟩ rfl rfl) ha.df (endO (bl := [(b46, 49, [(.int .i64 x26.node), (.int .i64 x26.view), (.int .i64 x26.low), (.slice A40 x26.marks.length cap41), (.slice A42 x26.p.length cap43), (.slice A44 x26.q.length cap45)]), (b8, 30, ((.int .i64 0) :: (Dig.zero.cells ++ []))), (b7, 24, [(.int .i64 c.faults), (.slice A3 c.nodes.length cap4)])]) (o := none) (r := []) hC hB (by have e : selI (has c) c l = ((Mark.mk 0 Dig.zero), [], 2) := (by have eb := hI; rw [drop_get hx27] at eb; simp only [badB, h47, pos_bif h48, Bool.not_true, Bool.false_or, cond_true] at eb; simp only [selI, h9, ← eb, cond_true, cond_false]); rw [e]; exact ⟨_, _, rfl, (Ow.nil_ _ 30)⟩))
 ·
  skip
  refine wcCondT rfl ?_
  refine wcSeq (wcRegion ?_)
  refine wlVal (opBuild (ps := []) (cs := ((.int .i64 0) :: (Dig.zero.cells ++ []))) so30 zero30 rfl rfl (by simp [buildCells, Value.cells])) rfl ?_
  refine wlStore 0 (vs := ((.int .i64 0) :: (Dig.zero.cells ++ []))) (cs := ((.int .i64 0) :: (Dig.zero.cells ++ []))) (cs' := ((.int .i64 0) :: (Dig.zero.cells ++ []))) hC hB rfl rfl rfl sz30 rfl (by simp [Mark.cells, Stand.cells]) (by simp [Mark.cells, Stand.cells, Value.oneCell']) (by simp [Mark.cells, Stand.cells]) (by simp [Mark.cells, Stand.cells]) rfl ?_; intro w hC hB
  refine wlVal (opAssign rfl) rfl ?_
  refine wlVal (opAssign rfl) rfl ?_
  refine wlThen ?_
  refine wcRet ?_
  exact fun ac_ ha => hQ _ _ _ (results3 ha rfl ⟨_, _, ((.int .i64 0) :: (Dig.zero.cells ++ [])), rfl, row30, (by simp [Mark.cells, Stand.cells]), hB.range (i := 0) (m := 33) rfl (by simp [Mark.cells, Stand.cells]), rfl⟩ rfl rfl) ha.df (endO (bl := [(b8, 30, ((.int .i64 0) :: (Dig.zero.cells ++ []))), (b7, 24, [(.int .i64 c.faults), (.slice A3 c.nodes.length cap4)])]) (o := none) (r := []) hC hB (by have e : selI (has c) c l = ((Mark.mk 0 Dig.zero), [], 110) := (by simp only [selI, h9, cond_true]); rw [e]; exact ⟨_, _, rfl, (Ow.nil_ _ 30)⟩))

end Go.Proofs.Ytbhkoipmojdkhaa
