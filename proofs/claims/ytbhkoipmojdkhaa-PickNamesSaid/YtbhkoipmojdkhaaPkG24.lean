/- What functions of the pick seat return, part 24. No condition. -/
import Derived.Test.YtbhkoipmojdkhaaPkG23
set_option linter.all false
namespace Go.Proofs.Ytbhkoipmojdkhaa
open Go Go.Gx Go.RowKit
theorem copied_sum {β : Type} (f : Change → List β) (h : ∀ x, (f (cpyI x)).length ≤ 40) (l : List Change) : ((copiedI l).flatMap f).length ≤ 1000000 := by
  have key : ∀ l : List Change, ((l.map cpyI).flatMap f).length ≤ l.length * 40 := by
    intro l
    induction l with
    | nil => simp
    | cons x r ih => simp only [List.map_cons, List.flatMap_cons, List.length_append, List.length_cons]; have := h x; omega
  unfold copiedI
  have := key (l.take 9)
  have h9 : (l.take 9).length ≤ 9 := by simp; omega
  omega
theorem copied_marks (l : List Change) : ((copiedI l).flatMap (·.marks)).length ≤ 1000000 := copied_sum _ (fun x => by simp [cpyI]; omega) l
theorem copied_p (l : List Change) : ((copiedI l).flatMap (·.p)).length ≤ 1000000 := copied_sum _ (fun x => by simp [cpyI]; omega) l
theorem rises_pw : ∀ (xs : List Int) (l : Int), risesB l xs = true → (∀ x ∈ xs, l < x) ∧ xs.Pairwise (· < ·)
  | [], _, _ => ⟨by simp, .nil⟩
  | x :: r, l, h => by
    simp only [risesB] at h
    cases hx : decide (x ≤ l) || !nodeB x with
    | true => rw [hx] at h; cases h
    | false =>
      rw [hx] at h
      obtain ⟨h1, h2⟩ := rises_pw r x h
      have hlx : l < x := by simp at hx; omega
      refine ⟨fun y hy => ?_, .cons h1 h2⟩
      rcases List.mem_cons.1 hy with rfl | hy
      · exact hlx
      · have := h1 y hy; omega
theorem getD_mono {xs : List Int} (hp : xs.Pairwise (· < ·)) {m m' : Nat} (h : m ≤ m') (h' : m' < xs.length) : xs.getD m 0 ≤ xs.getD m' 0 := by
  rw [List.getD_eq_getElem?_getD, List.getD_eq_getElem?_getD, List.getElem?_eq_getElem h', List.getElem?_eq_getElem (by omega)]
  simp only [Option.getD_some]
  by_cases he : m = m'
  · subst he; omega
  · have := (List.pairwise_iff_getElem.1 hp) m m' (by omega) h' (by omega); omega
theorem bsGo_law {xs : List Int} (hp : xs.Pairwise (· < ·)) (t : Int) : ∀ (f i j : Nat), i ≤ j → j ≤ xs.length → j ≤ i + f → (∀ m, m < i → xs.getD m 0 < t) → (∀ m, j ≤ m → m < xs.length → t ≤ xs.getD m 0) →
    bsGo xs t f i j ≤ xs.length ∧ (∀ m, m < bsGo xs t f i j → xs.getD m 0 < t) ∧ (∀ m, bsGo xs t f i j ≤ m → m < xs.length → t ≤ xs.getD m 0)
  | 0, i, j, h1, h2, h3, h4, h5 => by
    have : i = j := by omega
    subst this
    exact ⟨h2, h4, h5⟩
  | f + 1, i, j, h1, h2, h3, h4, h5 => by
    simp only [bsGo]
    cases hij : decide (i < j) with
    | false =>
      have : i = j := by have := of_decide_eq_false hij; omega
      subst this
      exact ⟨h2, h4, h5⟩
    | true =>
      have hij := of_decide_eq_true hij
      simp only [cond_true]
      cases hc : decide (xs.getD ((i + j) / 2) 0 < t) with
      | true =>
        have hc := of_decide_eq_true hc
        simp only [cond_true]
        exact bsGo_law hp t f _ j (by omega) h2 (by omega) (fun m hm => by have := getD_mono hp (m := m) (m' := (i + j) / 2) (by omega) (by omega); omega) h5
      | false =>
        have hc := of_decide_eq_false hc
        simp only [cond_false]
        exact bsGo_law hp t f i _ (by omega) (by omega) (by omega) h4 (fun m hm hl => by have := getD_mono hp (m := (i + j) / 2) (m' := m) hm hl; omega)
theorem bsF_any {xs : List Int} (hp : xs.Pairwise (· < ·)) (t : Int) : bsF xs t = xs.any (fun y => y == t) := by
  obtain ⟨h1, h2, h3⟩ := bsGo_law hp t xs.length 0 xs.length (Nat.zero_le _) (Nat.le_refl _) (by omega) (fun m hm => by omega) (fun m hm hl => by omega)
  rw [Bool.eq_iff_iff]
  simp only [bsF, bsI, Bool.and_eq_true, decide_eq_true_eq, beq_iff_eq, List.any_eq_true]
  constructor
  · rintro ⟨g1, g2⟩
    refine ⟨_, ?_, g2⟩
    rw [List.getD_eq_getElem?_getD, List.getElem?_eq_getElem (of_decide_eq_true g1)]
    simp
  · rintro ⟨x, hx, rfl⟩
    obtain ⟨m, hm, rfl⟩ := List.mem_iff_getElem.1 hx
    have hg : xs.getD m 0 = xs[m] := by rw [List.getD_eq_getElem?_getD, List.getElem?_eq_getElem hm]; rfl
    have hle : bsGo xs xs[m] xs.length 0 xs.length ≤ m := by
      rcases Nat.lt_or_ge m (bsGo xs xs[m] xs.length 0 xs.length) with h | h
      · have := h2 m h; omega
      · exact h
    have hr : bsGo xs xs[m] xs.length 0 xs.length < xs.length := by omega
    refine ⟨decide_eq_true hr, ?_⟩
    have e1 := h3 _ (Nat.le_refl _) hr
    have e2 := getD_mono hp hle hm
    omega
theorem has_rhas (c : Crew) : has c = rhasB c := by
  funext n
  unfold has rhasB
  cases h : check c == 0 with
  | false => rfl
  | true =>
    have hc : risesB 0 c.nodes = true := by
      cases hr : risesB 0 c.nodes with
      | true => rfl
      | false =>
        have h := of_decide_eq_true h
        unfold check at h
        rw [hr] at h
        revert h
        cases (decide (c.faults < 0) || (decide (2 < c.faults) || ((c.nodes.length : Int) != IntKind.wrap .i64 (IntKind.wrap .i64 (3 * c.faults) + 1)))) <;> simp
    rw [bsF_any (rises_pw _ _ hc).2]
theorem co9 : callOk Try.prog 9 = true := by kernel_rfl
theorem co11 : callOk Try.prog 11 = true := by kernel_rfl
theorem co13 : callOk Try.prog 13 = true := by kernel_rfl
theorem co14 : callOk Try.prog 14 = true := by kernel_rfl
theorem sz3 : (Try.prog.info? 3).map (·.size) = some 1 := by kernel_rfl
theorem selects_ret (G0 : Gh) (w0 : World) (hw : Holds G0 w0) (csc : List Value) (c : Crew) (hc : Rp.Is G0 csc c) (vl : Value) (l : List Change) (hl : Sl G0 vl l) :
  RetS Try.prog 3 #[.agg csc.toArray, vl] G0 w0 (.bool true) := by
 have hC := Cx.refl hw
 have hB : Bxs G0 w0 w0.heap.size [] := Bxs.nil _ _ _
 obtain ⟨v1, rfl, hs2⟩ := Crew.opIs hc
 obtain ⟨A3, cap4, rfl⟩ := hs2.form
 obtain ⟨A5, cap6, rfl⟩ := hl.form
 refine callsOf Try.func3 rfl _ Try.ntmps3 rfl _ (argsCons (argsCons argsNil (t := 0) rfl) (t := 1) rfl) ?_; intro Q0 hQ
 refine wcSeq (wcRegion ?_)
 refine wlBox (cs := [(.int .i64 c.faults), (.slice A3 c.nodes.length cap4)]) hC hB rfl rfl rfl ?_; intro b7 w hk hC hB
 refine wlVal (opAssign rfl) rfl ?_
 refine wlThen (wcSeq (wcRegion ?_))
 refine wlVal (opMove rfl) rfl ?_
 refine wlCallG hC hB rfl co9 rfl rfl (copied_ret _ _ hC.holds _ l hl) ?_; rintro v10 G w hk hC hB ⟨r8, rfl, hr9⟩
 replace hs2 := hs2.mono hk.gle; replace hl := hl.mono hk.gle
 obtain ⟨A11, cap12, rfl⟩ := hr9.form
 refine wlVal (opMove rfl) rfl ?_
 refine wlCallG hC hB rfl co9 rfl rfl (copied_ret _ _ hC.holds _ l hl) ?_; rintro v15 G w hk hC hB ⟨r13, rfl, hr14⟩
 replace hs2 := hs2.mono hk.gle; replace hl := hl.mono hk.gle; replace hr9 := hr9.mono hk.gle
 obtain ⟨A16, cap17, rfl⟩ := hr14.form
 refine wlVal (opAssign rfl) rfl ?_
 refine wlVal (opAssign rfl) rfl ?_
 refine wlThen (wcSeq (wcRegion ?_))
 refine wlVal (opLoadRow (cs := [(.int .i64 c.faults), (.slice A3 c.nodes.length cap4)]) rfl (hB.range (i := 0) (m := 2) rfl rfl) row24 rfl) rfl ?_
 refine wlVal (opMove rfl) rfl ?_
 refine wlCallO (bl := [(b7, 24, [(.int .i64 c.faults), (.slice A3 c.nodes.length cap4)])]) (r := []) hC hB rfl co10 rfl rfl (select_ret _ _ hC.holds _ c (Crew.mkIs (x := c) hs2) _ ((copiedI l)) hr9 (copied_marks _) (copied_p _)) ?_; rintro v22 G o20 w hk hC hB ⟨A18, cap19, rfl, hO21⟩
 replace hs2 := hs2.mono hk.gle; replace hl := hl.mono hk.gle; replace hr9 := hr9.mono hk.gle; replace hr14 := hr14.mono hk.gle
 refine wlVal (opMove rfl) rfl ?_
 refine wlVal (opExtract rfl rfl) rfl ?_
 refine wlVal (opExtract rfl rfl) rfl ?_
 refine wlVal (opExtract rfl rfl) rfl ?_
 refine wlAlloc hC hB zero30 rfl ?_; intro b23 w hk hC hB
 replace hB : Bxs G w w0.heap.size ([(b23, 30, ((.int .i64 0) :: (Dig.zero.cells ++ []))), (b7, 24, [(.int .i64 c.faults), (.slice A3 c.nodes.length cap4)])] ++ (Option.toList o20 ++ [])) := hB
 refine wlStore 0 (vs := (((selI (has c) c ((copiedI l))).1)).cells) (cs := ((.int .i64 0) :: (Dig.zero.cells ++ []))) (cs' := (((selI (has c) c ((copiedI l))).1)).cells) hC hB rfl rfl rfl sz30 rfl (by simp [Mark.cells, Stand.cells]) (by simp [Mark.cells, Stand.cells, Value.oneCell']) (by simp [Mark.cells, Stand.cells]) (by simp [Mark.cells, Stand.cells]) rfl ?_; intro w hC hB
 replace hB : Bxs G w w0.heap.size ([(b23, 30, (((selI (has c) c ((copiedI l))).1)).cells), (b7, 24, [(.int .i64 c.faults), (.slice A3 c.nodes.length cap4)])] ++ (Option.toList o20 ++ [])) := hB
 refine wlVal (opAssign rfl) rfl ?_
 refine wlVal (opAssign rfl) rfl ?_
 refine wlThen (wcSeq (wcRegion ?_))
 refine wlVal (opLoadRow (cs := [(.int .i64 c.faults), (.slice A3 c.nodes.length cap4)]) rfl (hB.range (i := 1) (m := 2) rfl rfl) row24 rfl) rfl ?_
 refine wlVal (opMove rfl) rfl ?_
 refine wlCallG hC hB rfl co11 rfl rfl (rselect_ret _ _ hC.holds _ c (Crew.mkIs (x := c) hs2) _ ((copiedI l)) hr14) ?_; rintro v26 G w hk hC hB ⟨r24, rfl, hr25⟩
 replace hs2 := hs2.mono hk.gle; replace hl := hl.mono hk.gle; replace hr9 := hr9.mono hk.gle; replace hr14 := hr14.mono hk.gle; replace hO21 := hO21.mono hk.gle
 obtain ⟨A27, cap28, rfl⟩ := hr25.form
 refine wlVal (opMove rfl) rfl ?_
 refine wlVal (opExtract rfl rfl) rfl ?_
 refine wlVal (opExtract rfl rfl) rfl ?_
 refine wlVal (opExtract rfl rfl) rfl ?_
 refine wlAlloc hC hB zero30 rfl ?_; intro b29 w hk hC hB
 replace hB : Bxs G w w0.heap.size ([(b29, 30, ((.int .i64 0) :: (Dig.zero.cells ++ []))), (b23, 30, (((selI (has c) c ((copiedI l))).1)).cells), (b7, 24, [(.int .i64 c.faults), (.slice A3 c.nodes.length cap4)])] ++ (Option.toList o20 ++ [])) := hB
 refine wlStore 0 (vs := (((selI (rhasB c) c ((copiedI l))).1)).cells) (cs := ((.int .i64 0) :: (Dig.zero.cells ++ []))) (cs' := (((selI (rhasB c) c ((copiedI l))).1)).cells) hC hB rfl rfl rfl sz30 rfl (by simp [Mark.cells, Stand.cells]) (by simp [Mark.cells, Stand.cells, Value.oneCell']) (by simp [Mark.cells, Stand.cells]) (by simp [Mark.cells, Stand.cells]) rfl ?_; intro w hC hB
 replace hB : Bxs G w w0.heap.size ([(b29, 30, (((selI (rhasB c) c ((copiedI l))).1)).cells), (b23, 30, (((selI (has c) c ((copiedI l))).1)).cells), (b7, 24, [(.int .i64 c.faults), (.slice A3 c.nodes.length cap4)])] ++ (Option.toList o20 ++ [])) := hB
 refine wlVal (opAssign rfl) rfl ?_
 refine wlVal (opAssign rfl) rfl ?_
 refine wlThen (wcSeq (wcSeq (wcRegion ?_)))
 refine wlVal (opMove rfl) rfl ?_
 refine wlVal (opMove rfl) rfl ?_
 refine wlVal (opNeq rfl rfl) rfl ?_
 refine wlVal (opMove rfl) rfl ?_
 cases h30 : (((selI (has c) c ((copiedI l))).2.2)) != (((selI (rhasB c) c ((copiedI l))).2.2))
 ·
  skip
  refine wlOn rfl rfl ?_
  refine wlVal (opLoadRow (cs := (((selI (has c) c ((copiedI l))).1)).cells) rfl (hB.range (i := 1) (m := 33) rfl (by simp [Mark.cells, Stand.cells])) row30 (by simp [Mark.cells, Stand.cells])) rfl ?_
  refine wlOn rfl rfl ?_
  refine wlVal (opLoadRow (cs := (((selI (rhasB c) c ((copiedI l))).1)).cells) rfl (hB.range (i := 0) (m := 33) rfl (by simp [Mark.cells, Stand.cells])) row30 (by simp [Mark.cells, Stand.cells])) rfl ?_
  refine wlOn rfl rfl ?_
  refine wlVal (opNeRow (eq30 _ (((selI (has c) c ((copiedI l))).1)) (((selI (rhasB c) c ((copiedI l))).1))) eg30 rfl rfl) rfl ?_
  refine wlVal (opPickF rfl rfl) rfl ?_
  refine wlVal (opMove rfl) rfl ?_
  cases h31 : decide (((selI (has c) c ((copiedI l))).1) = ((selI (rhasB c) c ((copiedI l))).1))
  ·
   skip
   refine wlOff rfl rfl rfl rfl ?_
   refine wlOff rfl rfl rfl rfl ?_
   refine wlOff rfl rfl rfl rfl ?_
   refine wlOff rfl rfl rfl rfl ?_
   refine wlVal (opPickT rfl rfl) rfl ?_
   refine wlVal (opMove rfl) rfl ?_
   refine wlOff rfl rfl rfl rfl ?_
   refine wlOff rfl rfl rfl rfl ?_
   refine wlOff rfl rfl rfl rfl ?_
   refine wlOff rfl rfl rfl rfl ?_
   refine wlVal (opPickT rfl rfl) rfl ?_
   refine wlThen ?_
   refine wcCondT rfl ?_
   refine wcSeq (wcRegion ?_)
   refine wlVal (opAssign rfl) rfl ?_
   refine wlThen ?_
   refine wcRet ?_
   exact fun ac_ ha => hQ _ _ _ (results1 ha rfl rfl) ha.df (endS hC hw (by simp [has_rhas] at h31))
  ·
   skip
   refine wlOn rfl rfl ?_
   refine wlVal (opMove rfl) rfl ?_
   refine wlOn rfl rfl ?_
   refine wlVal (opMove rfl) rfl ?_
   refine wlOn rfl rfl ?_
   refine wlCallS hC hB rfl co12 rfl rfl (RetS.borrow (bl := [(b29, 30, (((selI (rhasB c) c ((copiedI l))).1)).cells), (b23, 30, (((selI (has c) c ((copiedI l))).1)).cells), (b7, 24, [(.int .i64 c.faults), (.slice A3 c.nodes.length cap4)])]) (r := []) hO21 hC hB (Nat.le_trans (selI_len _ _ _) (by decide)) (fun G_ hglent hhlent hlent => rsame_ret _ _ hhlent _ (((selI (has c) c ((copiedI l))).2.1)) hlent _ ((selI (rhasB c) c ((copiedI l))).2.1) (hr25.mono hglent))) ?_; intro w hk hC hB
   refine wlOn rfl rfl ?_
   refine wlVal (opNot rfl) rfl ?_
   refine wlVal (opPickF rfl rfl) rfl ?_
   refine wlVal (opMove rfl) rfl ?_
   cases h32 : (decide ((((selI (has c) c ((copiedI l))).2.1)) = ((selI (rhasB c) c ((copiedI l))).2.1)))
   ·
    skip
    refine wlOff rfl rfl rfl rfl ?_
    refine wlOff rfl rfl rfl rfl ?_
    refine wlOff rfl rfl rfl rfl ?_
    refine wlOff rfl rfl rfl rfl ?_
    refine wlVal (opPickT rfl rfl) rfl ?_
    refine wlThen ?_
    refine wcCondT rfl ?_
    refine wcSeq (wcRegion ?_)
    refine wlVal (opAssign rfl) rfl ?_
    refine wlThen ?_
    refine wcRet ?_
    exact fun ac_ ha => hQ _ _ _ (results1 ha rfl rfl) ha.df (endS hC hw (by simp [has_rhas] at h32))
   ·
    skip
    refine wlOn rfl rfl ?_
    refine wlVal (opMove rfl) rfl ?_
    refine wlOn rfl rfl ?_
    refine wlVal (opMove rfl) rfl ?_
    refine wlOn rfl rfl ?_
    refine wlCallS hC hB rfl co13 rfl rfl (same_ret _ _ hC.holds _ ((copiedI l)) hr9 _ ((copiedI l)) hr14) ?_; intro w hk hC hB
    refine wlOn rfl rfl ?_
    refine wlVal (opNot rfl) rfl ?_
    refine wlVal (opPickF rfl rfl) rfl ?_
    refine wlThen ?_
    cases h33 : (decide (((copiedI l)) = ((copiedI l))))
    ·
     skip
     refine wcCondT rfl ?_
     refine wcSeq (wcRegion ?_)
     refine wlVal (opAssign rfl) rfl ?_
     refine wlThen ?_
     refine wcRet ?_
     exact fun ac_ ha => hQ _ _ _ (results1 ha rfl rfl) ha.df (endS hC hw (by simp [has_rhas] at h33))
    ·
     skip
     refine wcCondF rfl ?_
     refine wcSkip ?_
     refine wcOf ?_
     refine wcSeq (wcSeq (wcRegion ?_))
     refine wlVal (opAssign rfl) rfl ?_
     refine wlThen ?_
     refine wcBlock ?_
     refine WC.sub (wrInd (ι := Nat × (Option Addr) × Nat × (Option Bx) × (List Mark)) (fun i => match i with | (k, pkA, pkC, pkO, pk) => pk.length - k) (fun i G w => match i with | (k, pkA, pkC, pkO, pk) => Cx w0 G0 G w ∧ Bxs G w w0.heap.size ([(b29, 30, (((selI (rhasB c) c ((copiedI l))).1)).cells), (b23, 30, (((selI (has c) c ((copiedI l))).1)).cells), (b7, 24, [(.int .i64 c.faults), (.slice A3 c.nodes.length cap4)])] ++ (Option.toList pkO ++ [])) ∧ Sl G (.slice A3 c.nodes.length cap4) c.nodes ∧ Sl G (.slice A5 l.length cap6) l ∧ Sl G (.slice A11 (((copiedI l)).length) cap12) ((copiedI l)) ∧ Sl G (.slice A16 (((copiedI l)).length) cap17) ((copiedI l)) ∧ Sl G (.slice A27 (((selI (rhasB c) c ((copiedI l))).2.1).length) cap28) ((selI (rhasB c) c ((copiedI l))).2.1) ∧ Ow G pkO 30 (.slice pkA pk.length pkC) pk ∧ pk.length ≤ 8) (fun i => match i with | (k, pkA, pkC, pkO, pk) => ((((Env.nil.put 5 (.slice A11 (((copiedI l)).length) cap12)).put 6 (.slice A16 (((copiedI l)).length) cap17)).put 8 (.slice pkA pk.length pkC)).put 13 (.int .i64 (((k : Nat) : Int))))) ?_ (0, A18, cap19, o20, ((selI (has c) c ((copiedI l))).2.1)) _ _ ⟨hC, hB, hs2, hl, hr9, hr14, hr25, hO21, (selI_len _ _ _)⟩) (fun _ ha => ((((ha.start.cons ha (t := 5) rfl).cons ha (t := 6) rfl).cons ha (t := 8) rfl).cons ha (t := 13) rfl))
     rintro ⟨k, pkA, pkC, pkO, pk⟩ G w N0 IH0 ⟨hC, hB, hs2, hl, hr9, hr14, hr25, hOpk, hpk⟩
     show WC _ _ _ _ ((((Env.nil.put 5 (.slice A11 (((copiedI l)).length) cap12)).put 6 (.slice A16 (((copiedI l)).length) cap17)).put 8 (.slice pkA pk.length pkC)).put 13 (.int .i64 (((k : Nat) : Int)))) w
     refine wcSeq (wcSeq (wcRegion ?_))
     refine wlVal (opMove rfl) rfl ?_
     refine wlVal (opMove rfl) rfl ?_
     refine wlVal (opLen rfl isl31) rfl ?_
     refine wlVal (opLssN rfl rfl) rfl ?_
     refine wlThen ?_
     cases h34 : decide (k < pk.length)
     ·
      skip
      refine wcCondF rfl ?_
      refine wcExit ?_
      refine wcOf ?_
      refine wcSeq (wcRegion ?_)
      refine wlVal (opMove rfl) rfl ?_
      refine wlVal (opMove rfl) rfl ?_
      refine wlCallS hC hB rfl co13 rfl rfl (same_ret _ _ hC.holds _ ((copiedI l)) hr9 _ ((copiedI l)) hr14) ?_; intro w hk hC hB
      refine wlVal (opMove rfl) rfl ?_
      cases h35 : (decide (((copiedI l)) = ((copiedI l))))
      ·
       skip
       refine wlOff rfl rfl rfl rfl ?_
       refine wlVal (opPickF rfl rfl) rfl ?_
       refine wlVal (opAssign rfl) rfl ?_
       refine wlThen ?_
       refine wcRet ?_
       exact fun ac_ ha => hQ _ _ _ (results1 ha rfl rfl) ha.df (endS hC hw (by simp [has_rhas] at h35))
      ·
       skip
       refine wlOn rfl rfl ?_
       refine wlCallS hC hB rfl co14 rfl rfl (awake_ret _ _ hC.holds ) ?_; intro w hk hC hB
       refine wlVal (opPickT rfl rfl) rfl ?_
       refine wlVal (opAssign rfl) rfl ?_
       refine wlThen ?_
       refine wcRet ?_
       exact fun ac_ ha => hQ _ _ _ (results1 ha rfl rfl) ha.df (endS hC hw rfl)
     ·
      skip
      refine wcCondT rfl ?_
      refine wcSkip ?_
      refine wcOf ?_
      refine wcSeq ?_
      refine wcBlock (wcRegion ?_)
      refine wlVal (opMove rfl) rfl ?_
      refine wlVal (opMove rfl) rfl ?_
      obtain ⟨x36, hx37⟩ : ∃ y_, pk[k]? = some y_ := ⟨_, List.getElem?_eq_getElem (of_decide_eq_true h34)⟩
      obtain ⟨g38, cs39, rfl, rfl⟩ := hOpk.addr (of_decide_eq_true h34)
      refine wlVal (opIndexAddr rfl rfl slo31 (of_decide_eq_true h34)) rfl ?_
      refine wlVal (opFieldAddr rfl fo30_0) rfl ?_
      refine wlStoreOw (α := Mark) (bl := [(b29, 30, (((selI (rhasB c) c ((copiedI l))).1)).cells), (b23, 30, (((selI (has c) c ((copiedI l))).1)).cells), (b7, 24, [(.int .i64 c.faults), (.slice A3 c.nodes.length cap4)])]) (r := []) (vs := [(.int .i64 ((-1)))]) (off := 0) (y := (Mark.mk ((-1)) x36.dig)) hC hB hOpk hx37 rfl (by show _ = _ * 33 + 0; omega) rfl sz3 rfl rfl rfl (by decide) (fun row h => by obtain rfl := h; rfl) rfl ?_; intro cs40 w hC hB hO41
      refine wlNil ?_
      refine wcOf ?_
      refine wcRegion ?_
      refine wlVal (opMove rfl) rfl ?_
      refine wlVal (opIncr rfl rfl (by have q := of_decide_eq_true h34; omega)) rfl ?_
      refine wlVal (opAssign rfl) rfl ?_
      refine wlRound ?_
      exact (IH0 (k + 1, (some ⟨g38, 0, none⟩), pkC, (some (g38, 30, cs40)), (List.set pk k (Mark.mk ((-1)) x36.dig))) _ _ ⟨hC, hB, hs2, hl, hr9, hr14, hr25, (by simpa using hO41), (by simpa using hpk)⟩ (by have q := of_decide_eq_true h34; simp; omega)).sub (fun _ ha => ((((ha.start.cons ha (t := 5) rfl).cons ha (t := 6) rfl).cons ha (t := 8) (congrArg (fun n_ => some (Value.slice (some ⟨g38, 0, none⟩) n_ pkC)) (by simp))).cons ha (t := 13) rfl))
 ·
  skip
  refine wlOff rfl rfl rfl rfl ?_
  refine wlOff rfl rfl rfl rfl ?_
  refine wlOff rfl rfl rfl rfl ?_
  refine wlVal (opPickT rfl rfl) rfl ?_
  refine wlVal (opMove rfl) rfl ?_
  refine wlOff rfl rfl rfl rfl ?_
  refine wlOff rfl rfl rfl rfl ?_
  refine wlOff rfl rfl rfl rfl ?_
  refine wlOff rfl rfl rfl rfl ?_
  refine wlVal (opPickT rfl rfl) rfl ?_
  refine wlVal (opMove rfl) rfl ?_
  refine wlOff rfl rfl rfl rfl ?_
  refine wlOff rfl rfl rfl rfl ?_
  refine wlOff rfl rfl rfl rfl ?_
  refine wlOff rfl rfl rfl rfl ?_
  refine wlVal (opPickT rfl rfl) rfl ?_
  refine wlThen ?_
  refine wcCondT rfl ?_
  refine wcSeq (wcRegion ?_)
  refine wlVal (opAssign rfl) rfl ?_
  refine wlThen ?_
  refine wcRet ?_
  exact fun ac_ ha => hQ _ _ _ (results1 ha rfl rfl) ha.df (endS hC hw (by simp [has_rhas] at h30))

end Go.Proofs.Ytbhkoipmojdkhaa
