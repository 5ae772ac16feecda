/- What functions of the pick seat return, part 26. No condition. -/
import Derived.Test.YtbhkoipmojdkhaaPkG25
set_option linter.all false
namespace Go.Proofs.Ytbhkoipmojdkhaa
open Go Go.Gx Go.RowKit
theorem f12 (n : Int) : IntKind.wrap .i64 (1 + bringI n 2) = 1 ∨ IntKind.wrap .i64 (1 + bringI n 2) = 2 := by
  have h : 0 ≤ bringI n 2 ∧ bringI n 2 < 2 := bring_rng n (m := 2) (by decide) (by decide)
  rw [IntWalk.i64_in _ (by omega)]; omega
theorem n3 {f : Int} (h : f = 1 ∨ f = 2) : IntKind.wrap .i64 (IntKind.wrap .i64 (3 * f) + 1) = 3 * f + 1 := by
  rcases h with rfl | rfl <;> rfl
theorem lw_rng (n : Int) : 0 ≤ bringI n 1001 ∧ bringI n 1001 ≤ 1000 := by have h : 0 ≤ bringI n 1001 ∧ bringI n 1001 < 1001 := bring_rng n (m := 1001) (by decide) (by decide); omega
def OkL (m : Mark) (j : Nat) (l : List Change) : Prop := l.length = j ∧ ∀ (i : Nat) (x : Change), l[i]? = some x → x.node = (i : Int) + 1 ∧ x.low = m.seq ∧ x.marks = [m] ∧ x.p = []
theorem okl_step {m : Mark} {j : Nat} {l : List Change} (h : OkL m j l) {n v : Int} {q : List Stand} (hn : n = (j : Int) + 1) : OkL m (j + 1) (l ++ [Change.mk n v m.seq [m] [] q]) := by
  obtain ⟨h1, h2⟩ := h
  refine ⟨by simp [h1], fun i x hx => ?_⟩
  by_cases hi : i < l.length
  · rw [List.getElem?_append_left hi] at hx; exact h2 i x hx
  · rw [List.getElem?_append_right (by omega)] at hx
    have hi0 : i - l.length = 0 := by
      rcases Nat.eq_zero_or_pos (i - l.length) with h | h
      · exact h
      · rw [List.getElem?_eq_none (by simp; omega)] at hx; cases hx
    rw [hi0] at hx
    simp at hx
    subst hx
    exact ⟨by show n = _; omega, rfl, rfl, rfl⟩
theorem okl_mem {m : Mark} {j : Nat} {l : List Change} (h : OkL m j l) {x : Change} (hx : x ∈ l) : 1 ≤ x.node ∧ x.node ≤ j ∧ x.low = m.seq ∧ x.marks = [m] ∧ x.p = [] := by
  obtain ⟨i, hi, rfl⟩ := List.mem_iff_getElem.1 hx
  obtain ⟨h1, h2, h3, h4⟩ := h.2 i _ (List.getElem?_eq_getElem hi)
  have h0 := h.1
  exact ⟨by omega, by omega, h2, h3, h4⟩
theorem okl_marks {m : Mark} {j : Nat} {l : List Change} (h : OkL m j l) : l.flatMap (·.marks) = List.replicate j m := by
  have key : ∀ l : List Change, (∀ x ∈ l, x.marks = [m]) → l.flatMap (·.marks) = List.replicate l.length m := by
    intro l
    induction l with
    | nil => intro _; rfl
    | cons x r ih => intro hx; rw [List.flatMap_cons, hx x (by simp), ih (fun y hy => hx y (by simp [hy]))]; rfl
  rw [key l (fun x hx => (okl_mem h hx).2.2.2.1), h.1]
theorem okl_p {m : Mark} {j : Nat} {l : List Change} (h : OkL m j l) : l.flatMap (·.p) = [] := by
  rw [List.flatMap_eq_nil_iff]; exact fun x hx => (okl_mem h hx).2.2.2.2
theorem okl_nodup {m : Mark} {j : Nat} {l : List Change} (h : OkL m j l) : (l.map (·.node)).Nodup := by
  rw [List.nodup_iff_pairwise_ne, List.pairwise_iff_getElem]
  intro a b ha hb hab
  simp only [List.length_map] at ha hb
  have e1 := (h.2 a _ (List.getElem?_eq_getElem ha)).1
  have e2 := (h.2 b _ (List.getElem?_eq_getElem hb)).1
  simp only [List.getElem_map]
  omega
theorem has_crew {f n : Int} (hf : f = 1 ∨ f = 2) (h1 : 1 ≤ n) (h2 : n ≤ 3 * f + 1) : has (crewI f) n = true := by
  rw [has_rhas]
  rcases hf with rfl | rfl
  · have : n = 1 ∨ n = 2 ∨ n = 3 ∨ n = 4 := by omega
    rcases this with rfl | rfl | rfl | rfl <;> decide
  · have : n = 1 ∨ n = 2 ∨ n = 3 ∨ n = 4 ∨ n = 5 ∨ n = 6 ∨ n = 7 := by omega
    rcases this with rfl | rfl | rfl | rfl | rfl | rfl | rfl <;> decide
theorem crew_nums {f : Int} (hf : f = 1 ∨ f = 2) : (check (crewI f) != 0) = false ∧ most (crewI f) = 2 * f + 1 ∧ some_ (crewI f) = f + 1 := by
  rcases hf with rfl | rfl <;> decide
theorem cnt_all {m s : Int} {l : List Change} {q : Change → Bool} (h : ∀ x ∈ l, q x = true) : cnt ⟨m, s, l⟩ q = l.length := by
  unfold cnt; rw [List.countP_eq_length.2 h]
theorem pickGo_quiet {co : Council} {lo : Mark} : ∀ (f : Nat) (n : Int) (out : List Mark), (∀ k, n ≤ k → atI co k = (⟨k, Dig.zero⟩, true)) → pickGo co lo f n out 0 = (lo, [], 0)
  | 0, n, out, h => by simp [pickGo]
  | f + 1, n, out, h => by
    simp only [pickGo, h n (by omega), Bool.not_true, cond_false, decide_true, cond_true]
    exact pickGo_quiet f (n + 1) _ (fun k hk => h k (by omega))
theorem nothing_sel {f : Int} (hf : f = 1 ∨ f = 2) {m : Mark} {j : Nat} {l : List Change} (hj : (j : Int) = 3 * f + 1) (hm : 0 ≤ m.seq ∧ m.seq ≤ 1000) (h : OkL m j l) : selI (has (crewI f)) (crewI f) l = (m, [], 0) := by
  obtain ⟨c1, c2, c3⟩ := crew_nums hf
  have hb : badB (has (crewI f)) [] l = false := (badB_iff _ _ _).2 ⟨fun x hx => has_crew hf (okl_mem h hx).1 (by have := (okl_mem h hx).2.1; omega), by simp, okl_nodup h⟩
  have hlen := h.1
  have hmay : lowMayB ⟨most (crewI f), some_ (crewI f), l⟩ m = true := by
    unfold lowMayB
    rw [cnt_all (q := low11B m) (fun x hx => by have := (okl_mem h hx).2.2.1; simp [low11B, this]), cnt_all (q := low12B m) (fun x hx => by have := (okl_mem h hx).2.2.2.1; simp [low12B, this]), c2, c3]
    simp; omega
  have hlow : lowI ⟨most (crewI f), some_ (crewI f), l⟩ = (m, true) := by
    unfold lowI
    have hi := bestG_is (may := fun x => lowMayB ⟨most (crewI f), some_ (crewI f), l⟩ x) (cmp := fun a b => orI [cmpI a.seq b.seq, cmpB b.dig.l a.dig.l]) (fun a => by simp only [better2]; omega) (fun a b c => by simp only [better2]; omega) (fun a b => by simp only [better2]; omega) (l.flatMap (·.marks)) default false (by intro h; cases h)
    simp only [okl_marks h] at hi ⊢
    revert hi
    generalize bestG _ _ (List.replicate j m) default false = r
    obtain ⟨a, b⟩ := r
    intro hi
    have hj0 : m ∈ List.replicate j m := by simp; omega
    cases b with
    | false => have := (hi.no rfl).1 m hj0; rw [hmay] at this; cases this
    | true =>
      obtain ⟨_, k2, _⟩ := hi.ok rfl
      rcases k2 with k2 | ⟨k2, _⟩
      · have := List.eq_of_mem_replicate k2; simp only [] at this; rw [this]
      · cases k2
  have hat : ∀ k, m.seq + 1 ≤ k → atI ⟨most (crewI f), some_ (crewI f), l⟩ k = (⟨k, Dig.zero⟩, true) := by
    intro k hk
    unfold atI atB
    simp only [okl_p h, bestG, cond_false]
    rw [cnt_all (fun x hx => by
      have h1 := (okl_mem h hx).2.2.1; have h2 := (okl_mem h hx).2.2.2.2
      simp [at3B, h1, h2]; omega), c2]
    simp; omega
  unfold selI
  rw [c1, hb, hlow]
  simp only [cond_false, Bool.not_true, Bool.or_false]
  have : decide (((l.length : Nat) : Int) < most (crewI f)) = false := by rw [c2]; simp; omega
  rw [this]
  simp only [cond_false]
  exact pickGo_quiet _ _ _ hat
theorem isl44 : isSlice Try.prog 44 = true := by kernel_rfl
theorem slo44 : sliceOk Try.prog 44 5 1 = true := by kernel_rfl
theorem nothing_ret (G0 : Gh) (w0 : World) (hw : Holds G0 w0) (fl : Int) (vpr : Value) (pr : List UInt8) (hpr : Sl G0 vpr pr) (lw : Int) :
    RetS Try.prog 5 #[.int .i64 fl, vpr, .int .i64 lw] G0 w0 (.bool true) := by
  have hC := Cx.refl hw
  have hB : Bxs G0 w0 w0.heap.size [] := Bxs.nil _ _ _
  obtain ⟨A1, cap2, rfl⟩ := hpr.form
  have h12 := f12 fl
  refine callsOf Try.func5 rfl _ Try.ntmps5 rfl _ (argsCons (argsCons (argsCons argsNil (t := 0) rfl) (t := 1) rfl) (t := 2) rfl) ?_; intro Q0 hQ
  refine wcSeq ?_
  refine wcRegion ?_
  refine wlVal (opAssign rfl) rfl ?_
  refine wlThen ?_
  refine wcSeq ?_
  refine wcRegion ?_
  refine wlVal (opMove rfl) rfl ?_
  refine wlCallS hC hB rfl co15 rfl rfl (bring_ret _ _ hC.holds fl 2) ?_; intro w hk hC hB
  refine wlVal (opAdd rfl rfl) rfl ?_
  refine wlVal (opAssign rfl) rfl ?_
  refine wlThen ?_
  refine wcSeq ?_
  refine wcRegion ?_
  refine wlVal (opMove rfl) rfl ?_
  refine wlCallS hC hB rfl co15 rfl rfl (bring_ret _ _ hC.holds lw 1001) ?_; intro w hk hC hB
  refine wlCallS hC hB rfl co16 rfl rfl (digest_ret _ _ hC.holds ((9 : UInt8))) ?_; intro w hk hC hB
  refine wlVal (opBuild (ps := [(0, .tmp 20), (1, .tmp 21)]) (cs := ((.int .i64 (((bringI lw 1001)))) :: (((digI ((9 : UInt8)))).cells ++ []))) so30 zero30 rfl rfl (by simp [buildCells, Value.cells])) rfl ?_
  refine wlAlloc hC hB zero30 rfl ?_; intro b3 w hk hC hB
  refine wlStore 0 (vs := ((.int .i64 (((bringI lw 1001)))) :: (((digI ((9 : UInt8)))).cells ++ []))) (cs := ((.int .i64 0) :: (Dig.zero.cells ++ []))) (cs' := ((.int .i64 (((bringI lw 1001)))) :: (((digI ((9 : UInt8)))).cells ++ []))) hC hB rfl rfl rfl sz30 rfl (by simp [Mark.cells, Stand.cells]) (by simp [Mark.cells, Stand.cells, Value.oneCell']) (by simp [Mark.cells, Stand.cells]) (by simp [Mark.cells, Stand.cells]) rfl ?_; intro w hC hB
  refine wlThen ?_
  refine wcSeq ?_
  refine wcRegion ?_
  refine wlVal (opAssign rfl) rfl ?_
  refine wlThen ?_
  refine wcSeq ?_
  refine wcSeq ?_
  refine wcRegion ?_
  refine wlVal (opAssign rfl) rfl ?_
  refine wlThen ?_
  refine wcBlock ?_
  refine WC.sub (wrInd (ι := Int × (Option Addr) × Nat × (Option Bx) × (List Change) × Nat) (fun i => match i with | (n, lsA, lsC, lsO, ls, j) => 8 - j) (fun i G w => match i with | (n, lsA, lsC, lsO, ls, j) => Cx w0 G0 G w ∧ Bxs G w w0.heap.size ([(b3, 30, ((.int .i64 (((bringI lw 1001)))) :: (((digI ((9 : UInt8)))).cells ++ [])))] ++ (Option.toList lsO ++ [])) ∧ Sl G (.slice A1 pr.length cap2) pr ∧ Ow G lsO 49 (.slice lsA ls.length lsC) ls ∧ n = (j : Int) + 1 ∧ (j : Int) ≤ 3 * (IntKind.wrap .i64 (1 + (bringI fl 2))) + 1 ∧ OkL (Mark.mk (bringI lw 1001) (digI 9)) j ls) (fun i => match i with | (n, lsA, lsC, lsO, ls, j) => (((((Env.nil.put 1 (.slice A1 pr.length cap2)).put 7 (.int .i64 (IntKind.wrap .i64 (1 + ((bringI fl 2)))))).put 8 (.pointer (some ⟨b3, 0, none⟩))).put 9 (.slice lsA ls.length lsC)).put 10 (.int .i64 n))) ?_ (1, none, 0, none, [], 0) _ _ ⟨hC, hB, hpr, (Ow.nil_ _ 49), rfl, (by have := h12; omega), ⟨rfl, by simp⟩⟩) (fun _ ha => (((((ha.start.cons ha (t := 1) rfl).cons ha (t := 7) rfl).cons ha (t := 8) rfl).cons ha (t := 9) rfl).cons ha (t := 10) rfl))
  rintro ⟨n, lsA, lsC, lsO, ls, j⟩ G w N0 IH0 ⟨hC, hB, hpr, hOls, hn, hj7, hI⟩
  show WC _ _ _ _ (((((Env.nil.put 1 (.slice A1 pr.length cap2)).put 7 (.int .i64 (IntKind.wrap .i64 (1 + ((bringI fl 2)))))).put 8 (.pointer (some ⟨b3, 0, none⟩))).put 9 (.slice lsA ls.length lsC)).put 10 (.int .i64 n)) w
  refine wcSeq ?_
  refine wcSeq ?_
  refine wcRegion ?_
  refine wlVal (opMove rfl) rfl ?_
  refine wlVal (opMove rfl) rfl ?_
  refine wlVal (opMul rfl rfl) rfl ?_
  refine wlVal (opAdd rfl rfl) rfl ?_
  refine wlVal (opLeq rfl rfl) rfl ?_
  refine wlThen ?_
  cases h4 : decide (n ≤ IntKind.wrap .i64 (IntKind.wrap .i64 (3 * IntKind.wrap .i64 (1 + ((bringI fl 2)))) + 1))
  · skip
    refine wcCondF rfl ?_
    refine wcExit ?_
    refine wcOf ?_
    refine wcSeq ?_
    refine wcRegion ?_
    refine wlVal (opMove rfl) rfl ?_
    refine wlCallG hC hB rfl co19 rfl rfl (crewOf_ret _ _ hC.holds (IntKind.wrap .i64 (1 + ((bringI fl 2)))) h12) ?_; rintro v7 G w hk hC hB ⟨r5, rfl, hr6⟩
    replace hpr := hpr.mono hk.gle; replace hOls := hOls.mono hk.gle
    obtain ⟨v8, rfl, hs9⟩ := Crew.opIs hr6
    obtain ⟨A10, cap11, rfl⟩ := hs9.form
    refine wlVal (opMove rfl) rfl ?_
    obtain ⟨G, hg13, hC, hB, hs12⟩ := Ow.freeze' (bl := [(b3, 30, ((.int .i64 (((bringI lw 1001)))) :: (((digI ((9 : UInt8)))).cells ++ [])))]) (r := []) hOls hC (Nat.le_refl _) hB (by have q := of_decide_eq_false h4; rw [n3 h12] at q; have q2 := h12; have q3 := hI.1; unfold maxL; omega)
    replace hpr := hpr.mono hg13; replace hs9 := hs9.mono hg13
    refine wlCallO (bl := [(b3, 30, ((.int .i64 (((bringI lw 1001)))) :: (((digI ((9 : UInt8)))).cells ++ [])))]) (r := []) hC hB rfl co10 rfl rfl (select_ret _ _ hC.holds _ (((crewI (IntKind.wrap .i64 (1 + ((bringI fl 2))))))) (Crew.mkIs (x := ((crewI (IntKind.wrap .i64 (1 + ((bringI fl 2))))))) hs9) _ ls hs12 (by have q := of_decide_eq_false h4; rw [n3 h12] at q; have q2 := h12; have q3 := hI.1; rw [okl_marks hI]; simp; try omega) (by have q := of_decide_eq_false h4; rw [n3 h12] at q; have q2 := h12; have q3 := hI.1; rw [okl_p hI]; simp; try omega)) ?_; rintro v18 G o16 w hk hC hB ⟨A14, cap15, rfl, hO17⟩
    replace hpr := hpr.mono hk.gle; replace hs9 := hs9.mono hk.gle; replace hs12 := hs12.mono hk.gle
    refine wlVal (opMove rfl) rfl ?_
    refine wlVal (opExtract rfl rfl) rfl ?_
    refine wlVal (opExtract rfl rfl) rfl ?_
    refine wlVal (opExtract rfl rfl) rfl ?_
    refine wlAlloc hC hB zero30 rfl ?_; intro b19 w hk hC hB
    replace hB : Bxs G w w0.heap.size ([(b19, 30, ((.int .i64 0) :: (Dig.zero.cells ++ []))), (b3, 30, ((.int .i64 (((bringI lw 1001)))) :: (((digI ((9 : UInt8)))).cells ++ [])))] ++ (Option.toList o16 ++ [])) := hB
    refine wlStore 0 (vs := (((selI (has (((crewI (IntKind.wrap .i64 (1 + ((bringI fl 2)))))))) (((crewI (IntKind.wrap .i64 (1 + ((bringI fl 2))))))) ls).1)).cells) (cs := ((.int .i64 0) :: (Dig.zero.cells ++ []))) (cs' := (((selI (has (((crewI (IntKind.wrap .i64 (1 + ((bringI fl 2)))))))) (((crewI (IntKind.wrap .i64 (1 + ((bringI fl 2))))))) ls).1)).cells) hC hB rfl rfl rfl sz30 rfl (by simp [Mark.cells, Stand.cells]) (by simp [Mark.cells, Stand.cells, Value.oneCell']) (by simp [Mark.cells, Stand.cells]) (by simp [Mark.cells, Stand.cells]) rfl ?_; intro w hC hB
    replace hB : Bxs G w w0.heap.size ([(b19, 30, (((selI (has (((crewI (IntKind.wrap .i64 (1 + ((bringI fl 2)))))))) (((crewI (IntKind.wrap .i64 (1 + ((bringI fl 2))))))) ls).1)).cells), (b3, 30, ((.int .i64 (((bringI lw 1001)))) :: (((digI ((9 : UInt8)))).cells ++ [])))] ++ (Option.toList o16 ++ [])) := hB
    refine wlVal (opAssign rfl) rfl ?_
    refine wlVal (opAssign rfl) rfl ?_
    refine wlThen ?_
    refine wcSeq ?_
    refine wcRegion ?_
    refine wlVal (opMove rfl) rfl ?_
    refine wlVal (opEql rfl rfl) rfl ?_
    refine wlVal (opMove rfl) rfl ?_
    cases h20 : (((selI (has (((crewI (IntKind.wrap .i64 (1 + ((bringI fl 2)))))))) (((crewI (IntKind.wrap .i64 (1 + ((bringI fl 2))))))) ls).2.2)) == 0
    · skip
      refine wlOff rfl rfl rfl rfl ?_
      refine wlOff rfl rfl rfl rfl ?_
      refine wlOff rfl rfl rfl rfl ?_
      refine wlVal (opPickF rfl rfl) rfl ?_
      refine wlVal (opMove rfl) rfl ?_
      refine wlOff rfl rfl rfl rfl ?_
      refine wlOff rfl rfl rfl rfl ?_
      refine wlOff rfl rfl rfl rfl ?_
      refine wlVal (opPickF rfl rfl) rfl ?_
      refine wlVal (opMove rfl) rfl ?_
      refine wlOff rfl rfl rfl rfl ?_
      refine wlVal (opPickF rfl rfl) rfl ?_
      refine wlVal (opAssign rfl) rfl ?_
      refine wlThen ?_
      refine wcRet ?_
      exact fun ac_ ha => hQ _ _ _ (results1 ha rfl rfl) ha.df (endS hC hw (by have q := of_decide_eq_false h4; rw [n3 h12] at q; have q2 := h12; rw [nothing_sel h12 (by omega) (lw_rng lw) hI] at h20; simp at h20))
    · skip
      refine wlOn rfl rfl ?_
      refine wlVal (opLoadRow (cs := (((selI (has (((crewI (IntKind.wrap .i64 (1 + ((bringI fl 2)))))))) (((crewI (IntKind.wrap .i64 (1 + ((bringI fl 2))))))) ls).1)).cells) rfl (hB.range (i := 0) (m := 33) rfl (by simp [Mark.cells, Stand.cells])) row30 (by simp [Mark.cells, Stand.cells])) rfl ?_
      refine wlOn rfl rfl ?_
      refine wlVal (opLoadRow (cs := ((.int .i64 (((bringI lw 1001)))) :: (((digI ((9 : UInt8)))).cells ++ []))) rfl (hB.range (i := 1) (m := 33) rfl (by simp [Mark.cells, Stand.cells])) row30 (by simp [Mark.cells, Stand.cells])) rfl ?_
      refine wlOn rfl rfl ?_
      refine wlVal (opEqRow (eq30 _ (((selI (has (((crewI (IntKind.wrap .i64 (1 + ((bringI fl 2)))))))) (((crewI (IntKind.wrap .i64 (1 + ((bringI fl 2))))))) ls).1)) ((Mark.mk (((bringI lw 1001))) ((digI ((9 : UInt8))))))) eg30 rfl rfl) rfl ?_
      refine wlVal (opPickT rfl rfl) rfl ?_
      refine wlVal (opMove rfl) rfl ?_
      cases h21 : decide (((selI (has (((crewI (IntKind.wrap .i64 (1 + ((bringI fl 2)))))))) (((crewI (IntKind.wrap .i64 (1 + ((bringI fl 2))))))) ls).1) = (Mark.mk (((bringI lw 1001))) ((digI ((9 : UInt8))))))
      · skip
        refine wlOff rfl rfl rfl rfl ?_
        refine wlOff rfl rfl rfl rfl ?_
        refine wlOff rfl rfl rfl rfl ?_
        refine wlVal (opPickF rfl rfl) rfl ?_
        refine wlVal (opMove rfl) rfl ?_
        refine wlOff rfl rfl rfl rfl ?_
        refine wlVal (opPickF rfl rfl) rfl ?_
        refine wlVal (opAssign rfl) rfl ?_
        refine wlThen ?_
        refine wcRet ?_
        exact fun ac_ ha => hQ _ _ _ (results1 ha rfl rfl) ha.df (endS hC hw (by have q := of_decide_eq_false h4; rw [n3 h12] at q; have q2 := h12; rw [nothing_sel h12 (by omega) (lw_rng lw) hI] at h21; simp at h21))
      · skip
        refine wlOn rfl rfl ?_
        refine wlVal (opMove rfl) rfl ?_
        refine wlOn rfl rfl ?_
        refine wlVal (opLen rfl isl31) rfl ?_
        refine wlOn rfl rfl ?_
        refine wlVal (opEql rfl rfl) rfl ?_
        refine wlVal (opPickT rfl rfl) rfl ?_
        refine wlVal (opMove rfl) rfl ?_
        cases h22 : ((((((selI (has (((crewI (IntKind.wrap .i64 (1 + ((bringI fl 2)))))))) (((crewI (IntKind.wrap .i64 (1 + ((bringI fl 2))))))) ls).2.1)).length : Nat) : Int)) == 0
        · skip
          refine wlOff rfl rfl rfl rfl ?_
          refine wlVal (opPickF rfl rfl) rfl ?_
          refine wlVal (opAssign rfl) rfl ?_
          refine wlThen ?_
          refine wcRet ?_
          exact fun ac_ ha => hQ _ _ _ (results1 ha rfl rfl) ha.df (endS hC hw (by have q := of_decide_eq_false h4; rw [n3 h12] at q; have q2 := h12; rw [nothing_sel h12 (by omega) (lw_rng lw) hI] at h22; simp at h22))
        · skip
          refine wlOn rfl rfl ?_
          refine wlCallS hC hB rfl co14 rfl rfl (awake_ret _ _ hC.holds ) ?_; intro w hk hC hB
          refine wlVal (opPickT rfl rfl) rfl ?_
          refine wlVal (opAssign rfl) rfl ?_
          refine wlThen ?_
          refine wcRet ?_
          exact fun ac_ ha => hQ _ _ _ (results1 ha rfl rfl) ha.df (endS hC hw rfl)
  · skip
    refine wcCondT rfl ?_
    refine wcSkip ?_
    refine wcOf ?_
    refine wcSeq ?_
    refine wcBlock ?_
    refine wcSeq ?_
    refine wcRegion ?_
    refine wlVal (opMove rfl) rfl ?_
    refine wlVal (opFieldAddr rfl fo30_0) rfl ?_
    refine wlVal (opLoadOne (v := (.int .i64 (((bringI lw 1001))))) rfl (hB.cell (i := 0) rfl (by simp [Mark.cells, Stand.cells])) one3) rfl ?_
    refine wlVal (opLoadRow (cs := ((.int .i64 (((bringI lw 1001)))) :: (((digI ((9 : UInt8)))).cells ++ []))) rfl (hB.range (i := 0) (m := 33) rfl (by simp [Mark.cells, Stand.cells])) row30 (by simp [Mark.cells, Stand.cells])) rfl ?_
    refine wlBuildSlice (α := Mark) (ps := [(0, .tmp 33)]) (xs := [(Mark.mk (((bringI lw 1001))) ((digI ((9 : UInt8)))))]) (rows := [((.int .i64 (((bringI lw 1001)))) :: (((digI ((9 : UInt8)))).cells ++ []))]) elo31 rfl rfl hC hB rfl rfl rfl ⟨rfl, trivial⟩ rfl ?_; intro b23 G w hk hC hB hs24
    replace hpr := hpr.mono hk.gle; replace hOls := hOls.mono hk.gle
    refine wlVal (opBuild (ps := [(0, .tmp 30), (1, .const (.int .i64 9)), (2, .tmp 32), (3, .tmp 34)]) (cs := [(.int .i64 n), (.int .i64 9), (.int .i64 (((bringI lw 1001)))), (.slice (some ⟨b23, 0, none⟩) 1 1), (.slice none 0 0), (.slice none 0 0)]) so49 zero49 rfl rfl (by simp [buildCells, Value.cells])) rfl ?_
    refine wlAlloc hC hB zero49 rfl ?_; intro b25 w hk hC hB
    replace hB : Bxs G w w0.heap.size ([(b25, 49, [(.int .i64 0), (.int .i64 0), (.int .i64 0), (.slice none 0 0), (.slice none 0 0), (.slice none 0 0)]), (b3, 30, ((.int .i64 (((bringI lw 1001)))) :: (((digI ((9 : UInt8)))).cells ++ [])))] ++ (Option.toList lsO ++ [])) := hB
    refine wlStore 0 (vs := [(.int .i64 n), (.int .i64 9), (.int .i64 (((bringI lw 1001)))), (.slice (some ⟨b23, 0, none⟩) 1 1), (.slice none 0 0), (.slice none 0 0)]) (cs := [(.int .i64 0), (.int .i64 0), (.int .i64 0), (.slice none 0 0), (.slice none 0 0), (.slice none 0 0)]) (cs' := [(.int .i64 n), (.int .i64 9), (.int .i64 (((bringI lw 1001)))), (.slice (some ⟨b23, 0, none⟩) 1 1), (.slice none 0 0), (.slice none 0 0)]) hC hB rfl rfl rfl sz49 rfl rfl rfl (by simp [Mark.cells, Stand.cells]) rfl rfl ?_; intro w hC hB
    replace hB : Bxs G w w0.heap.size ([(b25, 49, [(.int .i64 n), (.int .i64 9), (.int .i64 (((bringI lw 1001)))), (.slice (some ⟨b23, 0, none⟩) 1 1), (.slice none 0 0), (.slice none 0 0)]), (b3, 30, ((.int .i64 (((bringI lw 1001)))) :: (((digI ((9 : UInt8)))).cells ++ [])))] ++ (Option.toList lsO ++ [])) := hB
    refine wlThen ?_
    refine wcSeq ?_
    refine wcSeq ?_
    refine wcRegion ?_
    refine wlVal (opAssign rfl) rfl ?_
    refine wlThen ?_
    refine wcBlock ?_
    refine WC.sub (wrInd (ι := Nat × (Option Addr) × Nat × (Option Bx) × (List Stand)) (fun i => match i with | (i, qsA, qsC, qsO, qs) => pr.length - i) (fun i G w => match i with | (i, qsA, qsC, qsO, qs) => Cx w0 G0 G w ∧ Bxs G w w0.heap.size ([(b25, 49, [(.int .i64 n), (.int .i64 9), (.int .i64 (((bringI lw 1001)))), (.slice (some ⟨b23, 0, none⟩) 1 1), (.slice none 0 0), (.slice qsA qs.length qsC)]), (b3, 30, ((.int .i64 (((bringI lw 1001)))) :: (((digI ((9 : UInt8)))).cells ++ [])))] ++ (Option.toList qsO ++ (Option.toList lsO ++ []))) ∧ Sl G (.slice A1 pr.length cap2) pr ∧ Ow G lsO 49 (.slice lsA ls.length lsC) ls ∧ Sl G (.slice (some ⟨b23, 0, none⟩) 1 1) ([(Mark.mk (((bringI lw 1001))) ((digI ((9 : UInt8)))))]) ∧ Ow G qsO 58 (.slice qsA qs.length qsC) qs ∧ i ≤ 20 ∧ qs.length ≤ i) (fun i => match i with | (i, qsA, qsC, qsO, qs) => (((((((Env.nil.put 1 (.slice A1 pr.length cap2)).put 7 (.int .i64 (IntKind.wrap .i64 (1 + ((bringI fl 2)))))).put 8 (.pointer (some ⟨b3, 0, none⟩))).put 9 (.slice lsA ls.length lsC)).put 10 (.int .i64 n)).put 11 (.pointer (some ⟨b25, 0, none⟩))).put 12 (.int .i64 (((i : Nat) : Int))))) ?_ (0, none, 0, none, []) _ _ ⟨hC, hB, hpr, hOls, hs24, (Ow.nil_ _ 58), (Nat.zero_le _), (Nat.le_refl _)⟩) (fun _ ha => (((((((ha.start.cons ha (t := 1) rfl).cons ha (t := 7) rfl).cons ha (t := 8) rfl).cons ha (t := 9) rfl).cons ha (t := 10) rfl).cons ha (t := 11) rfl).cons ha (t := 12) rfl))
    rintro ⟨i, qsA, qsC, qsO, qs⟩ G w N1 IH1 ⟨hC, hB, hpr, hOls, hs24, hOqs, hi20, hq⟩
    show WC _ _ _ _ (((((((Env.nil.put 1 (.slice A1 pr.length cap2)).put 7 (.int .i64 (IntKind.wrap .i64 (1 + ((bringI fl 2)))))).put 8 (.pointer (some ⟨b3, 0, none⟩))).put 9 (.slice lsA ls.length lsC)).put 10 (.int .i64 n)).put 11 (.pointer (some ⟨b25, 0, none⟩))).put 12 (.int .i64 (((i : Nat) : Int)))) w
    refine wcSeq ?_
    refine wcSeq ?_
    refine wcRegion ?_
    refine wlVal (opMove rfl) rfl ?_
    refine wlVal (opMove rfl) rfl ?_
    refine wlVal (opLen rfl isl44) rfl ?_
    refine wlVal (opLssN rfl rfl) rfl ?_
    refine wlVal (opMove rfl) rfl ?_
    cases h26 : decide (i < pr.length)
    · skip
      refine wlOff rfl rfl rfl rfl ?_
      refine wlOff rfl rfl rfl rfl ?_
      refine wlVal (opPickF rfl rfl) rfl ?_
      refine wlThen ?_
      refine wcCondF rfl ?_
      refine wcExit ?_
      refine wcOf ?_
      refine wcRegion ?_
      refine wlVal (opMove rfl) rfl ?_
      refine wlVal (opLoadRow (cs := [(.int .i64 n), (.int .i64 9), (.int .i64 (((bringI lw 1001)))), (.slice (some ⟨b23, 0, none⟩) 1 1), (.slice none 0 0), (.slice qsA qs.length qsC)]) rfl (hB.range (i := 0) (m := 6) rfl rfl) row49 rfl) rfl ?_
      obtain ⟨G, hg28, hC, hB, hs27⟩ := Ow.freeze' (bl := [(b25, 49, [(.int .i64 n), (.int .i64 9), (.int .i64 (((bringI lw 1001)))), (.slice (some ⟨b23, 0, none⟩) 1 1), (.slice none 0 0), (.slice qsA qs.length qsC)]), (b3, 30, ((.int .i64 (((bringI lw 1001)))) :: (((digI ((9 : UInt8)))).cells ++ [])))]) (r := (Option.toList lsO ++ [])) hOqs hC (Nat.le_refl _) hB (by unfold maxL; first | (simp; omega) | omega)
      replace hpr := hpr.mono hg28; replace hOls := hOls.mono hg28; replace hs24 := hs24.mono hg28
      refine wlBuildSlice (α := Change) (ps := [(0, .tmp 73)]) (xs := [(Change.mk n 9 (((bringI lw 1001))) ([(Mark.mk (((bringI lw 1001))) ((digI ((9 : UInt8)))))]) ([]) qs)]) (rows := [[(.int .i64 n), (.int .i64 9), (.int .i64 (((bringI lw 1001)))), (.slice (some ⟨b23, 0, none⟩) 1 1), (.slice none 0 0), (.slice qsA qs.length qsC)]]) elo25 rfl rfl hC hB rfl rfl rfl ⟨(Change.mkIs (x := (Change.mk n 9 (((bringI lw 1001))) ([(Mark.mk (((bringI lw 1001))) ((digI ((9 : UInt8)))))]) ([]) qs)) hs24 (Sl.nil_ _) hs27), trivial⟩ rfl ?_; intro b29 G w hk hC hB hs30
      replace hpr := hpr.mono hk.gle; replace hOls := hOls.mono hk.gle; replace hs24 := hs24.mono hk.gle; replace hs27 := hs27.mono hk.gle
      refine wlAppend (α := Change) (bl := [(b25, 49, [(.int .i64 n), (.int .i64 9), (.int .i64 (((bringI lw 1001)))), (.slice (some ⟨b23, 0, none⟩) 1 1), (.slice none 0 0), (.slice qsA qs.length qsC)]), (b3, 30, ((.int .i64 (((bringI lw 1001)))) :: (((digI ((9 : UInt8)))).cells ++ [])))]) (o := lsO) (r := []) elo25 hC hB rfl rfl hOls hs30 (by have q := of_decide_eq_true h4; rw [n3 h12] at q; have q2 := h12; have q3 := hI.1; simp only [List.length_cons, List.length_nil]; omega) rfl rfl ?_; intro A31 cap32 o33 w hC hB hO34
      refine wlVal (opAssign rfl) rfl ?_
      refine wlNil ?_
      refine wcOf ?_
      refine wcRegion ?_
      refine wlVal (opMove rfl) rfl ?_
      refine wlVal (opAdd rfl rfl) rfl ?_
      refine wlVal (opAssign rfl) rfl ?_
      refine wlRound ?_
      exact (IH0 (IntKind.wrap .i64 (n + 1), A31, cap32, o33, (ls ++ [(Change.mk n 9 (((bringI lw 1001))) ([(Mark.mk (((bringI lw 1001))) ((digI ((9 : UInt8)))))]) ([]) qs)]), (j + 1)) _ _ ⟨hC, hB.tail, hpr, hO34, (by have q := of_decide_eq_true h4; rw [n3 h12] at q; have q2 := h12; rw [IntWalk.i64_in _ (by omega)]; omega), (by have q := of_decide_eq_true h4; rw [n3 h12] at q; have q2 := h12; omega), (okl_step hI (by omega))⟩ (by have q := of_decide_eq_true h4; rw [n3 h12] at q; have q2 := h12; show 8 - (j + 1) < 8 - j; omega)).sub (fun _ ha => (((((ha.start.cons ha (t := 1) rfl).cons ha (t := 7) rfl).cons ha (t := 8) rfl).cons ha (t := 9) rfl).cons ha (t := 10) rfl))
    · skip
      refine wlOn rfl rfl ?_
      refine wlVal (opMove rfl) rfl ?_
      refine wlOn rfl rfl ?_
      refine wlVal (opLssN (b := 20) rfl rfl) rfl ?_
      refine wlVal (opPickT rfl rfl) rfl ?_
      refine wlThen ?_
      cases h35 : decide (i < 20)
      · skip
        refine wcCondF rfl ?_
        refine wcExit ?_
        refine wcOf ?_
        refine wcRegion ?_
        refine wlVal (opMove rfl) rfl ?_
        refine wlVal (opLoadRow (cs := [(.int .i64 n), (.int .i64 9), (.int .i64 (((bringI lw 1001)))), (.slice (some ⟨b23, 0, none⟩) 1 1), (.slice none 0 0), (.slice qsA qs.length qsC)]) rfl (hB.range (i := 0) (m := 6) rfl rfl) row49 rfl) rfl ?_
        obtain ⟨G, hg37, hC, hB, hs36⟩ := Ow.freeze' (bl := [(b25, 49, [(.int .i64 n), (.int .i64 9), (.int .i64 (((bringI lw 1001)))), (.slice (some ⟨b23, 0, none⟩) 1 1), (.slice none 0 0), (.slice qsA qs.length qsC)]), (b3, 30, ((.int .i64 (((bringI lw 1001)))) :: (((digI ((9 : UInt8)))).cells ++ [])))]) (r := (Option.toList lsO ++ [])) hOqs hC (Nat.le_refl _) hB (by unfold maxL; first | (simp; omega) | omega)
        replace hpr := hpr.mono hg37; replace hOls := hOls.mono hg37; replace hs24 := hs24.mono hg37
        refine wlBuildSlice (α := Change) (ps := [(0, .tmp 73)]) (xs := [(Change.mk n 9 (((bringI lw 1001))) ([(Mark.mk (((bringI lw 1001))) ((digI ((9 : UInt8)))))]) ([]) qs)]) (rows := [[(.int .i64 n), (.int .i64 9), (.int .i64 (((bringI lw 1001)))), (.slice (some ⟨b23, 0, none⟩) 1 1), (.slice none 0 0), (.slice qsA qs.length qsC)]]) elo25 rfl rfl hC hB rfl rfl rfl ⟨(Change.mkIs (x := (Change.mk n 9 (((bringI lw 1001))) ([(Mark.mk (((bringI lw 1001))) ((digI ((9 : UInt8)))))]) ([]) qs)) hs24 (Sl.nil_ _) hs36), trivial⟩ rfl ?_; intro b38 G w hk hC hB hs39
        replace hpr := hpr.mono hk.gle; replace hOls := hOls.mono hk.gle; replace hs24 := hs24.mono hk.gle; replace hs36 := hs36.mono hk.gle
        refine wlAppend (α := Change) (bl := [(b25, 49, [(.int .i64 n), (.int .i64 9), (.int .i64 (((bringI lw 1001)))), (.slice (some ⟨b23, 0, none⟩) 1 1), (.slice none 0 0), (.slice qsA qs.length qsC)]), (b3, 30, ((.int .i64 (((bringI lw 1001)))) :: (((digI ((9 : UInt8)))).cells ++ [])))]) (o := lsO) (r := []) elo25 hC hB rfl rfl hOls hs39 (by have q := of_decide_eq_true h4; rw [n3 h12] at q; have q2 := h12; have q3 := hI.1; simp only [List.length_cons, List.length_nil]; omega) rfl rfl ?_; intro A40 cap41 o42 w hC hB hO43
        refine wlVal (opAssign rfl) rfl ?_
        refine wlNil ?_
        refine wcOf ?_
        refine wcRegion ?_
        refine wlVal (opMove rfl) rfl ?_
        refine wlVal (opAdd rfl rfl) rfl ?_
        refine wlVal (opAssign rfl) rfl ?_
        refine wlRound ?_
        exact (IH0 (IntKind.wrap .i64 (n + 1), A40, cap41, o42, (ls ++ [(Change.mk n 9 (((bringI lw 1001))) ([(Mark.mk (((bringI lw 1001))) ((digI ((9 : UInt8)))))]) ([]) qs)]), (j + 1)) _ _ ⟨hC, hB.tail, hpr, hO43, (by have q := of_decide_eq_true h4; rw [n3 h12] at q; have q2 := h12; rw [IntWalk.i64_in _ (by omega)]; omega), (by have q := of_decide_eq_true h4; rw [n3 h12] at q; have q2 := h12; omega), (okl_step hI (by omega))⟩ (by have q := of_decide_eq_true h4; rw [n3 h12] at q; have q2 := h12; show 8 - (j + 1) < 8 - j; omega)).sub (fun _ ha => (((((ha.start.cons ha (t := 1) rfl).cons ha (t := 7) rfl).cons ha (t := 8) rfl).cons ha (t := 9) rfl).cons ha (t := 10) rfl))
      · skip
        refine wcCondT rfl ?_
        refine wcSkip ?_
        refine wcOf ?_
        refine wcSeq ?_
        refine wcBlock ?_
        refine wcSeq ?_
        refine wcRegion ?_
        refine wlVal (opMove rfl) rfl ?_
        refine wlVal (opMove rfl) rfl ?_
        refine wlVal (opMul rfl rfl) rfl ?_
        refine wlVal (opAdd rfl rfl) rfl ?_
        refine wlVal (opRem rfl rfl (by rw [n3 h12]; have := h12; omega)) rfl ?_
        refine wlVal (opMove rfl) rfl ?_
        refine wlVal (opSub rfl rfl) rfl ?_
        refine wlVal (opEql rfl rfl) rfl ?_
        refine wlThen ?_
        cases h44 : ((Int.tmod (((i : Nat) : Int)) (IntKind.wrap .i64 (IntKind.wrap .i64 (3 * IntKind.wrap .i64 (1 + ((bringI fl 2)))) + 1)))) == (IntKind.wrap .i64 (n - 1))
        · skip
          refine wcCondF rfl ?_
          refine wcSkip ?_
          refine wcOf ?_
          refine wcRegion ?_
          refine wlVal (opMove rfl) rfl ?_
          refine wlVal (opIncr rfl rfl (by have q := of_decide_eq_true h35; omega)) rfl ?_
          refine wlVal (opAssign rfl) rfl ?_
          refine wlRound ?_
          exact (IH1 (i + 1, qsA, qsC, qsO, qs) _ _ ⟨hC, hB, hpr, hOls, hs24, hOqs, (of_decide_eq_true h35), (by first | omega | (simp; omega))⟩ (by have q := of_decide_eq_true h26; show pr.length - (i + 1) < pr.length - i; omega)).sub (fun _ ha => (((((((ha.start.cons ha (t := 1) rfl).cons ha (t := 7) rfl).cons ha (t := 8) rfl).cons ha (t := 9) rfl).cons ha (t := 10) rfl).cons ha (t := 11) rfl).cons ha (t := 12) rfl))
        · skip
          refine wcCondT rfl ?_
          obtain ⟨x45, hx46⟩ : ∃ y_, pr[i]? = some y_ := ⟨_, List.getElem?_eq_getElem (of_decide_eq_true h26)⟩
          obtain ⟨b47, o48, row49, hA52, hr50, hi51⟩ := hpr.elem hx46; subst hA52
          obtain rfl := hi51
          refine wcDraw fmix (by kernel_rfl) (by kernel_rfl) (vAt [(fun _ v_ => v_ = (.pointer (some ⟨b25, 5, none⟩))), (fun _ v_ => v_ = (.slice qsA qs.length qsC)), (fun _ v_ => v_ = (.pointer (some ⟨b3, 0, none⟩))), (fun _ v_ => v_ = (.int .i64 (((bringI lw 1001))))), (fun _ v_ => v_ = (.int .i64 (IntKind.wrap .i64 (((bringI lw 1001)) + 1)))), (fun _ v_ => v_ = (.int .i64 (((i : Nat) : Int)))), (fun _ v_ => v_ = (.int .i64 ((Int.tmod (((i : Nat) : Int)) 8)))), (fun _ v_ => v_ = (.int .i64 (IntKind.wrap .i64 (IntKind.wrap .i64 (((bringI lw 1001)) + 1) + (Int.tmod (((i : Nat) : Int)) 8))))), (fun _ v_ => v_ = (.slice (some ⟨b47, o48, none⟩) pr.length cap2)), (fun _ v_ => v_ = (.int .i64 (((i : Nat) : Int)))), (fun _ v_ => v_ = (.pointer (some ⟨b47, o48 + i * 1, none⟩))), (fun _ v_ => v_ = (.int .u8 (((x45).toNat : Int)))), (fun _ v_ => v_ = (.agg ((digI x45)).cells.toArray)), (fun _ v_ => v_ = (.int .i64 (((i : Nat) : Int)))), (fun _ v_ => v_ = (.agg ((.int .i64 (IntKind.wrap .i64 (IntKind.wrap .i64 (((bringI lw 1001)) + 1) + (Int.tmod (((i : Nat) : Int)) 8)))) :: (((digI x45)).cells ++ ((Value.int .i64 (((i : Nat) : Int))) :: []))).toArray)), (fun G v => ∃ bb_, v = .slice (some ⟨bb_, 0, none⟩) 1 1 ∧ Sl G v ([(Stand.mk (IntKind.wrap .i64 (IntKind.wrap .i64 (((bringI lw 1001)) + 1) + (Int.tmod (((i : Nat) : Int)) 8))) ((digI x45)) (((i : Nat) : Int)))] : List Stand)), (fun _ _ => True), (fun _ v_ => v_ = (.pointer (some ⟨b25, 5, none⟩))), (fun _ _ => True)]) (fun done ac_ G' w => Cx w0 G0 G' w ∧ GLe G G' ∧ ∃ (A16_ : Option Addr) (C16_ : Nat) (O16_ : Option Bx), (done 16 = true → ac_.tmps[70]? = some (.slice A16_ (((qs ++ [(Stand.mk (IntKind.wrap .i64 (IntKind.wrap .i64 (((bringI lw 1001)) + 1) + (Int.tmod (((i : Nat) : Int)) 8))) ((digI x45)) (((i : Nat) : Int)))])).length) C16_) ∧ Ow G' O16_ 58 (.slice A16_ (((qs ++ [(Stand.mk (IntKind.wrap .i64 (IntKind.wrap .i64 (((bringI lw 1001)) + 1) + (Int.tmod (((i : Nat) : Int)) 8))) ((digI x45)) (((i : Nat) : Int)))])).length) C16_) ((qs ++ [(Stand.mk (IntKind.wrap .i64 (IntKind.wrap .i64 (((bringI lw 1001)) + 1) + (Int.tmod (((i : Nat) : Int)) 8))) ((digI x45)) (((i : Nat) : Int)))]) : List Stand)) ∧ Bxs G' w w0.heap.size (([(b25, 49, (bif done 18 then [(.int .i64 n), (.int .i64 9), (.int .i64 (((bringI lw 1001)))), (.slice (some ⟨b23, 0, none⟩) 1 1), (.slice none 0 0), (.slice A16_ (((qs ++ [(Stand.mk (IntKind.wrap .i64 (IntKind.wrap .i64 (((bringI lw 1001)) + 1) + (Int.tmod (((i : Nat) : Int)) 8))) ((digI x45)) (((i : Nat) : Int)))])).length) C16_)] else [(.int .i64 n), (.int .i64 9), (.int .i64 (((bringI lw 1001)))), (.slice (some ⟨b23, 0, none⟩) 1 1), (.slice none 0 0), (.slice qsA qs.length qsC)])), (b3, 30, ((.int .i64 (((bringI lw 1001)))) :: (((digI ((9 : UInt8)))).cells ++ [])))] ++ (Option.toList (bif done 16 then O16_ else qsO) ++ (Option.toList lsO ++ []))))) G (vAt_mono ⟨fun _ _ _ _ h => h, fun _ _ _ _ h => h, fun _ _ _ _ h => h, fun _ _ _ _ h => h, fun _ _ _ _ h => h, fun _ _ _ _ h => h, fun _ _ _ _ h => h, fun _ _ _ _ h => h, fun _ _ _ _ h => h, fun _ _ _ _ h => h, fun _ _ _ _ h => h, fun _ _ _ _ h => h, fun _ _ _ _ h => h, fun _ _ _ _ h => h, fun _ _ _ _ h => h, fun _ _ _ hg => fun ⟨b, h1, h2⟩ => ⟨b, h1, h2.mono hg⟩, fun _ _ _ _ h => h, fun _ _ _ _ h => h, fun _ _ _ _ h => h, trivial⟩) (fun _ _ => ⟨hC.drew, fun _ _ h => h, none, 0, none, (fun h => by cases h), by simpa using hB.drew⟩) ?_ ?_
          · refine dsNone (j := 1) rfl ?_ ?_
            · intro done G w ac_ hd hp hn ⟨hC, hg, A16_, C16_, O16_, hT16, hBx⟩ hM
              have hB := hBx
              have f11 : ac_.tmps[11]? = some (.pointer (some ⟨b25, 0, none⟩)) := hM.old0 rfl rfl
              have hF : Fr 99 ac_ (Env.nil.put 11 (.pointer (some ⟨b25, 0, none⟩))) := (hM.fr.add f11)
              exact OpVal.draw hF (opFieldAddr rfl fo49_5) ⟨G, fun _ _ h => h, ⟨hC, hg, A16_, C16_, O16_, (fun h => ⟨(put_other rfl).trans (hT16 h).1, (hT16 h).2⟩), hBx⟩, rfl⟩
            refine dsNone (j := 2) rfl ?_ ?_
            · intro done G w ac_ hd hp hn ⟨hC, hg, A16_, C16_, O16_, hT16, hBx⟩ hM
              have hB := hBx
              try simp only [hn 18 _ rfl rfl, cond_false] at hB
              have f54 : ac_.tmps[54]? = some (.pointer (some ⟨b25, 5, none⟩)) := hM.eqv 0 rfl (hp 0 rfl) rfl rfl
              have hF : Fr 99 ac_ (Env.nil.put 54 (.pointer (some ⟨b25, 5, none⟩))) := (hM.fr.add f54)
              exact OpVal.draw hF (opLoadOne (v := (.slice qsA qs.length qsC)) rfl (hB.cell (i := 0) rfl rfl) one47) ⟨G, fun _ _ h => h, ⟨hC, hg, A16_, C16_, O16_, (fun h => ⟨(put_other rfl).trans (hT16 h).1, (hT16 h).2⟩), hBx⟩, rfl⟩
            refine dsNone (j := 3) rfl ?_ ?_
            · intro done G w ac_ hd hp hn ⟨hC, hg, A16_, C16_, O16_, hT16, hBx⟩ hM
              have hB := hBx
              have f8 : ac_.tmps[8]? = some (.pointer (some ⟨b3, 0, none⟩)) := hM.old0 rfl rfl
              have hF : Fr 99 ac_ (Env.nil.put 8 (.pointer (some ⟨b3, 0, none⟩))) := (hM.fr.add f8)
              exact OpVal.draw hF (opFieldAddr rfl fo30_0) ⟨G, fun _ _ h => h, ⟨hC, hg, A16_, C16_, O16_, (fun h => ⟨(put_other rfl).trans (hT16 h).1, (hT16 h).2⟩), hBx⟩, rfl⟩
            refine dsNone (j := 4) rfl ?_ ?_
            · intro done G w ac_ hd hp hn ⟨hC, hg, A16_, C16_, O16_, hT16, hBx⟩ hM
              have hB := hBx
              try simp only [hn 18 _ rfl rfl, cond_false] at hB
              have f56 : ac_.tmps[56]? = some (.pointer (some ⟨b3, 0, none⟩)) := hM.eqv 2 rfl (hp 2 rfl) rfl rfl
              have hF : Fr 99 ac_ (Env.nil.put 56 (.pointer (some ⟨b3, 0, none⟩))) := (hM.fr.add f56)
              exact OpVal.draw hF (opLoadOne (v := (.int .i64 (((bringI lw 1001))))) rfl (hB.cell (i := 1) rfl (by simp [Mark.cells, Stand.cells])) one3) ⟨G, fun _ _ h => h, ⟨hC, hg, A16_, C16_, O16_, (fun h => ⟨(put_other rfl).trans (hT16 h).1, (hT16 h).2⟩), hBx⟩, rfl⟩
            refine dsNone (j := 5) rfl ?_ ?_
            · intro done G w ac_ hd hp hn ⟨hC, hg, A16_, C16_, O16_, hT16, hBx⟩ hM
              have hB := hBx
              have f57 : ac_.tmps[57]? = some (.int .i64 (((bringI lw 1001)))) := hM.eqv 3 rfl (hp 3 rfl) rfl rfl
              have hF : Fr 99 ac_ (Env.nil.put 57 (.int .i64 (((bringI lw 1001))))) := (hM.fr.add f57)
              exact OpVal.draw hF (opAdd rfl rfl) ⟨G, fun _ _ h => h, ⟨hC, hg, A16_, C16_, O16_, (fun h => ⟨(put_other rfl).trans (hT16 h).1, (hT16 h).2⟩), hBx⟩, rfl⟩
            refine dsNone (j := 6) rfl ?_ ?_
            · intro done G w ac_ hd hp hn ⟨hC, hg, A16_, C16_, O16_, hT16, hBx⟩ hM
              have hB := hBx
              have f12 : ac_.tmps[12]? = some (.int .i64 (((i : Nat) : Int))) := hM.old0 rfl rfl
              have hF : Fr 99 ac_ (Env.nil.put 12 (.int .i64 (((i : Nat) : Int)))) := (hM.fr.add f12)
              exact OpVal.draw hF (opMove rfl) ⟨G, fun _ _ h => h, ⟨hC, hg, A16_, C16_, O16_, (fun h => ⟨(put_other rfl).trans (hT16 h).1, (hT16 h).2⟩), hBx⟩, rfl⟩
            refine dsNone (j := 7) rfl ?_ ?_
            · intro done G w ac_ hd hp hn ⟨hC, hg, A16_, C16_, O16_, hT16, hBx⟩ hM
              have hB := hBx
              have f59 : ac_.tmps[59]? = some (.int .i64 (((i : Nat) : Int))) := hM.eqv 5 rfl (hp 5 rfl) rfl rfl
              have hF : Fr 99 ac_ (Env.nil.put 59 (.int .i64 (((i : Nat) : Int)))) := (hM.fr.add f59)
              exact OpVal.draw hF (opRem rfl rfl (by decide)) ⟨G, fun _ _ h => h, ⟨hC, hg, A16_, C16_, O16_, (fun h => ⟨(put_other rfl).trans (hT16 h).1, (hT16 h).2⟩), hBx⟩, rfl⟩
            refine dsNone (j := 8) rfl ?_ ?_
            · intro done G w ac_ hd hp hn ⟨hC, hg, A16_, C16_, O16_, hT16, hBx⟩ hM
              have hB := hBx
              have f58 : ac_.tmps[58]? = some (.int .i64 (IntKind.wrap .i64 (((bringI lw 1001)) + 1))) := hM.eqv 4 rfl (hp 4 rfl) rfl rfl
              have f60 : ac_.tmps[60]? = some (.int .i64 ((Int.tmod (((i : Nat) : Int)) 8))) := hM.eqv 6 rfl (hp 6 rfl) rfl rfl
              have hF : Fr 99 ac_ ((Env.nil.put 58 (.int .i64 (IntKind.wrap .i64 (((bringI lw 1001)) + 1)))).put 60 (.int .i64 ((Int.tmod (((i : Nat) : Int)) 8)))) := ((hM.fr.add f58).add f60)
              exact OpVal.draw hF (opAdd rfl rfl) ⟨G, fun _ _ h => h, ⟨hC, hg, A16_, C16_, O16_, (fun h => ⟨(put_other rfl).trans (hT16 h).1, (hT16 h).2⟩), hBx⟩, rfl⟩
            refine dsNone (j := 9) rfl ?_ ?_
            · intro done G w ac_ hd hp hn ⟨hC, hg, A16_, C16_, O16_, hT16, hBx⟩ hM
              have hB := hBx
              have f1 : ac_.tmps[1]? = some (.slice (some ⟨b47, o48, none⟩) pr.length cap2) := hM.old0 rfl rfl
              have hF : Fr 99 ac_ (Env.nil.put 1 (.slice (some ⟨b47, o48, none⟩) pr.length cap2)) := (hM.fr.add f1)
              exact OpVal.draw hF (opMove rfl) ⟨G, fun _ _ h => h, ⟨hC, hg, A16_, C16_, O16_, (fun h => ⟨(put_other rfl).trans (hT16 h).1, (hT16 h).2⟩), hBx⟩, rfl⟩
            refine dsNone (j := 10) rfl ?_ ?_
            · intro done G w ac_ hd hp hn ⟨hC, hg, A16_, C16_, O16_, hT16, hBx⟩ hM
              have hB := hBx
              have f12 : ac_.tmps[12]? = some (.int .i64 (((i : Nat) : Int))) := hM.old0 rfl rfl
              have hF : Fr 99 ac_ (Env.nil.put 12 (.int .i64 (((i : Nat) : Int)))) := (hM.fr.add f12)
              exact OpVal.draw hF (opMove rfl) ⟨G, fun _ _ h => h, ⟨hC, hg, A16_, C16_, O16_, (fun h => ⟨(put_other rfl).trans (hT16 h).1, (hT16 h).2⟩), hBx⟩, rfl⟩
            refine dsNone (j := 11) rfl ?_ ?_
            · intro done G w ac_ hd hp hn ⟨hC, hg, A16_, C16_, O16_, hT16, hBx⟩ hM
              have hB := hBx
              have f62 : ac_.tmps[62]? = some (.slice (some ⟨b47, o48, none⟩) pr.length cap2) := hM.eqv 8 rfl (hp 8 rfl) rfl rfl
              have f63 : ac_.tmps[63]? = some (.int .i64 (((i : Nat) : Int))) := hM.eqv 9 rfl (hp 9 rfl) rfl rfl
              have hF : Fr 99 ac_ ((Env.nil.put 62 (.slice (some ⟨b47, o48, none⟩) pr.length cap2)).put 63 (.int .i64 (((i : Nat) : Int)))) := ((hM.fr.add f62).add f63)
              exact OpVal.draw hF (opIndexAddr rfl rfl slo44 (of_decide_eq_true h26)) ⟨G, fun _ _ h => h, ⟨hC, hg, A16_, C16_, O16_, (fun h => ⟨(put_other rfl).trans (hT16 h).1, (hT16 h).2⟩), hBx⟩, rfl⟩
            refine dsNone (j := 12) rfl ?_ ?_
            · intro done G w ac_ hd hp hn ⟨hC, hg, A16_, C16_, O16_, hT16, hBx⟩ hM
              have hB := hBx
              replace hr50 := hr50.mono hg
              have f64 : ac_.tmps[64]? = some (.pointer (some ⟨b47, o48 + i * 1, none⟩)) := hM.eqv 10 rfl (hp 10 rfl) rfl rfl
              have hF : Fr 99 ac_ (Env.nil.put 64 (.pointer (some ⟨b47, o48 + i * 1, none⟩))) := (hM.fr.add f64)
              exact OpVal.draw hF (opLoadOne (v := (.int .u8 (((x45).toNat : Int)))) rfl (RowG.cell0 hC.holds hr50 rfl) one5) ⟨G, fun _ _ h => h, ⟨hC, hg, A16_, C16_, O16_, (fun h => ⟨(put_other rfl).trans (hT16 h).1, (hT16 h).2⟩), hBx⟩, rfl⟩
            refine dsNone (j := 13) rfl ?_ ?_
            · intro done G w ac_ hd hp hn ⟨hC, hg, A16_, C16_, O16_, hT16, hBx⟩ hM
              have hB := hBx
              have f65 : ac_.tmps[65]? = some (.int .u8 (((x45).toNat : Int))) := hM.eqv 11 rfl (hp 11 rfl) rfl rfl
              have hF : Fr 99 ac_ (Env.nil.put 65 (.int .u8 (((x45).toNat : Int)))) := (hM.fr.add f65)
              exact drawCallS hF rfl co16 rfl (digest_ret _ _ hC.holds x45) (fun w' hk => ⟨G, fun _ _ h => h, ⟨hC.trans hk, hg, A16_, C16_, O16_, (fun h => ⟨(put_other rfl).trans (hT16 h).1, (hT16 h).2⟩), hBx.ext hk⟩, rfl⟩)
            refine dsNone (j := 14) rfl ?_ ?_
            · intro done G w ac_ hd hp hn ⟨hC, hg, A16_, C16_, O16_, hT16, hBx⟩ hM
              have hB := hBx
              have f12 : ac_.tmps[12]? = some (.int .i64 (((i : Nat) : Int))) := hM.old0 rfl rfl
              have hF : Fr 99 ac_ (Env.nil.put 12 (.int .i64 (((i : Nat) : Int)))) := (hM.fr.add f12)
              exact OpVal.draw hF (opMove rfl) ⟨G, fun _ _ h => h, ⟨hC, hg, A16_, C16_, O16_, (fun h => ⟨(put_other rfl).trans (hT16 h).1, (hT16 h).2⟩), hBx⟩, rfl⟩
            refine dsNone (j := 15) rfl ?_ ?_
            · intro done G w ac_ hd hp hn ⟨hC, hg, A16_, C16_, O16_, hT16, hBx⟩ hM
              have hB := hBx
              have f61 : ac_.tmps[61]? = some (.int .i64 (IntKind.wrap .i64 (IntKind.wrap .i64 (((bringI lw 1001)) + 1) + (Int.tmod (((i : Nat) : Int)) 8)))) := hM.eqv 7 rfl (hp 7 rfl) rfl rfl
              have f66 : ac_.tmps[66]? = some (.agg ((digI x45)).cells.toArray) := hM.eqv 12 rfl (hp 12 rfl) rfl rfl
              have f67 : ac_.tmps[67]? = some (.int .i64 (((i : Nat) : Int))) := hM.eqv 13 rfl (hp 13 rfl) rfl rfl
              have hF : Fr 99 ac_ (((Env.nil.put 61 (.int .i64 (IntKind.wrap .i64 (IntKind.wrap .i64 (((bringI lw 1001)) + 1) + (Int.tmod (((i : Nat) : Int)) 8))))).put 66 (.agg ((digI x45)).cells.toArray)).put 67 (.int .i64 (((i : Nat) : Int)))) := (((hM.fr.add f61).add f66).add f67)
              exact OpVal.draw hF (opBuild (ps := [(0, .tmp 61), (1, .tmp 66), (2, .tmp 67)]) (cs := ((.int .i64 (IntKind.wrap .i64 (IntKind.wrap .i64 (((bringI lw 1001)) + 1) + (Int.tmod (((i : Nat) : Int)) 8)))) :: (((digI x45)).cells ++ ((Value.int .i64 (((i : Nat) : Int))) :: [])))) so58 zero58 rfl rfl (by simp [buildCells, Value.cells])) ⟨G, fun _ _ h => h, ⟨hC, hg, A16_, C16_, O16_, (fun h => ⟨(put_other rfl).trans (hT16 h).1, (hT16 h).2⟩), hBx⟩, rfl⟩
            refine dsNone (j := 16) rfl ?_ ?_
            · intro done G w ac_ hd hp hn ⟨hC, hg, A16_, C16_, O16_, hT16, hBx⟩ hM
              have hB := hBx
              have f68 : ac_.tmps[68]? = some (.agg ((.int .i64 (IntKind.wrap .i64 (IntKind.wrap .i64 (((bringI lw 1001)) + 1) + (Int.tmod (((i : Nat) : Int)) 8)))) :: (((digI x45)).cells ++ ((Value.int .i64 (((i : Nat) : Int))) :: []))).toArray) := hM.eqv 14 rfl (hp 14 rfl) rfl rfl
              have hF : Fr 99 ac_ (Env.nil.put 68 (.agg ((.int .i64 (IntKind.wrap .i64 (IntKind.wrap .i64 (((bringI lw 1001)) + 1) + (Int.tmod (((i : Nat) : Int)) 8)))) :: (((digI x45)).cells ++ ((Value.int .i64 (((i : Nat) : Int))) :: []))).toArray)) := (hM.fr.add f68)
              exact drawBsl hF (α := Stand) (ps := [(0, .tmp 68)]) (xs := [(Stand.mk (IntKind.wrap .i64 (IntKind.wrap .i64 (((bringI lw 1001)) + 1) + (Int.tmod (((i : Nat) : Int)) 8))) ((digI x45)) (((i : Nat) : Int)))]) (rows := [((.int .i64 (IntKind.wrap .i64 (IntKind.wrap .i64 (((bringI lw 1001)) + 1) + (Int.tmod (((i : Nat) : Int)) 8)))) :: (((digI x45)).cells ++ ((Value.int .i64 (((i : Nat) : Int))) :: [])))]) elo47 rfl rfl hC.holds rfl rfl rfl ⟨rfl, trivial⟩ (fun b G' w' hk hr => ⟨G', hk.gle, ⟨hC.trans hk, fun b o h => hk.gle b o (hg b o h), A16_, C16_, O16_, (fun h => ⟨(put_other rfl).trans (hT16 h).1, (hT16 h).2.mono hk.gle⟩), hBx.ext hk⟩, ⟨b, rfl, hr⟩⟩)
            refine dsNone (j := 17) rfl ?_ ?_
            · intro done G w ac_ hd hp hn ⟨hC, hg, A16_, C16_, O16_, hT16, hBx⟩ hM
              have hB := hBx
              replace hOqs := hOqs.mono hg
              have f55 : ac_.tmps[55]? = some (.slice qsA qs.length qsC) := hM.eqv 1 rfl (hp 1 rfl) rfl rfl
              obtain ⟨v_, f69, ⟨b53, rfl, hs54⟩⟩ := hM.new 15 _ _ rfl (hp 15 rfl) rfl
              have hF : Fr 99 ac_ ((Env.nil.put 55 (.slice qsA qs.length qsC)).put 69 (.slice (some ⟨b53, 0, none⟩) 1 1)) := ((hM.fr.add f55).add f69)
              simp only [hd, hn 18 _ rfl rfl, cond_false] at hBx
              exact drawAppend (α := Stand) (bl := [(b25, 49, [(.int .i64 n), (.int .i64 9), (.int .i64 (((bringI lw 1001)))), (.slice (some ⟨b23, 0, none⟩) 1 1), (.slice none 0 0), (.slice qsA qs.length qsC)]), (b3, 30, ((.int .i64 (((bringI lw 1001)))) :: (((digI ((9 : UInt8)))).cells ++ [])))]) (o := qsO) (r := (Option.toList lsO ++ [])) hF elo47 hC hBx rfl rfl hOqs hs54 (by simp; omega) rfl (fun A_ cap_ o_ w' hC hB hO_ => ⟨G, fun _ _ h => h, ⟨hC, hg, A_, cap_, o_, (fun _ => ⟨put_same hM.sz rfl, hO_⟩), by simpa [Done.set, hn 18 _ rfl rfl] using hB⟩, trivial⟩)
            refine dsNone (j := 18) rfl ?_ ?_
            · intro done G w ac_ hd hp hn ⟨hC, hg, A16_, C16_, O16_, hT16, hBx⟩ hM
              have hB := hBx
              have f11 : ac_.tmps[11]? = some (.pointer (some ⟨b25, 0, none⟩)) := hM.old0 rfl rfl
              have hF : Fr 99 ac_ (Env.nil.put 11 (.pointer (some ⟨b25, 0, none⟩))) := (hM.fr.add f11)
              exact OpVal.draw hF (opFieldAddr rfl fo49_5) ⟨G, fun _ _ h => h, ⟨hC, hg, A16_, C16_, O16_, (fun h => ⟨(put_other rfl).trans (hT16 h).1, (hT16 h).2⟩), hBx⟩, rfl⟩
            refine dsNone (j := 19) rfl ?_ ?_
            · intro done G w ac_ hd hp hn ⟨hC, hg, A16_, C16_, O16_, hT16, hBx⟩ hM
              have hB := hBx
              have f70 := (hT16 (hp 16 rfl)).1
              have f71 : ac_.tmps[71]? = some (.pointer (some ⟨b25, 5, none⟩)) := hM.eqv 17 rfl (hp 17 rfl) rfl rfl
              have hF : Fr 99 ac_ ((Env.nil.put 70 (.slice A16_ (((qs ++ [(Stand.mk (IntKind.wrap .i64 (IntKind.wrap .i64 (((bringI lw 1001)) + 1) + (Int.tmod (((i : Nat) : Int)) 8))) ((digI x45)) (((i : Nat) : Int)))])).length) C16_)).put 71 (.pointer (some ⟨b25, 5, none⟩))) := ((hM.fr.add f70).add f71)
              have hB := hBx
              try simp only [hd, cond_false] at hB
              exact drawStore hF 0 (vs := [(.slice A16_ (((qs ++ [(Stand.mk (IntKind.wrap .i64 (IntKind.wrap .i64 (((bringI lw 1001)) + 1) + (Int.tmod (((i : Nat) : Int)) 8))) ((digI x45)) (((i : Nat) : Int)))])).length) C16_)]) (cs := [(.int .i64 n), (.int .i64 9), (.int .i64 (((bringI lw 1001)))), (.slice (some ⟨b23, 0, none⟩) 1 1), (.slice none 0 0), (.slice qsA qs.length qsC)]) (cs' := [(.int .i64 n), (.int .i64 9), (.int .i64 (((bringI lw 1001)))), (.slice (some ⟨b23, 0, none⟩) 1 1), (.slice none 0 0), (.slice A16_ (((qs ++ [(Stand.mk (IntKind.wrap .i64 (IntKind.wrap .i64 (((bringI lw 1001)) + 1) + (Int.tmod (((i : Nat) : Int)) 8))) ((digI x45)) (((i : Nat) : Int)))])).length) C16_)]) hC hB rfl rfl rfl sz47 rfl rfl rfl (by simp [Mark.cells, Stand.cells]) rfl (fun w' hC hB => ⟨G, fun _ _ h => h, ⟨hC, hg, A16_, C16_, O16_, (fun h => ⟨(hT16 h).1, (hT16 h).2⟩), by simpa [Done.set] using hB⟩, trivial⟩)
            exact dsNil
          · intro done G w ac_ hall ⟨hC, hg, A56, cap57, o58, hT16, hB⟩ hM
            replace hpr := hpr.mono hg
            replace hOls := hOls.mono hg
            replace hs24 := hs24.mono hg
            replace hOqs := hOqs.mono hg
            replace hr50 := hr50.mono hg
            try simp only [hall 18 (by decide), cond_true] at hB
            have f1 : ac_.tmps[1]? = some (.slice (some ⟨b47, o48, none⟩) pr.length cap2) := hM.old0 rfl rfl
            have f7 : ac_.tmps[7]? = some (.int .i64 (IntKind.wrap .i64 (1 + ((bringI fl 2))))) := hM.old0 rfl rfl
            have f8 : ac_.tmps[8]? = some (.pointer (some ⟨b3, 0, none⟩)) := hM.old0 rfl rfl
            have f9 : ac_.tmps[9]? = some (.slice lsA ls.length lsC) := hM.old0 rfl rfl
            have f10 : ac_.tmps[10]? = some (.int .i64 n) := hM.old0 rfl rfl
            have f11 : ac_.tmps[11]? = some (.pointer (some ⟨b25, 0, none⟩)) := hM.old0 rfl rfl
            have f12 : ac_.tmps[12]? = some (.int .i64 (((i : Nat) : Int))) := hM.old0 rfl rfl
            have hO55 := (hT16 (hall 16 (by decide))).2
            try simp only [hall 16 (by decide), cond_true] at hB
            replace hB : Bxs G w w0.heap.size ([(b25, 49, [(.int .i64 n), (.int .i64 9), (.int .i64 (((bringI lw 1001)))), (.slice (some ⟨b23, 0, none⟩) 1 1), (.slice none 0 0), (.slice A56 (((qs ++ [(Stand.mk (IntKind.wrap .i64 (IntKind.wrap .i64 (((bringI lw 1001)) + 1) + (Int.tmod (((i : Nat) : Int)) 8))) ((digI x45)) (((i : Nat) : Int)))])).length) cap57)]), (b3, 30, ((.int .i64 (((bringI lw 1001)))) :: (((digI ((9 : UInt8)))).cells ++ [])))] ++ (Option.toList o58 ++ (Option.toList lsO ++ []))) := hB
            refine ⟨(((((((Env.nil.put 1 (.slice (some ⟨b47, o48, none⟩) pr.length cap2)).put 7 (.int .i64 (IntKind.wrap .i64 (1 + ((bringI fl 2)))))).put 8 (.pointer (some ⟨b3, 0, none⟩))).put 9 (.slice lsA ls.length lsC)).put 10 (.int .i64 n)).put 11 (.pointer (some ⟨b25, 0, none⟩))).put 12 (.int .i64 (((i : Nat) : Int)))), (((((((hM.fr.add f1).add f7).add f8).add f9).add f10).add f11).add f12), ?_⟩
            clear hM hall
            refine wcOf ?_
            refine wcRegion ?_
            refine wlVal (opMove rfl) rfl ?_
            refine wlVal (opIncr rfl rfl (by have q := of_decide_eq_true h35; omega)) rfl ?_
            refine wlVal (opAssign rfl) rfl ?_
            refine wlRound ?_
            exact (IH1 (i + 1, A56, cap57, o58, (qs ++ [(Stand.mk (IntKind.wrap .i64 (IntKind.wrap .i64 (((bringI lw 1001)) + 1) + (Int.tmod (((i : Nat) : Int)) 8))) ((digI x45)) (((i : Nat) : Int)))])) _ _ ⟨hC, hB, hpr, hOls, hs24, hO55, (of_decide_eq_true h35), (by first | omega | (simp; omega))⟩ (by have q := of_decide_eq_true h26; show pr.length - (i + 1) < pr.length - i; omega)).sub (fun _ ha => (((((((ha.start.cons ha (t := 1) rfl).cons ha (t := 7) rfl).cons ha (t := 8) rfl).cons ha (t := 9) rfl).cons ha (t := 10) rfl).cons ha (t := 11) rfl).cons ha (t := 12) rfl))

end Go.Proofs.Ytbhkoipmojdkhaa
