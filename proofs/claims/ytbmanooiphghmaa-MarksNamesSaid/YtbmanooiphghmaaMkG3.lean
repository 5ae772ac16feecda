/- What functions of the marks seat return, part 3. No condition. -/
import Derived.Test.YtbmanooiphghmaaMkG2
import Derived.Test.YtbmanooiphghmaaGxObj
set_option linter.all false
namespace Go.Proofs.Ytbmanooiphghmaa
open Go Go.Gx Go.RowKit
theorem idxG_ge {α : Type} {p : α → Bool} : ∀ (l : List α) (k : Nat), (idxG p l k = -1 ∧ ∀ x ∈ l, p x = false) ∨ ∃ i, k ≤ i ∧ idxG p l k = (i : Int) ∧ i - k + 1 ≤ l.length ∧ l.take (i - k) = (l.take (i - k + 1)).filter (fun x => !p x)
  | [], k => .inl ⟨rfl, by simp⟩
  | x :: r, k => by
    cases hp : p x with
    | true => exact .inr ⟨k, Nat.le_refl _, by simp [idxG, hp], by simp, by simp [hp]⟩
    | false =>
      simp only [idxG, hp, cond_false]
      rcases idxG_ge r (k + 1) with ⟨h1, h2⟩ | ⟨i, h1, h2, h3, h4⟩
      · exact .inl ⟨h1, fun y hy => (List.mem_cons.1 hy).elim (fun e => by rw [e]; exact hp) (h2 y)⟩
      · refine .inr ⟨i, by omega, h2, by simp; omega, ?_⟩
        rw [show i - k = (i - (k + 1)) + 1 by omega]
        simp only [List.take_succ_cons, List.filter_cons, hp, Bool.not_false, if_true]
        rw [h4]
theorem idxG_nat {α : Type} {p : α → Bool} {l : List α} (h : (idxG p l 0 == (-1)) = false) : ∃ i : Nat, idxG p l 0 = (i : Int) ∧ i + 1 ≤ l.length ∧ l.take i = (l.take (i + 1)).filter (fun x => !p x) ∧ True := by
  rcases idxG_ge (p := p) l 0 with ⟨h1, _⟩ | ⟨i, _, h2, h3, h4⟩
  · rw [h1] at h; cases h
  · exact ⟨i, h2, by simpa using h3, by simpa using h4, trivial⟩
theorem filter_none {α : Type} {p : α → Bool} {l : List α} (h : (idxG p l 0 == (-1)) = true) : l.filter (fun x => !p x) = l := by
  rcases idxG_ge (p := p) l 0 with ⟨_, h2⟩ | ⟨i, _, h2, _, _⟩
  · rw [List.filter_eq_self]; intro x hx; simp [h2 x hx]
  · rw [h2] at h; simp at h
section
variable {p : Mark → Bool} {s cur : List Mark} {i j : Nat} {x : Mark}
theorem df_get (hJ : cur.drop j = s.drop j) (hx : cur[j]? = some x) : s[j]? = some x := by
  have : (cur.drop j)[0]? = (s.drop j)[0]? := by rw [hJ]
  rw [List.getElem?_drop, List.getElem?_drop] at this
  rw [← hx]; exact this.symm
theorem df_skip (_ : i < j) (hJ : cur.drop j = s.drop j) (hI : cur.take i = (s.take j).filter (fun x => !p x)) (hx : cur[j]? = some x) (hp : p x = true) : cur.take i = (s.take (j + 1)).filter (fun x => !p x) := by
  rw [List.take_add_one, df_get hJ hx, List.filter_append, ← hI]; simp [hp]
theorem df_keep (hij : i < j) (hJ : cur.drop j = s.drop j) (hI : cur.take i = (s.take j).filter (fun x => !p x)) (hx : cur[j]? = some x) (hp : p x = false) : (cur.set i x).take (i + 1) = (s.take (j + 1)).filter (fun x => !p x) := by
  have hl := (List.getElem?_eq_some_iff.1 hx).1
  rw [List.take_add_one, List.take_add_one, df_get hJ hx, List.filter_append, ← hI, List.getElem?_set, if_pos rfl, if_pos (by omega), List.take_set_of_le (Nat.le_refl _)]
  simp [hp]
theorem df_drop (hJ : cur.drop j = s.drop j) : cur.drop (j + 1) = s.drop (j + 1) := by
  rw [← List.drop_drop, ← List.drop_drop, hJ]
theorem df_drop2 (hij : i < j) (hJ : cur.drop j = s.drop j) : (cur.set i x).drop (j + 1) = s.drop (j + 1) := by
  rw [List.drop_set_of_lt (by omega)]; exact df_drop hJ
theorem df_end {z : List Mark} (hl : cur.length = s.length) (hij : i < j) (hI : cur.take i = (s.take j).filter (fun x => !p x)) (hj : s.length ≤ j) (hi : i ≤ cur.length) : (cur.take i ++ z).take i = s.filter (fun x => !p x) := by
  rw [List.take_of_length_le (l := s) hj] at hI
  rw [← hI, List.take_append_of_le_length (by simp; omega), List.take_take, Nat.min_self]
end
theorem nil_of {α : Type} [Rp α] {G : Gh} {A : Option Addr} {n cap : Nat} {s : List α} (h : Sl G (.slice A n cap) s) (hA : Option.isNone A = true) : s = [] := by
  obtain ⟨A', cap', e1, _, _, e4⟩ := h
  cases s with
  | nil => rfl
  | cons x r =>
    obtain ⟨b, o, _, q, _⟩ := e4 0 x (by simp)
    injection e1 with e1
    rw [e1, q] at hA; cases hA
theorem elo54 : elemOk Try.prog 54 28 33 40 = true := by kernel_rfl
theorem co55 : callOk Try.prog 55 = true := by kernel_rfl
theorem us54 : Try.prog.underlying 54 = some (.slice 28) := by kernel_rfl
theorem clone_ret (G0 : Gh) (w0 : World) (hw : Holds G0 w0) (vs : Value) (s : List Mark) (hs : Sl G0 vs s) (hlen : s.length ≤ 1000000) :
    RetO Try.prog 38 #[vs] G0 w0 (fun G o v => ∃ A cap, v = (.slice A s.length cap) ∧ Ow G o 28 (.slice A s.length cap) s) := by
  have hC := Cx.refl hw
  have hB : Bxs G0 w0 w0.heap.size [] := Bxs.nil _ _ _
  obtain ⟨A1, cap2, rfl⟩ := hs.form
  refine callsOf Try.func38 rfl _ Try.ntmps38 rfl _ (argsCons argsNil (t := 0) rfl) ?_; intro Q0 hQ
  refine wcSeq ?_
  refine wcRegion ?_
  refine wlVal (opAssign rfl) rfl ?_
  refine wlThen ?_
  refine wcSeq ?_
  refine wcSeq ?_
  refine wcRegion ?_
  refine wlVal (opMove rfl) rfl ?_
  refine wlVal (opNilSlice rfl rfl isl54) rfl ?_
  refine wlThen ?_
  cases h3 : (Option.isNone A1)
  · skip
    refine wcCondF rfl ?_
    refine wcSkip ?_
    refine wcOf ?_
    refine wcSeq ?_
    refine wcRegion ?_
    refine wlBuildOwn (α := Mark) (bl := []) (r := []) (ps := []) (xs := []) (rows := []) elo54 rfl rfl hC hB rfl rfl rfl trivial rfl ?_; intro g6 cs7 w hk hC hB hO8
    refine wlVal (opMove rfl) rfl ?_
    refine wlAppend (α := Mark) (bl := []) (o := (some (g6, 28, cs7))) (r := []) elo54 hC hB rfl rfl hO8 hs (by simp; omega) rfl rfl ?_; intro A9 cap10 o11 w hC hB hO12
    refine wlVal (opAssign rfl) rfl ?_
    refine wlThen ?_
    refine wcRet ?_
    exact fun ac_ ha => hQ _ _ _ (results1 ha rfl rfl) ha.df (endO (bl := []) (o := o11) (r := []) hC hB ⟨_, _, rfl, hO12⟩)
  · skip
    refine wcCondT rfl ?_
    refine wcSeq ?_
    refine wcRegion ?_
    refine wlVal (opAssign rfl) rfl ?_
    refine wlThen ?_
    refine wcRet ?_
    exact fun ac_ ha => hQ _ _ _ (results1 ha rfl rfl) ha.df (endO (bl := []) (o := none) (r := []) hC hB (by have q := nil_of hs h3; subst q; exact ⟨_, _, rfl, (Ow.nil_ _ 28)⟩))

theorem cloneI_ret (G0 : Gh) (w0 : World) (hw : Holds G0 w0) (vs : Value) (s : List Int) (hs : Sl G0 vs s) (hlen : s.length ≤ 1000000) :
    RetO Try.prog 29 #[vs] G0 w0 (fun G o v => ∃ A cap, v = (.slice A s.length cap) ∧ Ow G o 3 (.slice A s.length cap) s) := by
  have hC := Cx.refl hw
  have hB : Bxs G0 w0 w0.heap.size [] := Bxs.nil _ _ _
  obtain ⟨A1, cap2, rfl⟩ := hs.form
  refine callsOf Try.func29 rfl _ Try.ntmps29 rfl _ (argsCons argsNil (t := 0) rfl) ?_; intro Q0 hQ
  refine wcSeq ?_
  refine wcRegion ?_
  refine wlVal (opAssign rfl) rfl ?_
  refine wlThen ?_
  refine wcSeq ?_
  refine wcSeq ?_
  refine wcRegion ?_
  refine wlVal (opMove rfl) rfl ?_
  refine wlVal (opNilSlice rfl rfl isl22) rfl ?_
  refine wlThen ?_
  cases h3 : (Option.isNone A1)
  · skip
    refine wcCondF rfl ?_
    refine wcSkip ?_
    refine wcOf ?_
    refine wcSeq ?_
    refine wcRegion ?_
    refine wlBuildOwn (α := Int) (bl := []) (r := []) (ps := []) (xs := []) (rows := []) elo22 rfl rfl hC hB rfl rfl rfl trivial rfl ?_; intro g6 cs7 w hk hC hB hO8
    refine wlVal (opMove rfl) rfl ?_
    refine wlAppend (α := Int) (bl := []) (o := (some (g6, 3, cs7))) (r := []) elo22 hC hB rfl rfl hO8 hs (by simp; omega) rfl rfl ?_; intro A9 cap10 o11 w hC hB hO12
    refine wlVal (opAssign rfl) rfl ?_
    refine wlThen ?_
    refine wcRet ?_
    exact fun ac_ ha => hQ _ _ _ (results1 ha rfl rfl) ha.df (endO (bl := []) (o := o11) (r := []) hC hB ⟨_, _, rfl, hO12⟩)
  · skip
    refine wcCondT rfl ?_
    refine wcSeq ?_
    refine wcRegion ?_
    refine wlVal (opAssign rfl) rfl ?_
    refine wlThen ?_
    refine wcRet ?_
    exact fun ac_ ha => hQ _ _ _ (results1 ha rfl rfl) ha.df (endO (bl := []) (o := none) (r := []) hC hB (by have q := nil_of hs h3; subst q; exact ⟨_, _, rfl, (Ow.nil_ _ 3)⟩))

theorem idxF_ret (G0 : Gh) (w0 : World) (hw : Holds G0 w0) (vs : Value) (s : List Mark) (hs : Sl G0 vs s) (ff : FuncId) (cf : List Value) (pf : Mark → Bool) (kf : callOk Try.prog ff = true) (hf : ∀ (G : Gh) (w : World) (f_x0 : Mark), GLe G0 G → Holds G w → RetS Try.prog ff ([Value.agg f_x0.cells.toArray] ++ cf).toArray G w (.bool (pf f_x0))) :
    RetS Try.prog 55 #[vs, .func (.func ff) #[] cf.toArray] G0 w0 (.int .i64 (idxG pf s 0)) := by
  have hC := Cx.refl hw
  have hB : Bxs G0 w0 w0.heap.size [] := Bxs.nil _ _ _
  obtain ⟨A1, cap2, rfl⟩ := hs.form
  refine callsOf Try.func55 rfl _ Try.ntmps55 rfl _ (argsCons (argsCons argsNil (t := 0) rfl) (t := 1) rfl) ?_; intro Q0 hQ
  refine wcSeq ?_
  refine wcRegion ?_
  refine wlVal (opAssign rfl) rfl ?_
  refine wlThen ?_
  refine wcSeq ?_
  refine wcSeq ?_
  refine wcRegion ?_
  refine wlVal (opMove rfl) rfl ?_
  refine wlVal (opLen rfl isl54) rfl ?_
  refine wlVal (opMove rfl) rfl ?_
  refine wlThen ?_
  refine wcBlock ?_
  refine WC.sub (wrInd (ι := Nat) (fun k => s.length - k) (fun k G w => Cx w0 G0 G w ∧ Bxs G w w0.heap.size [] ∧ Sl G (.slice A1 s.length cap2) s ∧ idxG pf (s.drop k) k = idxG pf s 0) (fun k => ((((Env.nil.put 0 (.slice A1 s.length cap2)).put 1 (.func (.func ff) #[] cf.toArray)).put 7 (.int .i64 (((s.length : Nat) : Int)))).put 8 (.int .i64 (((k : Nat) : Int))))) ?_ (0) _ _ ⟨hC, hB, hs, rfl⟩) (fun _ ha => ((((ha.start.cons ha (t := 0) rfl).cons ha (t := 1) rfl).cons ha (t := 7) rfl).cons ha (t := 8) rfl))
  rintro k G w N0 IH0 ⟨hC, hB, hs, hI⟩
  show WC _ _ _ _ ((((Env.nil.put 0 (.slice A1 s.length cap2)).put 1 (.func (.func ff) #[] cf.toArray)).put 7 (.int .i64 (((s.length : Nat) : Int)))).put 8 (.int .i64 (((k : Nat) : Int)))) w
  refine wcSeq ?_
  refine wcRegion ?_
  refine wlVal (opLssN rfl rfl) rfl ?_
  refine wlThen ?_
  refine wcSeq ?_
  cases h3 : decide (k < s.length)
  · skip
    refine wcCondF rfl ?_
    refine wcExit ?_
    refine wcOf ?_
    refine wcSeq ?_
    refine wcRegion ?_
    refine wlVal (opAssign rfl) rfl ?_
    refine wlThen ?_
    refine wcRet ?_
    exact fun ac_ ha => hQ _ _ _ (results1 ha rfl rfl) ha.df (endS hC hw (by have e := hI; rw [List.drop_eq_nil_of_le (Nat.le_of_not_lt (of_decide_eq_false h3))] at e; simp [idxG, h3] at e; first | (simp [h3, e]; done) | (simp [h3, ← e]; done) | (simp [h3]; exact e)))
  · skip
    refine wcCondT rfl ?_
    refine wcSkip ?_
    refine wcOf ?_
    refine wcSeq ?_
    refine wcBlock ?_
    refine wcSeq ?_
    refine wcRegion ?_
    refine wlVal (opMove rfl) rfl ?_
    refine wlVal (opAssign rfl) rfl ?_
    refine wlThen ?_
    refine wcSeq ?_
    refine wcRegion ?_
    refine wlVal (opMove rfl) rfl ?_
    refine wlVal (opMove rfl) rfl ?_
    refine wlVal (opMove rfl) rfl ?_
    obtain ⟨x4, hx5⟩ : ∃ y_, s[k]? = some y_ := ⟨_, List.getElem?_eq_getElem (of_decide_eq_true h3)⟩
    obtain ⟨b6, o7, row8, hA11, hr9, hi10⟩ := hs.elem hx5; subst hA11
    obtain rfl := hi10
    refine wlVal (opIndexAddr rfl rfl slo54 (of_decide_eq_true h3)) rfl ?_
    refine wlVal (opLoadRow (cs := x4.cells) rfl (RowG.range hC.holds hr9) row28 (by simp [Mark.cells, Do.cells, Word.cells])) rfl ?_
    refine wlCallS hC hB rfl kf rfl rfl (hf _ _ x4 hC.gle hC.holds ) ?_; intro w hk hC hB
    refine wlThen ?_
    cases h12 : pf x4
    · skip
      refine wcCondF rfl ?_
      refine wcSkip ?_
      refine wcOf ?_
      refine wcRegion ?_
      refine wlVal (opIncr rfl rfl (incr_ok (of_decide_eq_true h3) hs.le)) rfl ?_
      refine wlVal (opMove rfl) rfl ?_
      refine wlRound ?_
      exact (IH0 (k + 1) _ _ ⟨hC, hB, hs, (by rw [← hI, drop_get hx5]; simp [idxG, h3, h12])⟩ (by have := of_decide_eq_true h3; simp; omega)).sub (fun _ ha => ((((ha.start.cons ha (t := 0) rfl).cons ha (t := 1) rfl).cons ha (t := 7) rfl).cons ha (t := 8) rfl))
    · skip
      refine wcCondT rfl ?_
      refine wcSeq ?_
      refine wcRegion ?_
      refine wlVal (opMove rfl) rfl ?_
      refine wlVal (opAssign rfl) rfl ?_
      refine wlThen ?_
      refine wcRet ?_
      exact fun ac_ ha => hQ _ _ _ (results1 ha rfl rfl) ha.df (endS hC hw (by have e := hI; rw [drop_get hx5] at e; simp [idxG, h3, h12] at e; first | (simp [h3, h12, e]; done) | (simp [h3, h12, ← e]; done) | (simp [h3, h12]; exact e)))

theorem delf_ret (G0 : Gh) (w0 : World) (hw : Holds G0 w0) (vs : Value) (s : List Mark) (os : Option Bx) (hs : Ow G0 os 28 vs s) (hBs : Bxs G0 w0 w0.heap.size (Option.toList os) ((Option.toList os).map (·.1))) (ff : FuncId) (cf : List Value) (pf : Mark → Bool) (kf : callOk Try.prog ff = true) (hf : ∀ (G : Gh) (w : World) (f_x0 : Mark), GLe G0 G → Holds G w → RetS Try.prog ff ([Value.agg f_x0.cells.toArray] ++ cf).toArray G w (.bool (pf f_x0))) (hlen : s.length ≤ 1000000) :
    RetP Try.prog 40 #[vs, .func (.func ff) #[] cf.toArray] G0 w0 ((Option.toList os).map (·.1)) (fun G o v => ∃ A cap, v = (.slice A ((s.filter (fun dz_ => !pf dz_))).length cap) ∧ Ow G o 28 (.slice A ((s.filter (fun dz_ => !pf dz_))).length cap) ((s.filter (fun dz_ => !pf dz_)))) := by
  have hC := Cx.reflM ((Option.toList os).map (·.1)) hw
  have hB : Bxs G0 w0 w0.heap.size ([] ++ (Option.toList os ++ [])) ((Option.toList os).map (·.1)) := by simpa using hBs
  obtain ⟨A1, cap2, rfl⟩ := hs.form
  refine callsOf Try.func40 rfl _ Try.ntmps40 rfl _ (argsCons (argsCons argsNil (t := 0) rfl) (t := 1) rfl) ?_; intro Q0 hQ
  refine wcSeq ?_
  refine wcRegion ?_
  refine wlVal (opAssign rfl) rfl ?_
  refine wlThen ?_
  refine wcSeq ?_
  refine wcRegion ?_
  refine wlVal (opMove rfl) rfl ?_
  refine wlVal (opMove rfl) rfl ?_
  refine wlCallS hC hB rfl co55 rfl rfl (RetS.borrow (bl := []) (r := []) hs hC hB (by unfold maxL; omega) (fun G_ hglent hhlent hlent => idxF_ret _ _ hhlent _ s hlent _ _ pf kf (fun G w f_x0 hg hw  => hf G w f_x0 (fun b o h => hg b o (hglent b o (hC.gle b o h))) hw ))) ?_; intro w hk hC hB
  refine wlVal (opAssign rfl) rfl ?_
  refine wlThen ?_
  refine wcSeq ?_
  refine wcSeq ?_
  refine wcRegion ?_
  refine wlVal (opMove rfl) rfl ?_
  refine wlVal (opEql rfl rfl) rfl ?_
  refine wlThen ?_
  cases h3 : ((idxG pf s 0)) == ((-1))
  · skip
    obtain ⟨i0, hi0, hi1, hi2, hi3⟩ := idxG_nat (p := pf) (l := s) h3
    rw [hi0]
    refine wcCondF rfl ?_
    refine wcSkip ?_
    refine wcOf ?_
    refine wcSeq ?_
    refine wcSeq ?_
    refine wcRegion ?_
    refine wlVal (opMove rfl) rfl ?_
    refine wlVal (opIncr rfl rfl (by omega)) rfl ?_
    refine wlVal (opAssign rfl) rfl ?_
    refine wlThen ?_
    refine wcBlock ?_
    refine WC.sub (wrInd (ι := Nat × Nat × (Option Addr) × Nat × (Option Bx) × (List Mark)) (fun i => match i with | (j, i, curA, curC, curO, cur) => cur.length - j) (fun i G w => match i with | (j, i, curA, curC, curO, cur) => Cx w0 G0 G w ⟨((Option.toList os).map (·.1)), []⟩ ∧ Bxs G w w0.heap.size ([] ++ (Option.toList curO ++ [])) ⟨((Option.toList os).map (·.1)), []⟩ ∧ Ow G curO 28 (.slice curA cur.length curC) cur ∧ cur.length = s.length ∧ i < j ∧ j ≤ s.length ∧ cur.drop j = s.drop j ∧ cur.take i = (s.take j).filter (fun x => !pf x)) (fun i => match i with | (j, i, curA, curC, curO, cur) => ((((Env.nil.put 0 (.slice curA cur.length curC)).put 1 (.func (.func ff) #[] cf.toArray)).put 5 (.int .i64 (((i : Nat) : Int)))).put 6 (.int .i64 (((j : Nat) : Int))))) ?_ (i0 + 1, i0, A1, cap2, os, s) _ _ ⟨hC, hB, hs, rfl, (Nat.lt_succ_self _), hi1, rfl, hi2⟩) (fun _ ha => ((((ha.start.cons ha (t := 0) rfl).cons ha (t := 1) rfl).cons ha (t := 5) rfl).cons ha (t := 6) rfl))
    rintro ⟨j, i, curA, curC, curO, cur⟩ G w N0 IH0 ⟨hC, hB, hOcur, hlen2, hij, hjl, hJ, hI⟩
    show WC _ _ _ _ ((((Env.nil.put 0 (.slice curA cur.length curC)).put 1 (.func (.func ff) #[] cf.toArray)).put 5 (.int .i64 (((i : Nat) : Int)))).put 6 (.int .i64 (((j : Nat) : Int)))) w
    refine wcSeq ?_
    refine wcSeq ?_
    refine wcRegion ?_
    refine wlVal (opMove rfl) rfl ?_
    refine wlVal (opMove rfl) rfl ?_
    refine wlVal (opLen rfl isl54) rfl ?_
    refine wlVal (opLssN rfl rfl) rfl ?_
    refine wlThen ?_
    cases h4 : decide (j < cur.length)
    · skip
      refine wcCondF rfl ?_
      refine wcExit ?_
      refine wcOf ?_
      refine wcSeq ?_
      refine wcRegion ?_
      refine wlVal (opMove rfl) rfl ?_
      refine wlVal (opMove rfl) rfl ?_
      refine wlVal (opSliceFrom slo54 rfl rfl (by omega)) rfl ?_
      refine wlClearTail (α := Mark) (bl := []) (r := []) (l := i) (z := (Mark.mk 0 Dig.zero)) (zc := ((.int .i64 0) :: (Dig.zero.cells ++ []))) us54 rfl (fun _ => rfl) zero28 hC hB hOcur (by omega) rfl rfl ?_; intro o5 w hC hB hO6
      refine wlThen ?_
      refine wcSeq ?_
      refine wcRegion ?_
      refine wlVal (opMove rfl) rfl ?_
      refine wlVal (opMove rfl) rfl ?_
      refine wlVal (opSliceTo slo54 rfl rfl (by have q := hO6.capLe; omega)) rfl ?_
      refine wlVal (opAssign rfl) rfl ?_
      refine wlThen ?_
      refine wcRet ?_
      exact fun ac_ ha => hQ _ _ _ (results1 ha rfl rfl) ha.df (endP (bl := []) (o := o5) (r := []) hC hB (by have e := df_end (z := List.replicate (cur.length - i) (Mark.mk 0 Dig.zero)) hlen2 hij hI (by have q := of_decide_eq_false h4; omega) (by have q := of_decide_eq_false h4; omega); rw [← e]; exact ⟨curA, curC, (by have hl : ((cur.take i ++ List.replicate (cur.length - i) (Mark.mk 0 Dig.zero)).take i).length = i := (by simp; omega); rw [hl]), (by have hl : ((cur.take i ++ List.replicate (cur.length - i) (Mark.mk 0 Dig.zero)).take i).length = i := (by simp; omega); rw [hl]; exact (Ow.take hO6 (by simp; omega)))⟩))
    · skip
      refine wcCondT rfl ?_
      refine wcSkip ?_
      refine wcOf ?_
      refine wcSeq ?_
      refine wcBlock ?_
      refine wcSeq ?_
      refine wcRegion ?_
      refine wlVal (opMove rfl) rfl ?_
      refine wlVal (opMove rfl) rfl ?_
      obtain ⟨x7, hx8⟩ : ∃ y_, cur[j]? = some y_ := ⟨_, List.getElem?_eq_getElem (of_decide_eq_true h4)⟩
      obtain ⟨g9, cs10, rfl, rfl⟩ := hOcur.addr (of_decide_eq_true h4)
      refine wlVal (opIndexAddr rfl rfl slo54 (of_decide_eq_true h4)) rfl ?_
      obtain ⟨row11, hr12, hi13, hl14⟩ := Ow.elemAt (bl := []) (r := []) hOcur hB hx8; obtain rfl := hi13
      refine wlVal (opLoadRow (cs := x7.cells) rfl hr12 row28 (by simp [Mark.cells, Do.cells, Word.cells])) rfl ?_
      refine wlAlloc hC hB zero28 rfl ?_; intro b15 w hk hC hB
      replace hB : Bxs G w w0.heap.size ([(b15, 28, ((.int .i64 0) :: (Dig.zero.cells ++ [])))] ++ (Option.toList ((some (g9, 28, cs10))) ++ [])) ⟨((Option.toList os).map (·.1)), []⟩ := hB
      refine wlStore 0 (vs := x7.cells) (cs := ((.int .i64 0) :: (Dig.zero.cells ++ []))) (cs' := x7.cells) hC hB rfl rfl rfl sz28 rfl (by simp [Mark.cells, Do.cells, Word.cells]) (by simp [Mark.cells, Do.cells, Word.cells, Value.oneCell']) (by simp [Mark.cells, Do.cells, Word.cells]) (by simp [Mark.cells, Do.cells, Word.cells]) rfl ?_; intro w hC hB
      replace hB : Bxs G w w0.heap.size ([(b15, 28, x7.cells)] ++ (Option.toList ((some (g9, 28, cs10))) ++ [])) ⟨((Option.toList os).map (·.1)), []⟩ := hB
      refine wlThen ?_
      refine wcSeq ?_
      refine wcRegion ?_
      refine wlVal (opMove rfl) rfl ?_
      refine wlVal (opLoadRow (cs := x7.cells) rfl (hB.range (i := 0) (m := 33) rfl (by simp [Mark.cells, Do.cells, Word.cells])) row28 (by simp [Mark.cells, Do.cells, Word.cells])) rfl ?_
      refine wlCallS hC hB rfl kf rfl rfl (hf _ _ x7 hC.gle hC.holds ) ?_; intro w hk hC hB
      refine wlVal (opNot rfl) rfl ?_
      refine wlThen ?_
      cases h16 : pf x7
      · skip
        refine wcCondT rfl ?_
        refine wcSeq ?_
        refine wcRegion ?_
        refine wlVal (opMove rfl) rfl ?_
        refine wlVal (opMove rfl) rfl ?_
        refine wlVal (opLoadRow (cs := x7.cells) rfl (hB.range (i := 0) (m := 33) rfl (by simp [Mark.cells, Do.cells, Word.cells])) row28 (by simp [Mark.cells, Do.cells, Word.cells])) rfl ?_
        obtain ⟨x17, hx18⟩ : ∃ y_, cur[i]? = some y_ := ⟨_, List.getElem?_eq_getElem (by have q := of_decide_eq_true h4; omega)⟩
        refine wlVal (opIndexAddr rfl rfl slo54 (by have q := of_decide_eq_true h4; omega)) rfl ?_
        refine wlStoreOw (α := Mark) (bl := [(b15, 28, x7.cells)]) (r := []) (vs := x7.cells) (off := 0) (y := x7) hC hB hOcur hx18 rfl (by show _ = _ * 33 + 0; omega) rfl sz28 rfl (by simp [Mark.cells, Do.cells, Word.cells]) (by simp [Mark.cells, Do.cells, Word.cells, Value.oneCell']) (Nat.le_refl _) (fun row h => by obtain rfl := h; exact whole_row (by simp) (by simp)) rfl ?_; intro cs19 w hC hB hO20
        refine wlThen ?_
        refine wcRegion ?_
        refine wlVal (opMove rfl) rfl ?_
        refine wlVal (opIncr rfl rfl (by have q := of_decide_eq_true h4; omega)) rfl ?_
        refine wlVal (opAssign rfl) rfl ?_
        refine wlNil ?_
        refine wcOf ?_
        refine wcRegion ?_
        refine wlVal (opMove rfl) rfl ?_
        refine wlVal (opIncr rfl rfl (by have q := of_decide_eq_true h4; omega)) rfl ?_
        refine wlVal (opAssign rfl) rfl ?_
        refine wlRound ?_
        exact (IH0 (j + 1, i + 1, (some ⟨g9, 0, none⟩), curC, (some (g9, 28, cs19)), (List.set cur i x7)) _ _ ⟨hC, hB.tail, (by simpa using hO20), (by simpa using hlen2), (by omega), (by have q := of_decide_eq_true h4; omega), (df_drop2 hij hJ), (df_keep hij hJ hI hx8 h16)⟩ (by have q := of_decide_eq_true h4; simp; omega)).sub (fun _ ha => ((((ha.start.cons ha (t := 0) (congrArg (fun n_ => some (Value.slice (some ⟨g9, 0, none⟩) n_ curC)) (by simp))).cons ha (t := 1) rfl).cons ha (t := 5) rfl).cons ha (t := 6) rfl))
      · skip
        refine wcCondF rfl ?_
        refine wcSkip ?_
        refine wcOf ?_
        refine wcRegion ?_
        refine wlVal (opMove rfl) rfl ?_
        refine wlVal (opIncr rfl rfl (by have q := of_decide_eq_true h4; omega)) rfl ?_
        refine wlVal (opAssign rfl) rfl ?_
        refine wlRound ?_
        exact (IH0 (j + 1, i, (some ⟨g9, 0, none⟩), curC, (some (g9, 28, cs10)), cur) _ _ ⟨hC, hB.tail, hOcur, (by simpa using hlen2), (by omega), (by have q := of_decide_eq_true h4; omega), (df_drop hJ), (df_skip hij hJ hI hx8 h16)⟩ (by have q := of_decide_eq_true h4; simp; omega)).sub (fun _ ha => ((((ha.start.cons ha (t := 0) rfl).cons ha (t := 1) rfl).cons ha (t := 5) rfl).cons ha (t := 6) rfl))
  · skip
    refine wcCondT rfl ?_
    refine wcSeq ?_
    refine wcRegion ?_
    refine wlVal (opMove rfl) rfl ?_
    refine wlVal (opAssign rfl) rfl ?_
    refine wlThen ?_
    refine wcRet ?_
    exact fun ac_ ha => hQ _ _ _ (results1 ha rfl rfl) ha.df (endP (bl := []) (o := os) (r := []) hC hB (by rw [filter_none h3]; exact ⟨_, _, rfl, hs⟩))

end Go.Proofs.Ytbmanooiphghmaa
