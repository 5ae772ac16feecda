/- What functions of the pick seat return, part 25. No condition. -/
import Derived.Test.YtbhkoipmojdkhaaPkG24
import Derived.Test.YtbhkoipmojdkhaaPkLaw2
import Derived.Test.YtbhkoipmojdkhaaGxTwo
set_option linter.all false
namespace Go.Proofs.Ytbhkoipmojdkhaa
open Go Go.Gx Go.RowKit
theorem copied_len (l : List Change) : (copiedI l).length ≤ 9 := by simp [copiedI]; omega
theorem bring_rng (n : Int) {m : Nat} (h0 : 0 < m) (h : m < 1000000) : 0 ≤ bringI n m ∧ bringI n m < m := by
  unfold bringI
  have h1 : decide ((m : Int) ≤ 0) = false := by simp; omega
  rw [h1]
  simp only [cond_false]
  have h2 := Int.tmod_lt_of_pos n (b := (m : Int)) (by omega)
  have h3 : -(m : Int) < Int.tmod n m := Int.lt_tmod_of_pos n (by omega)
  cases h4 : decide (Int.tmod n (m : Int) < 0) with
  | true =>
    have := of_decide_eq_true h4
    simp only [cond_true]
    rw [IntWalk.i64_in _ (by omega)]; omega
  | false =>
    have := of_decide_eq_false h4
    simp only [cond_false]; omega
theorem bring_le (n : Int) (l : List Change) : (bringI n ((copiedI l).length : Nat)).toNat ≤ (copiedI l).length := by
  have h9 := copied_len l
  rcases Nat.eq_zero_or_pos (copiedI l).length with h | h
  · rw [h]; simp [bringI]
  · have := bring_rng n h (by omega); omega
theorem rev_get {l : List Change} {k : Nat} (h : k < l.length) : l.reverse[k]? = l[l.length - 1 - k]? := List.getElem?_reverse h
theorem rot_get {l : List Change} {k r : Nat} (h : k < l.length) (hr : r ≤ l.length) : (l.drop r ++ l.take r)[k]? = l[(k + r) % l.length]? := by
  rw [List.getElem?_append]
  split
  · rename_i hk
    rw [List.length_drop] at hk
    rw [List.getElem?_drop, Nat.mod_eq_of_lt (by omega), Nat.add_comm]
  · rename_i hk
    rw [List.length_drop] at hk
    rw [List.length_drop, List.getElem?_take, if_pos (by omega)]
    have : (k + r) % l.length = k - (l.length - r) := by
      rw [show k + r = (k - (l.length - r)) + l.length by omega, Nat.add_mod_right, Nat.mod_eq_of_lt (by omega)]
    rw [this]
theorem back_perm {l b : List Change} {k : Nat} (hk : decide (k < (copiedI l).length) = false) (hb : b = (copiedI l).reverse.take k) (_ : k ≤ (copiedI l).length) : b.Perm (copiedI l) := by
  have := of_decide_eq_false hk
  rw [hb, List.take_of_length_le (by simp; omega)]
  exact List.reverse_perm _
theorem rot_perm {l b : List Change} {k r : Nat} (hk : decide (k < (copiedI l).length) = false) (hb : b = ((copiedI l).drop r ++ (copiedI l).take r).take k) (_ : k ≤ (copiedI l).length) : b.Perm (copiedI l) := by
  have := of_decide_eq_false hk
  rw [hb, List.take_of_length_le (by simp; omega)]
  have h := List.perm_append_comm (l₁ := (copiedI l).drop r) (l₂ := (copiedI l).take r)
  rwa [List.take_append_drop] at h
theorem perm_sum {β : Type} {f : Change → List β} {l l' : List Change} (hp : l.Perm l') (h : (l'.flatMap f).length ≤ 1000000) : (l.flatMap f).length ≤ 1000000 := by
  rw [(hp.flatMap_right f).length_eq]; exact h
theorem co15 : callOk Try.prog 15 = true := by kernel_rfl
theorem order_ret (G0 : Gh) (w0 : World) (hw : Holds G0 w0) (csc : List Value) (c : Crew) (hc : Rp.Is G0 csc c) (vl : Value) (l : List Change) (hl : Sl G0 vl l) (fr : Int) :
    RetS Try.prog 6 #[.agg csc.toArray, vl, .int .i64 fr] G0 w0 (.bool true) := by
  have hC := Cx.refl hw
  have hB : Bxs G0 w0 w0.heap.size [] := Bxs.nil _ _ _
  obtain ⟨v1, rfl, hs2⟩ := Crew.opIs hc
  obtain ⟨A3, cap4, rfl⟩ := hs2.form
  obtain ⟨A5, cap6, rfl⟩ := hl.form
  refine callsOf Try.func6 rfl _ Try.ntmps6 rfl _ (argsCons (argsCons (argsCons argsNil (t := 0) rfl) (t := 1) rfl) (t := 2) rfl) ?_; intro Q0 hQ
  refine wcSeq ?_
  refine wcRegion ?_
  refine wlBox (cs := [(.int .i64 c.faults), (.slice A3 c.nodes.length cap4)]) hC hB rfl rfl rfl ?_; intro b7 w hk hC hB
  refine wlVal (opAssign rfl) rfl ?_
  refine wlThen ?_
  refine wcSeq ?_
  refine wcRegion ?_
  refine wlVal (opMove rfl) rfl ?_
  refine wlCallG hC hB rfl co9 rfl rfl (copied_ret _ _ hC.holds _ l hl) ?_; rintro v10 G w hk hC hB ⟨r8, rfl, hr9⟩
  replace hs2 := hs2.mono hk.gle; replace hl := hl.mono hk.gle
  obtain ⟨A11, cap12, rfl⟩ := hr9.form
  refine wlVal (opAssign rfl) rfl ?_
  refine wlThen ?_
  refine wcSeq ?_
  refine wcRegion ?_
  refine wlVal (opAssign rfl) rfl ?_
  refine wlVal (opAssign rfl) rfl ?_
  refine wlThen ?_
  refine wcSeq ?_
  refine wcSeq ?_
  refine wcRegion ?_
  refine wlVal (opAssign rfl) rfl ?_
  refine wlThen ?_
  refine wcBlock ?_
  refine WC.sub (wrInd (ι := Nat × (Option Addr) × Nat × (Option Bx) × (List Change) × (Option Addr) × Nat × (Option Bx) × (List Change)) (fun i => match i with | (k, backA, backC, backO, back, midstA, midstC, midstO, midst) => (copiedI l).length - k) (fun i G w => match i with | (k, backA, backC, backO, back, midstA, midstC, midstO, midst) => Cx w0 G0 G w ∧ Bxs G w w0.heap.size ([(b7, 24, [(.int .i64 c.faults), (.slice A3 c.nodes.length cap4)])] ++ (Option.toList midstO ++ (Option.toList backO ++ []))) ∧ Sl G (.slice A3 c.nodes.length cap4) c.nodes ∧ Sl G (.slice A5 l.length cap6) l ∧ Sl G (.slice A11 (((copiedI l)).length) cap12) ((copiedI l)) ∧ Ow G backO 49 (.slice backA back.length backC) back ∧ Ow G midstO 49 (.slice midstA midst.length midstC) midst ∧ k ≤ (copiedI l).length ∧ back = (copiedI l).reverse.take k ∧ midst = ((copiedI l).drop (bringI fr ((copiedI l).length : Nat)).toNat ++ (copiedI l).take (bringI fr ((copiedI l).length : Nat)).toNat).take k) (fun i => match i with | (k, backA, backC, backO, back, midstA, midstC, midstO, midst) => ((((((Env.nil.put 2 (.int .i64 fr)).put 3 (.pointer (some ⟨b7, 0, none⟩))).put 7 (.slice A11 (((copiedI l)).length) cap12)).put 8 (.slice backA back.length backC)).put 9 (.slice midstA midst.length midstC)).put 10 (.int .i64 (((k : Nat) : Int))))) ?_ (0, none, 0, none, [], none, 0, none, []) _ _ ⟨hC, hB, hs2, hl, hr9, (Ow.nil_ _ 49), (Ow.nil_ _ 49), (Nat.zero_le _), (by simp), (by simp)⟩) (fun _ ha => ((((((ha.start.cons ha (t := 2) rfl).cons ha (t := 3) rfl).cons ha (t := 7) rfl).cons ha (t := 8) rfl).cons ha (t := 9) rfl).cons ha (t := 10) rfl))
  rintro ⟨k, backA, backC, backO, back, midstA, midstC, midstO, midst⟩ G w N0 IH0 ⟨hC, hB, hs2, hl, hr9, hOback, hOmidst, hkl, hb, hm⟩
  show WC _ _ _ _ ((((((Env.nil.put 2 (.int .i64 fr)).put 3 (.pointer (some ⟨b7, 0, none⟩))).put 7 (.slice A11 (((copiedI l)).length) cap12)).put 8 (.slice backA back.length backC)).put 9 (.slice midstA midst.length midstC)).put 10 (.int .i64 (((k : Nat) : Int)))) w
  refine wcSeq ?_
  refine wcSeq ?_
  refine wcRegion ?_
  refine wlVal (opMove rfl) rfl ?_
  refine wlVal (opMove rfl) rfl ?_
  refine wlVal (opLen rfl isl25) rfl ?_
  refine wlVal (opLssN rfl rfl) rfl ?_
  refine wlThen ?_
  cases h13 : decide (k < ((copiedI l)).length)
  · skip
    refine wcCondF rfl ?_
    refine wcExit ?_
    refine wcOf ?_
    refine wcSeq ?_
    refine wcRegion ?_
    refine wlVal (opLoadRow (cs := [(.int .i64 c.faults), (.slice A3 c.nodes.length cap4)]) rfl (hB.range (i := 0) (m := 2) rfl rfl) row24 rfl) rfl ?_
    refine wlVal (opMove rfl) rfl ?_
    refine wlCallO (bl := [(b7, 24, [(.int .i64 c.faults), (.slice A3 c.nodes.length cap4)])]) (r := (Option.toList midstO ++ (Option.toList backO ++ []))) hC hB rfl co10 rfl rfl (select_ret _ _ hC.holds _ c (Crew.mkIs (x := c) hs2) _ ((copiedI l)) hr9 (copied_marks l) (copied_p l)) ?_; rintro v18 G o16 w hk hC hB ⟨A14, cap15, rfl, hO17⟩
    replace hs2 := hs2.mono hk.gle; replace hl := hl.mono hk.gle; replace hr9 := hr9.mono hk.gle; replace hOback := hOback.mono hk.gle; replace hOmidst := hOmidst.mono hk.gle
    refine wlVal (opMove rfl) rfl ?_
    refine wlVal (opExtract rfl rfl) rfl ?_
    refine wlVal (opExtract rfl rfl) rfl ?_
    refine wlVal (opExtract rfl rfl) rfl ?_
    refine wlAlloc hC hB zero30 rfl ?_; intro b19 w hk hC hB
    replace hB : Bxs G w w0.heap.size ([(b19, 30, ((.int .i64 0) :: (Dig.zero.cells ++ []))), (b7, 24, [(.int .i64 c.faults), (.slice A3 c.nodes.length cap4)])] ++ (Option.toList o16 ++ (Option.toList midstO ++ (Option.toList backO ++ [])))) := hB
    refine wlStore 0 (vs := (((selI (has c) c ((copiedI l))).1)).cells) (cs := ((.int .i64 0) :: (Dig.zero.cells ++ []))) (cs' := (((selI (has c) c ((copiedI l))).1)).cells) hC hB rfl rfl rfl sz30 rfl (by simp [Mark.cells, Stand.cells]) (by simp [Mark.cells, Stand.cells, Value.oneCell']) (by simp [Mark.cells, Stand.cells]) (by simp [Mark.cells, Stand.cells]) rfl ?_; intro w hC hB
    replace hB : Bxs G w w0.heap.size ([(b19, 30, (((selI (has c) c ((copiedI l))).1)).cells), (b7, 24, [(.int .i64 c.faults), (.slice A3 c.nodes.length cap4)])] ++ (Option.toList o16 ++ (Option.toList midstO ++ (Option.toList backO ++ [])))) := hB
    refine wlVal (opAssign rfl) rfl ?_
    refine wlVal (opAssign rfl) rfl ?_
    refine wlThen ?_
    refine wcSeq ?_
    refine wcRegion ?_
    refine wlVal (opLoadRow (cs := [(.int .i64 c.faults), (.slice A3 c.nodes.length cap4)]) rfl (hB.range (i := 1) (m := 2) rfl rfl) row24 rfl) rfl ?_
    refine wlVal (opMove rfl) rfl ?_
    replace hB := Bxs.swapOwn1 (bl := [(b19, 30, (((selI (has c) c ((copiedI l))).1)).cells), (b7, 24, [(.int .i64 c.faults), (.slice A3 c.nodes.length cap4)])]) (X := Option.toList o16) (A := Option.toList midstO) (B := Option.toList backO) (r := []) hB
    replace hB := Bxs.swapOwn (bl := [(b19, 30, (((selI (has c) c ((copiedI l))).1)).cells), (b7, 24, [(.int .i64 c.faults), (.slice A3 c.nodes.length cap4)])]) (A := Option.toList o16) (B := Option.toList backO) (r := (Option.toList midstO ++ [])) hB
    obtain ⟨G, hg21, hC, hB, hs20⟩ := Ow.freeze' (bl := [(b19, 30, (((selI (has c) c ((copiedI l))).1)).cells), (b7, 24, [(.int .i64 c.faults), (.slice A3 c.nodes.length cap4)])]) (r := (Option.toList o16 ++ (Option.toList midstO ++ []))) hOback hC (Nat.le_refl _) hB (by have q := List.length_take_le k (copiedI l).reverse; have q2 := List.length_take_le k ((copiedI l).drop (bringI fr ((copiedI l).length : Nat)).toNat ++ (copiedI l).take (bringI fr ((copiedI l).length : Nat)).toNat); have q9 := copied_len l; rw [hb]; unfold maxL; omega)
    replace hs2 := hs2.mono hg21; replace hl := hl.mono hg21; replace hr9 := hr9.mono hg21; replace hOmidst := hOmidst.mono hg21; replace hO17 := hO17.mono hg21
    refine wlCallO (bl := [(b19, 30, (((selI (has c) c ((copiedI l))).1)).cells), (b7, 24, [(.int .i64 c.faults), (.slice A3 c.nodes.length cap4)])]) (r := (Option.toList o16 ++ (Option.toList midstO ++ []))) hC hB rfl co10 rfl rfl (select_ret _ _ hC.holds _ c (Crew.mkIs (x := c) hs2) _ back hs20 (perm_sum (back_perm h13 hb hkl) (copied_marks l)) (perm_sum (back_perm h13 hb hkl) (copied_p l))) ?_; rintro v26 G o24 w hk hC hB ⟨A22, cap23, rfl, hO25⟩
    replace hs2 := hs2.mono hk.gle; replace hl := hl.mono hk.gle; replace hr9 := hr9.mono hk.gle; replace hOmidst := hOmidst.mono hk.gle; replace hO17 := hO17.mono hk.gle; replace hs20 := hs20.mono hk.gle
    refine wlVal (opMove rfl) rfl ?_
    refine wlVal (opExtract rfl rfl) rfl ?_
    refine wlVal (opExtract rfl rfl) rfl ?_
    refine wlVal (opExtract rfl rfl) rfl ?_
    refine wlAlloc hC hB zero30 rfl ?_; intro b27 w hk hC hB
    replace hB : Bxs G w w0.heap.size ([(b27, 30, ((.int .i64 0) :: (Dig.zero.cells ++ []))), (b19, 30, (((selI (has c) c ((copiedI l))).1)).cells), (b7, 24, [(.int .i64 c.faults), (.slice A3 c.nodes.length cap4)])] ++ (Option.toList o24 ++ (Option.toList o16 ++ (Option.toList midstO ++ [])))) := hB
    refine wlStore 0 (vs := (((selI (has c) c back).1)).cells) (cs := ((.int .i64 0) :: (Dig.zero.cells ++ []))) (cs' := (((selI (has c) c back).1)).cells) hC hB rfl rfl rfl sz30 rfl (by simp [Mark.cells, Stand.cells]) (by simp [Mark.cells, Stand.cells, Value.oneCell']) (by simp [Mark.cells, Stand.cells]) (by simp [Mark.cells, Stand.cells]) rfl ?_; intro w hC hB
    replace hB : Bxs G w w0.heap.size ([(b27, 30, (((selI (has c) c back).1)).cells), (b19, 30, (((selI (has c) c ((copiedI l))).1)).cells), (b7, 24, [(.int .i64 c.faults), (.slice A3 c.nodes.length cap4)])] ++ (Option.toList o24 ++ (Option.toList o16 ++ (Option.toList midstO ++ [])))) := hB
    refine wlVal (opAssign rfl) rfl ?_
    refine wlVal (opAssign rfl) rfl ?_
    refine wlThen ?_
    refine wcSeq ?_
    refine wcRegion ?_
    refine wlVal (opLoadRow (cs := [(.int .i64 c.faults), (.slice A3 c.nodes.length cap4)]) rfl (hB.range (i := 2) (m := 2) rfl rfl) row24 rfl) rfl ?_
    refine wlVal (opMove rfl) rfl ?_
    replace hB := Bxs.swapOwn1 (bl := [(b27, 30, (((selI (has c) c back).1)).cells), (b19, 30, (((selI (has c) c ((copiedI l))).1)).cells), (b7, 24, [(.int .i64 c.faults), (.slice A3 c.nodes.length cap4)])]) (X := Option.toList o24) (A := Option.toList o16) (B := Option.toList midstO) (r := []) hB
    replace hB := Bxs.swapOwn (bl := [(b27, 30, (((selI (has c) c back).1)).cells), (b19, 30, (((selI (has c) c ((copiedI l))).1)).cells), (b7, 24, [(.int .i64 c.faults), (.slice A3 c.nodes.length cap4)])]) (A := Option.toList o24) (B := Option.toList midstO) (r := (Option.toList o16 ++ [])) hB
    obtain ⟨G, hg29, hC, hB, hs28⟩ := Ow.freeze' (bl := [(b27, 30, (((selI (has c) c back).1)).cells), (b19, 30, (((selI (has c) c ((copiedI l))).1)).cells), (b7, 24, [(.int .i64 c.faults), (.slice A3 c.nodes.length cap4)])]) (r := (Option.toList o24 ++ (Option.toList o16 ++ []))) hOmidst hC (Nat.le_refl _) hB (by have q := List.length_take_le k (copiedI l).reverse; have q2 := List.length_take_le k ((copiedI l).drop (bringI fr ((copiedI l).length : Nat)).toNat ++ (copiedI l).take (bringI fr ((copiedI l).length : Nat)).toNat); have q9 := copied_len l; rw [hm]; unfold maxL; omega)
    replace hs2 := hs2.mono hg29; replace hl := hl.mono hg29; replace hr9 := hr9.mono hg29; replace hO17 := hO17.mono hg29; replace hs20 := hs20.mono hg29; replace hO25 := hO25.mono hg29
    refine wlCallO (bl := [(b27, 30, (((selI (has c) c back).1)).cells), (b19, 30, (((selI (has c) c ((copiedI l))).1)).cells), (b7, 24, [(.int .i64 c.faults), (.slice A3 c.nodes.length cap4)])]) (r := (Option.toList o24 ++ (Option.toList o16 ++ []))) hC hB rfl co10 rfl rfl (select_ret _ _ hC.holds _ c (Crew.mkIs (x := c) hs2) _ midst hs28 (perm_sum (rot_perm h13 hm hkl) (copied_marks l)) (perm_sum (rot_perm h13 hm hkl) (copied_p l))) ?_; rintro v34 G o32 w hk hC hB ⟨A30, cap31, rfl, hO33⟩
    replace hs2 := hs2.mono hk.gle; replace hl := hl.mono hk.gle; replace hr9 := hr9.mono hk.gle; replace hO17 := hO17.mono hk.gle; replace hs20 := hs20.mono hk.gle; replace hO25 := hO25.mono hk.gle; replace hs28 := hs28.mono hk.gle
    refine wlVal (opMove rfl) rfl ?_
    refine wlVal (opExtract rfl rfl) rfl ?_
    refine wlVal (opExtract rfl rfl) rfl ?_
    refine wlVal (opExtract rfl rfl) rfl ?_
    refine wlAlloc hC hB zero30 rfl ?_; intro b35 w hk hC hB
    replace hB : Bxs G w w0.heap.size ([(b35, 30, ((.int .i64 0) :: (Dig.zero.cells ++ []))), (b27, 30, (((selI (has c) c back).1)).cells), (b19, 30, (((selI (has c) c ((copiedI l))).1)).cells), (b7, 24, [(.int .i64 c.faults), (.slice A3 c.nodes.length cap4)])] ++ (Option.toList o32 ++ (Option.toList o24 ++ (Option.toList o16 ++ [])))) := hB
    refine wlStore 0 (vs := (((selI (has c) c midst).1)).cells) (cs := ((.int .i64 0) :: (Dig.zero.cells ++ []))) (cs' := (((selI (has c) c midst).1)).cells) hC hB rfl rfl rfl sz30 rfl (by simp [Mark.cells, Stand.cells]) (by simp [Mark.cells, Stand.cells, Value.oneCell']) (by simp [Mark.cells, Stand.cells]) (by simp [Mark.cells, Stand.cells]) rfl ?_; intro w hC hB
    replace hB : Bxs G w w0.heap.size ([(b35, 30, (((selI (has c) c midst).1)).cells), (b27, 30, (((selI (has c) c back).1)).cells), (b19, 30, (((selI (has c) c ((copiedI l))).1)).cells), (b7, 24, [(.int .i64 c.faults), (.slice A3 c.nodes.length cap4)])] ++ (Option.toList o32 ++ (Option.toList o24 ++ (Option.toList o16 ++ [])))) := hB
    refine wlVal (opAssign rfl) rfl ?_
    refine wlVal (opAssign rfl) rfl ?_
    refine wlThen ?_
    refine wcSeq ?_
    refine wcRegion ?_
    refine wlVal (opMove rfl) rfl ?_
    refine wlVal (opMove rfl) rfl ?_
    refine wlVal (opEql rfl rfl) rfl ?_
    refine wlVal (opMove rfl) rfl ?_
    cases h36 : (((selI (has c) c ((copiedI l))).2.2)) == (((selI (has c) c back).2.2))
    · skip
      refine wlOff rfl rfl rfl rfl ?_
      refine wlOff rfl rfl rfl rfl ?_
      refine wlOff rfl rfl rfl rfl ?_
      refine wlVal (opPickF rfl rfl) rfl ?_
      refine wlVal (opMove rfl) rfl ?_
      refine wlOff rfl rfl rfl rfl ?_
      refine wlOff rfl rfl rfl rfl ?_
      refine wlOff rfl rfl rfl rfl ?_
      refine wlVal (opPickF rfl rfl) rfl ?_
      refine wlVal (opMove rfl) rfl ?_
      refine wlOff rfl rfl rfl rfl ?_
      refine wlOff rfl rfl rfl rfl ?_
      refine wlOff rfl rfl rfl rfl ?_
      refine wlVal (opPickF rfl rfl) rfl ?_
      refine wlVal (opMove rfl) rfl ?_
      refine wlOff rfl rfl rfl rfl ?_
      refine wlOff rfl rfl rfl rfl ?_
      refine wlOff rfl rfl rfl rfl ?_
      refine wlVal (opPickF rfl rfl) rfl ?_
      refine wlVal (opMove rfl) rfl ?_
      refine wlOff rfl rfl rfl rfl ?_
      refine wlOff rfl rfl rfl rfl ?_
      refine wlOff rfl rfl rfl rfl ?_
      refine wlVal (opPickF rfl rfl) rfl ?_
      refine wlVal (opMove rfl) rfl ?_
      refine wlOff rfl rfl rfl rfl ?_
      refine wlVal (opPickF rfl rfl) rfl ?_
      refine wlVal (opAssign rfl) rfl ?_
      refine wlThen ?_
      refine wcRet ?_
      exact fun ac_ ha => hQ _ _ _ (results1 ha rfl rfl) ha.df (endS hC hw (by have e1 := selI_perm (has c) c (back_perm h13 hb hkl); have e2 := selI_perm (has c) c (rot_perm h13 hm hkl); simp [e1, e2] at h36))
    · skip
      refine wlOn rfl rfl ?_
      refine wlVal (opMove rfl) rfl ?_
      refine wlOn rfl rfl ?_
      refine wlVal (opMove rfl) rfl ?_
      refine wlOn rfl rfl ?_
      refine wlVal (opEql rfl rfl) rfl ?_
      refine wlVal (opPickT rfl rfl) rfl ?_
      refine wlVal (opMove rfl) rfl ?_
      cases h37 : (((selI (has c) c ((copiedI l))).2.2)) == (((selI (has c) c midst).2.2))
      · skip
        refine wlOff rfl rfl rfl rfl ?_
        refine wlOff rfl rfl rfl rfl ?_
        refine wlOff rfl rfl rfl rfl ?_
        refine wlVal (opPickF rfl rfl) rfl ?_
        refine wlVal (opMove rfl) rfl ?_
        refine wlOff rfl rfl rfl rfl ?_
        refine wlOff rfl rfl rfl rfl ?_
        refine wlOff rfl rfl rfl rfl ?_
        refine wlVal (opPickF rfl rfl) rfl ?_
        refine wlVal (opMove rfl) rfl ?_
        refine wlOff rfl rfl rfl rfl ?_
        refine wlOff rfl rfl rfl rfl ?_
        refine wlOff rfl rfl rfl rfl ?_
        refine wlVal (opPickF rfl rfl) rfl ?_
        refine wlVal (opMove rfl) rfl ?_
        refine wlOff rfl rfl rfl rfl ?_
        refine wlOff rfl rfl rfl rfl ?_
        refine wlOff rfl rfl rfl rfl ?_
        refine wlVal (opPickF rfl rfl) rfl ?_
        refine wlVal (opMove rfl) rfl ?_
        refine wlOff rfl rfl rfl rfl ?_
        refine wlVal (opPickF rfl rfl) rfl ?_
        refine wlVal (opAssign rfl) rfl ?_
        refine wlThen ?_
        refine wcRet ?_
        exact fun ac_ ha => hQ _ _ _ (results1 ha rfl rfl) ha.df (endS hC hw (by have e1 := selI_perm (has c) c (back_perm h13 hb hkl); have e2 := selI_perm (has c) c (rot_perm h13 hm hkl); simp [e1, e2] at h37))
      · skip
        refine wlOn rfl rfl ?_
        refine wlVal (opLoadRow (cs := (((selI (has c) c ((copiedI l))).1)).cells) rfl (hB.range (i := 2) (m := 33) rfl (by simp [Mark.cells, Stand.cells])) row30 (by simp [Mark.cells, Stand.cells])) rfl ?_
        refine wlOn rfl rfl ?_
        refine wlVal (opLoadRow (cs := (((selI (has c) c back).1)).cells) rfl (hB.range (i := 1) (m := 33) rfl (by simp [Mark.cells, Stand.cells])) row30 (by simp [Mark.cells, Stand.cells])) rfl ?_
        refine wlOn rfl rfl ?_
        refine wlVal (opEqRow (eq30 _ (((selI (has c) c ((copiedI l))).1)) (((selI (has c) c back).1))) eg30 rfl rfl) rfl ?_
        refine wlVal (opPickT rfl rfl) rfl ?_
        refine wlVal (opMove rfl) rfl ?_
        cases h38 : decide (((selI (has c) c ((copiedI l))).1) = ((selI (has c) c back).1))
        · skip
          refine wlOff rfl rfl rfl rfl ?_
          refine wlOff rfl rfl rfl rfl ?_
          refine wlOff rfl rfl rfl rfl ?_
          refine wlVal (opPickF rfl rfl) rfl ?_
          refine wlVal (opMove rfl) rfl ?_
          refine wlOff rfl rfl rfl rfl ?_
          refine wlOff rfl rfl rfl rfl ?_
          refine wlOff rfl rfl rfl rfl ?_
          refine wlVal (opPickF rfl rfl) rfl ?_
          refine wlVal (opMove rfl) rfl ?_
          refine wlOff rfl rfl rfl rfl ?_
          refine wlOff rfl rfl rfl rfl ?_
          refine wlOff rfl rfl rfl rfl ?_
          refine wlVal (opPickF rfl rfl) rfl ?_
          refine wlVal (opMove rfl) rfl ?_
          refine wlOff rfl rfl rfl rfl ?_
          refine wlVal (opPickF rfl rfl) rfl ?_
          refine wlVal (opAssign rfl) rfl ?_
          refine wlThen ?_
          refine wcRet ?_
          exact fun ac_ ha => hQ _ _ _ (results1 ha rfl rfl) ha.df (endS hC hw (by have e1 := selI_perm (has c) c (back_perm h13 hb hkl); have e2 := selI_perm (has c) c (rot_perm h13 hm hkl); simp [e1, e2] at h38))
        · skip
          refine wlOn rfl rfl ?_
          refine wlVal (opLoadRow (cs := (((selI (has c) c ((copiedI l))).1)).cells) rfl (hB.range (i := 2) (m := 33) rfl (by simp [Mark.cells, Stand.cells])) row30 (by simp [Mark.cells, Stand.cells])) rfl ?_
          refine wlOn rfl rfl ?_
          refine wlVal (opLoadRow (cs := (((selI (has c) c midst).1)).cells) rfl (hB.range (i := 0) (m := 33) rfl (by simp [Mark.cells, Stand.cells])) row30 (by simp [Mark.cells, Stand.cells])) rfl ?_
          refine wlOn rfl rfl ?_
          refine wlVal (opEqRow (eq30 _ (((selI (has c) c ((copiedI l))).1)) (((selI (has c) c midst).1))) eg30 rfl rfl) rfl ?_
          refine wlVal (opPickT rfl rfl) rfl ?_
          refine wlVal (opMove rfl) rfl ?_
          cases h39 : decide (((selI (has c) c ((copiedI l))).1) = ((selI (has c) c midst).1))
          · skip
            refine wlOff rfl rfl rfl rfl ?_
            refine wlOff rfl rfl rfl rfl ?_
            refine wlOff rfl rfl rfl rfl ?_
            refine wlVal (opPickF rfl rfl) rfl ?_
            refine wlVal (opMove rfl) rfl ?_
            refine wlOff rfl rfl rfl rfl ?_
            refine wlOff rfl rfl rfl rfl ?_
            refine wlOff rfl rfl rfl rfl ?_
            refine wlVal (opPickF rfl rfl) rfl ?_
            refine wlVal (opMove rfl) rfl ?_
            refine wlOff rfl rfl rfl rfl ?_
            refine wlVal (opPickF rfl rfl) rfl ?_
            refine wlVal (opAssign rfl) rfl ?_
            refine wlThen ?_
            refine wcRet ?_
            exact fun ac_ ha => hQ _ _ _ (results1 ha rfl rfl) ha.df (endS hC hw (by have e1 := selI_perm (has c) c (back_perm h13 hb hkl); have e2 := selI_perm (has c) c (rot_perm h13 hm hkl); simp [e1, e2] at h39))
          · skip
            refine wlOn rfl rfl ?_
            refine wlVal (opMove rfl) rfl ?_
            refine wlOn rfl rfl ?_
            refine wlVal (opMove rfl) rfl ?_
            refine wlOn rfl rfl ?_
            replace hB := Bxs.swapOwn1 (bl := [(b35, 30, (((selI (has c) c midst).1)).cells), (b27, 30, (((selI (has c) c back).1)).cells), (b19, 30, (((selI (has c) c ((copiedI l))).1)).cells), (b7, 24, [(.int .i64 c.faults), (.slice A3 c.nodes.length cap4)])]) (X := Option.toList o32) (A := Option.toList o24) (B := Option.toList o16) (r := []) hB
            replace hB := Bxs.swapOwn (bl := [(b35, 30, (((selI (has c) c midst).1)).cells), (b27, 30, (((selI (has c) c back).1)).cells), (b19, 30, (((selI (has c) c ((copiedI l))).1)).cells), (b7, 24, [(.int .i64 c.faults), (.slice A3 c.nodes.length cap4)])]) (A := Option.toList o32) (B := Option.toList o16) (r := (Option.toList o24 ++ [])) hB
            obtain ⟨G, hg41, hC, hB, hs40⟩ := Ow.freeze' (bl := [(b35, 30, (((selI (has c) c midst).1)).cells), (b27, 30, (((selI (has c) c back).1)).cells), (b19, 30, (((selI (has c) c ((copiedI l))).1)).cells), (b7, 24, [(.int .i64 c.faults), (.slice A3 c.nodes.length cap4)])]) (r := (Option.toList o32 ++ (Option.toList o24 ++ []))) hO17 hC (Nat.le_refl _) hB (Nat.le_trans (selI_len _ _ _) (by decide))
            replace hs2 := hs2.mono hg41; replace hl := hl.mono hg41; replace hr9 := hr9.mono hg41; replace hs20 := hs20.mono hg41; replace hO25 := hO25.mono hg41; replace hs28 := hs28.mono hg41; replace hO33 := hO33.mono hg41
            replace hB := Bxs.swapOwn (bl := [(b35, 30, (((selI (has c) c midst).1)).cells), (b27, 30, (((selI (has c) c back).1)).cells), (b19, 30, (((selI (has c) c ((copiedI l))).1)).cells), (b7, 24, [(.int .i64 c.faults), (.slice A3 c.nodes.length cap4)])]) (A := Option.toList o32) (B := Option.toList o24) (r := []) hB
            obtain ⟨G, hg43, hC, hB, hs42⟩ := Ow.freeze' (bl := [(b35, 30, (((selI (has c) c midst).1)).cells), (b27, 30, (((selI (has c) c back).1)).cells), (b19, 30, (((selI (has c) c ((copiedI l))).1)).cells), (b7, 24, [(.int .i64 c.faults), (.slice A3 c.nodes.length cap4)])]) (r := (Option.toList o32 ++ [])) hO25 hC (Nat.le_refl _) hB (Nat.le_trans (selI_len _ _ _) (by decide))
            replace hs2 := hs2.mono hg43; replace hl := hl.mono hg43; replace hr9 := hr9.mono hg43; replace hs20 := hs20.mono hg43; replace hs28 := hs28.mono hg43; replace hO33 := hO33.mono hg43; replace hs40 := hs40.mono hg43
            refine wlCallS hC hB rfl co12 rfl rfl (rsame_ret _ _ hC.holds _ (((selI (has c) c ((copiedI l))).2.1)) hs40 _ (((selI (has c) c back).2.1)) hs42) ?_; intro w hk hC hB
            refine wlVal (opPickT rfl rfl) rfl ?_
            refine wlVal (opMove rfl) rfl ?_
            cases h44 : (decide ((((selI (has c) c ((copiedI l))).2.1)) = (((selI (has c) c back).2.1))))
            · skip
              refine wlOff rfl rfl rfl rfl ?_
              refine wlOff rfl rfl rfl rfl ?_
              refine wlOff rfl rfl rfl rfl ?_
              refine wlVal (opPickF rfl rfl) rfl ?_
              refine wlVal (opMove rfl) rfl ?_
              refine wlOff rfl rfl rfl rfl ?_
              refine wlVal (opPickF rfl rfl) rfl ?_
              refine wlVal (opAssign rfl) rfl ?_
              refine wlThen ?_
              refine wcRet ?_
              exact fun ac_ ha => hQ _ _ _ (results1 ha rfl rfl) ha.df (endS hC hw (by have e1 := selI_perm (has c) c (back_perm h13 hb hkl); have e2 := selI_perm (has c) c (rot_perm h13 hm hkl); simp [e1, e2] at h44))
            · skip
              refine wlOn rfl rfl ?_
              refine wlVal (opMove rfl) rfl ?_
              refine wlOn rfl rfl ?_
              refine wlVal (opMove rfl) rfl ?_
              refine wlOn rfl rfl ?_
              obtain ⟨G, hg46, hC, hB, hs45⟩ := Ow.freeze' (bl := [(b35, 30, (((selI (has c) c midst).1)).cells), (b27, 30, (((selI (has c) c back).1)).cells), (b19, 30, (((selI (has c) c ((copiedI l))).1)).cells), (b7, 24, [(.int .i64 c.faults), (.slice A3 c.nodes.length cap4)])]) (r := []) hO33 hC (Nat.le_refl _) hB (Nat.le_trans (selI_len _ _ _) (by decide))
              replace hs2 := hs2.mono hg46; replace hl := hl.mono hg46; replace hr9 := hr9.mono hg46; replace hs20 := hs20.mono hg46; replace hs28 := hs28.mono hg46; replace hs40 := hs40.mono hg46; replace hs42 := hs42.mono hg46
              refine wlCallS hC hB rfl co12 rfl rfl (rsame_ret _ _ hC.holds _ (((selI (has c) c ((copiedI l))).2.1)) hs40 _ (((selI (has c) c midst).2.1)) hs45) ?_; intro w hk hC hB
              refine wlVal (opPickT rfl rfl) rfl ?_
              refine wlVal (opMove rfl) rfl ?_
              cases h47 : (decide ((((selI (has c) c ((copiedI l))).2.1)) = (((selI (has c) c midst).2.1))))
              · skip
                refine wlOff rfl rfl rfl rfl ?_
                refine wlVal (opPickF rfl rfl) rfl ?_
                refine wlVal (opAssign rfl) rfl ?_
                refine wlThen ?_
                refine wcRet ?_
                exact fun ac_ ha => hQ _ _ _ (results1 ha rfl rfl) ha.df (endS hC hw (by have e1 := selI_perm (has c) c (back_perm h13 hb hkl); have e2 := selI_perm (has c) c (rot_perm h13 hm hkl); simp [e1, e2] at h47))
              · skip
                refine wlOn rfl rfl ?_
                refine wlCallS hC hB rfl co14 rfl rfl (awake_ret _ _ hC.holds ) ?_; intro w hk hC hB
                refine wlVal (opPickT rfl rfl) rfl ?_
                refine wlVal (opAssign rfl) rfl ?_
                refine wlThen ?_
                refine wcRet ?_
                exact fun ac_ ha => hQ _ _ _ (results1 ha rfl rfl) ha.df (endS hC hw rfl)
  · skip
    refine wcCondT rfl ?_
    refine wcSkip ?_
    refine wcOf ?_
    refine wcSeq ?_
    refine wcBlock ?_
    refine wcSeq ?_
    refine wcRegion ?_
    refine wlVal (opMove rfl) rfl ?_
    refine wlVal (opMove rfl) rfl ?_
    refine wlVal (opMove rfl) rfl ?_
    refine wlVal (opLen rfl isl25) rfl ?_
    refine wlVal (opDecr rfl rfl (by have q := of_decide_eq_true h13; have q9 := copied_len l; omega) (by have q := of_decide_eq_true h13; have q9 := copied_len l; omega)) rfl ?_
    refine wlVal (opMove rfl) rfl ?_
    refine wlVal (opSubN rfl rfl (by have q := of_decide_eq_true h13; have q9 := copied_len l; omega) (by have q := of_decide_eq_true h13; have q9 := copied_len l; omega)) rfl ?_
    obtain ⟨x48, hx49⟩ : ∃ y_, ((copiedI l))[((((copiedI l)).length - 1) - k)]? = some y_ := ⟨_, List.getElem?_eq_getElem (by have q := of_decide_eq_true h13; have q9 := copied_len l; first | omega | exact Nat.mod_lt _ (by omega))⟩
    obtain ⟨b50, o51, row52, hA55, hr53, hi54⟩ := hr9.elem hx49; subst hA55
    obtain ⟨v56, v58, v60, rfl, hs57, hs59, hs61⟩ := Change.opIs hi54
    obtain ⟨A62, cap63, rfl⟩ := hs57.form
    obtain ⟨A64, cap65, rfl⟩ := hs59.form
    obtain ⟨A66, cap67, rfl⟩ := hs61.form
    refine wlVal (opIndexAddr rfl rfl slo25 (by have q := of_decide_eq_true h13; have q9 := copied_len l; first | omega | exact Nat.mod_lt _ (by omega))) rfl ?_
    refine wlVal (opLoadRow (cs := [(.int .i64 x48.node), (.int .i64 x48.view), (.int .i64 x48.low), (.slice A62 x48.marks.length cap63), (.slice A64 x48.p.length cap65), (.slice A66 x48.q.length cap67)]) rfl (RowG.range hC.holds hr53) row49 rfl) rfl ?_
    refine wlBuildSlice (α := Change) (ps := [(0, .tmp 36)]) (xs := [x48]) (rows := [[(.int .i64 x48.node), (.int .i64 x48.view), (.int .i64 x48.low), (.slice A62 x48.marks.length cap63), (.slice A64 x48.p.length cap65), (.slice A66 x48.q.length cap67)]]) elo25 rfl rfl hC hB rfl rfl rfl ⟨(Change.mkIs (x := x48) hs57 hs59 hs61), trivial⟩ rfl ?_; intro b68 G w hk hC hB hs69
    replace hs2 := hs2.mono hk.gle; replace hl := hl.mono hk.gle; replace hr9 := hr9.mono hk.gle; replace hOback := hOback.mono hk.gle; replace hOmidst := hOmidst.mono hk.gle; replace hs57 := hs57.mono hk.gle; replace hs59 := hs59.mono hk.gle; replace hs61 := hs61.mono hk.gle; replace hr53 := hr53.mono hk.gle
    replace hB := Bxs.swapOwn (bl := [(b7, 24, [(.int .i64 c.faults), (.slice A3 c.nodes.length cap4)])]) (A := Option.toList midstO) (B := Option.toList backO) (r := []) hB
    refine wlAppend (α := Change) (bl := [(b7, 24, [(.int .i64 c.faults), (.slice A3 c.nodes.length cap4)])]) (o := backO) (r := (Option.toList midstO ++ [])) elo25 hC hB rfl rfl hOback hs69 (by have q := List.length_take_le k (copiedI l).reverse; have q2 := List.length_take_le k ((copiedI l).drop (bringI fr ((copiedI l).length : Nat)).toNat ++ (copiedI l).take (bringI fr ((copiedI l).length : Nat)).toNat); have q := of_decide_eq_true h13; have q9 := copied_len l; rw [hb]; simp only [List.length_cons, List.length_nil]; omega) rfl rfl ?_; intro A70 cap71 o72 w hC hB hO73
    refine wlVal (opAssign rfl) rfl ?_
    refine wlThen ?_
    refine wcRegion ?_
    refine wlVal (opMove rfl) rfl ?_
    refine wlVal (opMove rfl) rfl ?_
    refine wlVal (opMove rfl) rfl ?_
    refine wlVal (opMove rfl) rfl ?_
    refine wlVal (opMove rfl) rfl ?_
    refine wlVal (opLen rfl isl25) rfl ?_
    refine wlCallS hC hB rfl co15 rfl rfl (bring_ret _ _ hC.holds fr (((((copiedI l)).length : Nat) : Int))) ?_; intro w hk hC hB
    refine wlVal (opAdd rfl rfl) rfl ?_
    refine wlVal (opMove rfl) rfl ?_
    refine wlVal (opLen rfl isl25) rfl ?_
    refine wlVal (OpVal.cast (v' := .int .i64 ((((k + (bringI fr ((copiedI l).length : Nat)).toNat) % (copiedI l).length) : Nat) : Int)) (opRem rfl rfl (by have q := of_decide_eq_true h13; have q9 := copied_len l; omega)) (congrArg (Value.int .i64) (by have q := of_decide_eq_true h13; have q9 := copied_len l; have hbr := bring_rng fr (m := (copiedI l).length) (by omega) (by omega); have hbn : (bringI fr ((copiedI l).length : Nat)) = (((bringI fr ((copiedI l).length : Nat)).toNat : Nat) : Int) := (by omega); exact (congrArg (fun z => Int.tmod (IntKind.wrap .i64 ((k : Int) + z)) _) hbn).trans (tmod_nat (by omega) (by omega))))) rfl ?_
    obtain ⟨x74, hx75⟩ : ∃ y_, ((copiedI l))[((k + (bringI fr ((copiedI l).length : Nat)).toNat) % (copiedI l).length)]? = some y_ := ⟨_, List.getElem?_eq_getElem (by have q := of_decide_eq_true h13; have q9 := copied_len l; first | omega | exact Nat.mod_lt _ (by omega))⟩
    obtain ⟨row78, hr79, hi80⟩ := Sl.elem' hr9 hx75
    obtain ⟨v82, v84, v86, rfl, hs83, hs85, hs87⟩ := Change.opIs hi80
    obtain ⟨A88, cap89, rfl⟩ := hs83.form
    obtain ⟨A90, cap91, rfl⟩ := hs85.form
    obtain ⟨A92, cap93, rfl⟩ := hs87.form
    refine wlVal (opIndexAddr rfl rfl slo25 (by have q := of_decide_eq_true h13; have q9 := copied_len l; first | omega | exact Nat.mod_lt _ (by omega))) rfl ?_
    refine wlVal (opLoadRow (cs := [(.int .i64 x74.node), (.int .i64 x74.view), (.int .i64 x74.low), (.slice A88 x74.marks.length cap89), (.slice A90 x74.p.length cap91), (.slice A92 x74.q.length cap93)]) rfl (RowG.range hC.holds hr79) row49 rfl) rfl ?_
    refine wlBuildSlice (α := Change) (ps := [(0, .tmp 51)]) (xs := [x74]) (rows := [[(.int .i64 x74.node), (.int .i64 x74.view), (.int .i64 x74.low), (.slice A88 x74.marks.length cap89), (.slice A90 x74.p.length cap91), (.slice A92 x74.q.length cap93)]]) elo25 rfl rfl hC hB rfl rfl rfl ⟨(Change.mkIs (x := x74) hs83 hs85 hs87), trivial⟩ rfl ?_; intro b94 G w hk hC hB hs95
    replace hs2 := hs2.mono hk.gle; replace hl := hl.mono hk.gle; replace hr9 := hr9.mono hk.gle; replace hOmidst := hOmidst.mono hk.gle; replace hs57 := hs57.mono hk.gle; replace hs59 := hs59.mono hk.gle; replace hs61 := hs61.mono hk.gle; replace hr53 := hr53.mono hk.gle; replace hs69 := hs69.mono hk.gle; replace hO73 := hO73.mono hk.gle; replace hs83 := hs83.mono hk.gle; replace hs85 := hs85.mono hk.gle; replace hs87 := hs87.mono hk.gle; replace hr79 := hr79.mono hk.gle
    replace hB := Bxs.swapOwn (bl := [(b7, 24, [(.int .i64 c.faults), (.slice A3 c.nodes.length cap4)])]) (A := Option.toList o72) (B := Option.toList midstO) (r := []) hB
    refine wlAppend (α := Change) (bl := [(b7, 24, [(.int .i64 c.faults), (.slice A3 c.nodes.length cap4)])]) (o := midstO) (r := (Option.toList o72 ++ [])) elo25 hC hB rfl rfl hOmidst hs95 (by have q := List.length_take_le k (copiedI l).reverse; have q2 := List.length_take_le k ((copiedI l).drop (bringI fr ((copiedI l).length : Nat)).toNat ++ (copiedI l).take (bringI fr ((copiedI l).length : Nat)).toNat); have q := of_decide_eq_true h13; have q9 := copied_len l; rw [hm]; simp only [List.length_cons, List.length_nil]; omega) rfl rfl ?_; intro A96 cap97 o98 w hC hB hO99
    refine wlVal (opAssign rfl) rfl ?_
    refine wlNil ?_
    refine wcOf ?_
    refine wcRegion ?_
    refine wlVal (opMove rfl) rfl ?_
    refine wlVal (opIncr rfl rfl (incr_ok (of_decide_eq_true h13) hr9.le)) rfl ?_
    refine wlVal (opAssign rfl) rfl ?_
    refine wlRound ?_
    exact (IH0 (k + 1, A70, cap71, o72, (back ++ [x48]), A96, cap97, o98, (midst ++ [x74])) _ _ ⟨hC, hB, hs2, hl, hr9, hO73, hO99, (of_decide_eq_true h13), (by have q := of_decide_eq_true h13; have q9 := copied_len l; rw [List.take_add_one, rev_get q, hx49, hb]; rfl), (by have q := of_decide_eq_true h13; have q9 := copied_len l; rw [List.take_add_one, rot_get q (bring_le _ _), hx75, hm]; rfl)⟩ (by have q := of_decide_eq_true h13; have q9 := copied_len l; show (copiedI l).length - (k + 1) < (copiedI l).length - k; omega)).sub (fun _ ha => ((((((ha.start.cons ha (t := 2) rfl).cons ha (t := 3) rfl).cons ha (t := 7) rfl).cons ha (t := 8) rfl).cons ha (t := 9) rfl).cons ha (t := 10) rfl))

end Go.Proofs.Ytbhkoipmojdkhaa
