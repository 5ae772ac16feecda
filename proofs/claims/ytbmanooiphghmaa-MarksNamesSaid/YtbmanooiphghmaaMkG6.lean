/- What functions of the marks seat return, part 6. No condition. -/
import Derived.Test.YtbmanooiphghmaaMkG5
import Derived.Test.YtbmanooiphghmaaGxTail
set_option linter.all false
namespace Go.Proofs.Ytbmanooiphghmaa
open Go Go.Gx Go.RowKit
def bfGo (p : Mark → Bool) (xs : List Mark) : Nat → Nat → Nat → Nat
  | 0, i, _ => i
  | f + 1, i, j => bif decide (i < j) then (bif p (xs.getD ((i + j) / 2) default) then bfGo p xs f ((i + j) / 2 + 1) j else bfGo p xs f i ((i + j) / 2)) else i
def bfI (p : Mark → Bool) (xs : List Mark) : Nat := bfGo p xs xs.length 0 xs.length
def bfF (g : Mark → Int → Int) (xs : List Mark) (t : Int) : Bool := decide (bfI (fun a => decide (g a t < 0)) xs < xs.length) && (g (xs.getD (bfI (fun a => decide (g a t < 0)) xs) default) t == 0)
theorem bfGo_done (p : Mark → Bool) (xs : List Mark) (f i j : Nat) (h : ¬ i < j) : bfGo p xs f i j = i := by
  cases f with
  | zero => rfl
  | succ f => simp [bfGo, h]
theorem bfGo_step (p : Mark → Bool) (xs : List Mark) (f i j : Nat) (h : i < j) (hf : j ≤ i + f) {x : Mark} (hx : xs[(i + j) / 2]? = some x) :
    bfGo p xs f i j = bif p x then bfGo p xs (f - 1) ((i + j) / 2 + 1) j else bfGo p xs (f - 1) i ((i + j) / 2) := by
  cases f with
  | zero => omega
  | succ f => simp [bfGo, h, hx]
def insA (s : List Mark) (i : Nat) (z : Mark) : List Mark := s.take i ++ ([z] ++ s.drop i)
theorem insA_end {s : List Mark} {i : Nat} {z : Mark} (h : (((i : Nat) : Int) == ((s.length : Nat) : Int)) = true) : insA s i z = s ++ [z] := by
  have : i = s.length := by have := of_decide_eq_true (by simpa using h : decide ((i : Int) = (s.length : Int)) = true); omega
  subst this
  simp [insA]
theorem ilt_of {i n : Nat} (h : (((i : Nat) : Int) == ((n : Nat) : Int)) = false) (hi : i ≤ n) : i < n := by
  have : ¬ ((i : Int) = (n : Int)) := by simpa using h
  omega
theorem ext53b : Try.f53.body.isNone = true := by kernel_rfl
theorem ext53n : (Try.f53.name == "runtime.NumGoroutine") = false := by kernel_rfl
theorem ext53x : (Extern.findNext Try.f53).isNone = true := by kernel_rfl
theorem ext53f : Extern.find Try.f53 = some (Extern.SlicesOverlaps.overlaps #[54, 54] #[4]) := by kernel_rfl
theorem bsf_ret (G0 : Gh) (w0 : World) (hw : Holds G0 w0) (vx : Value) (x : List Mark) (hx : Sl G0 vx x) (t : Int) (fg : FuncId) (cg : List Value) (pg : Mark → Int → Int) (kg : callOk Try.prog fg = true) (hg : ∀ (G : Gh) (w : World) (g_x0 : Mark) (g_x1 : Int), GLe G0 G → Holds G w → RetS Try.prog fg ([Value.agg g_x0.cells.toArray, Value.int .i64 g_x1] ++ cg).toArray G w (.int .i64 (pg g_x0 g_x1))) :
    RetS Try.prog 34 #[vx, .int .i64 t, .func (.func fg) #[] cg.toArray] G0 w0 (.tuple #[(.int .i64 ((bfI (fun a => decide (pg a t < 0)) x : Nat) : Int)), (.bool (bfF pg x t))]) := by
  have hC := Cx.refl hw
  have hB : Bxs G0 w0 w0.heap.size [] := Bxs.nil _ _ _
  obtain ⟨A1, cap2, rfl⟩ := hx.form
  refine callsOf Try.func34 rfl _ Try.ntmps34 rfl _ (argsCons (argsCons (argsCons argsNil (t := 0) rfl) (t := 1) rfl) (t := 2) rfl) ?_; intro Q0 hQ
  refine wcSeq ?_
  refine wcRegion ?_
  refine wlVal (opAssign rfl) rfl ?_
  refine wlVal (opAssign rfl) rfl ?_
  refine wlThen ?_
  refine wcSeq ?_
  refine wcRegion ?_
  refine wlVal (opMove rfl) rfl ?_
  refine wlVal (opLen rfl isl54) rfl ?_
  refine wlVal (opAssign rfl) rfl ?_
  refine wlThen ?_
  refine wcSeq ?_
  refine wcRegion ?_
  refine wlVal (opMove rfl) rfl ?_
  refine wlVal (opAssign rfl) rfl ?_
  refine wlVal (opAssign rfl) rfl ?_
  refine wlThen ?_
  refine wcSeq ?_
  refine wcBlock ?_
  refine WC.sub (wrInd (ι := Nat × Nat × Nat) (fun i => match i with | (i, j, f) => j - i) (fun i G w => match i with | (i, j, f) => Cx w0 G0 G w ∧ Bxs G w w0.heap.size [] ∧ Sl G (.slice A1 x.length cap2) x ∧ j ≤ x.length ∧ j ≤ i + f ∧ bfGo (fun a => decide (pg a t < 0)) x f i j = bfI (fun a => decide (pg a t < 0)) x) (fun i => match i with | (i, j, f) => ((((((Env.nil.put 0 (.slice A1 x.length cap2)).put 1 (.int .i64 t)).put 2 (.func (.func fg) #[] cg.toArray)).put 8 (.int .i64 (((x.length : Nat) : Int)))).put 9 (.int .i64 (((i : Nat) : Int)))).put 10 (.int .i64 (((j : Nat) : Int))))) ?_ (0, x.length, x.length) _ _ ⟨hC, hB, hx, (Nat.le_refl _), (by omega), rfl⟩) (fun _ ha => ((((((ha.start.cons ha (t := 0) rfl).cons ha (t := 1) rfl).cons ha (t := 2) rfl).cons ha (t := 8) rfl).cons ha (t := 9) rfl).cons ha (t := 10) rfl))
  rintro ⟨i, j, f⟩ G w N0 IH0 ⟨hC, hB, hx, hj, hf, hI⟩
  show WC _ _ _ _ ((((((Env.nil.put 0 (.slice A1 x.length cap2)).put 1 (.int .i64 t)).put 2 (.func (.func fg) #[] cg.toArray)).put 8 (.int .i64 (((x.length : Nat) : Int)))).put 9 (.int .i64 (((i : Nat) : Int)))).put 10 (.int .i64 (((j : Nat) : Int)))) w
  refine wcSeq ?_
  refine wcSeq ?_
  refine wcRegion ?_
  refine wlVal (opMove rfl) rfl ?_
  refine wlVal (opMove rfl) rfl ?_
  refine wlVal (opLssN rfl rfl) rfl ?_
  refine wlThen ?_
  cases h3 : decide (i < j)
  · skip
    refine wcCondF rfl ?_
    refine wcExit ?_
    refine wcOf ?_
    refine wcSeq ?_
    refine wcRegion ?_
    refine wlVal (opMove rfl) rfl ?_
    refine wlVal (opMove rfl) rfl ?_
    refine wlVal (opMove rfl) rfl ?_
    refine wlVal (opLssN rfl rfl) rfl ?_
    refine wlVal (opMove rfl) rfl ?_
    cases h4 : decide (i < x.length)
    · skip
      refine wlOff rfl rfl rfl rfl ?_
      refine wlOff rfl rfl rfl rfl ?_
      refine wlOff rfl rfl rfl rfl ?_
      refine wlOff rfl rfl rfl rfl ?_
      refine wlOff rfl rfl rfl rfl ?_
      refine wlOff rfl rfl rfl rfl ?_
      refine wlOff rfl rfl rfl rfl ?_
      refine wlOff rfl rfl rfl rfl ?_
      refine wlVal (opPickF rfl rfl) rfl ?_
      refine wlVal (opAssign rfl) rfl ?_
      refine wlVal (opAssign rfl) rfl ?_
      refine wlThen ?_
      refine wcRet ?_
      exact fun ac_ ha => hQ _ _ _ (results2 ha rfl rfl rfl) ha.df (endS hC hw (by have e := bfGo_done (fun a => decide (pg a t < 0)) x f i j (of_decide_eq_false h3); rw [hI] at e; simp [bfF, h3, h4, e]))
    · skip
      refine wlOn rfl rfl ?_
      refine wlVal (opMove rfl) rfl ?_
      refine wlOn rfl rfl ?_
      refine wlVal (opMove rfl) rfl ?_
      refine wlOn rfl rfl ?_
      refine wlVal (opMove rfl) rfl ?_
      refine wlOn rfl rfl ?_
      obtain ⟨x5, hx6⟩ : ∃ y_, x[i]? = some y_ := ⟨_, List.getElem?_eq_getElem (of_decide_eq_true h4)⟩
      obtain ⟨b7, o8, row9, hA12, hr10, hi11⟩ := hx.elem hx6; subst hA12
      obtain rfl := hi11
      refine wlVal (opIndexAddr rfl rfl slo54 (of_decide_eq_true h4)) rfl ?_
      refine wlOn rfl rfl ?_
      refine wlVal (opLoadRow (cs := x5.cells) rfl (RowG.range hC.holds hr10) row28 (by simp [Mark.cells, Do.cells, Word.cells])) rfl ?_
      refine wlOn rfl rfl ?_
      refine wlVal (opMove rfl) rfl ?_
      refine wlOn rfl rfl ?_
      refine wlCallS hC hB rfl kg rfl rfl (hg _ _ x5 t hC.gle hC.holds ) ?_; intro w hk hC hB
      refine wlOn rfl rfl ?_
      refine wlVal (opEql rfl rfl) rfl ?_
      refine wlVal (opPickT rfl rfl) rfl ?_
      refine wlVal (opAssign rfl) rfl ?_
      refine wlVal (opAssign rfl) rfl ?_
      refine wlThen ?_
      refine wcRet ?_
      exact fun ac_ ha => hQ _ _ _ (results2 ha rfl rfl rfl) ha.df (endS hC hw (by have e := bfGo_done (fun a => decide (pg a t < 0)) x f i j (of_decide_eq_false h3); rw [hI] at e; simp [bfF, h3, h4, e, hx6]))
  · skip
    refine wcCondT rfl ?_
    refine wcSkip ?_
    refine wcOf ?_
    refine wcBlock ?_
    refine wcSeq ?_
    refine wcRegion ?_
    refine wlVal (opMove rfl) rfl ?_
    refine wlVal (opMove rfl) rfl ?_
    refine wlVal (opAddN rfl rfl (by have := hx.le; unfold maxL at this; have := of_decide_eq_true h3; omega)) rfl ?_
    refine wlVal (opConvN rfl un3 ui83 (wrap_u64_nat (by have := hx.le; unfold maxL at this; have := of_decide_eq_true h3; omega))) rfl ?_
    refine wlVal (opHalf rfl rfl) rfl ?_
    refine wlVal (opConvN rfl un83 ui3 (wrap_i64_nat (by have := hx.le; unfold maxL at this; have := of_decide_eq_true h3; omega))) rfl ?_
    refine wlVal (opAssign rfl) rfl ?_
    refine wlThen ?_
    refine wcSeq ?_
    refine wcRegion ?_
    refine wlVal (opMove rfl) rfl ?_
    refine wlVal (opMove rfl) rfl ?_
    refine wlVal (opMove rfl) rfl ?_
    obtain ⟨x13, hx14⟩ : ∃ y_, x[(i + j) / 2]? = some y_ := ⟨_, List.getElem?_eq_getElem (by have := of_decide_eq_true h3; omega)⟩
    obtain ⟨b15, o16, row17, hA20, hr18, hi19⟩ := hx.elem hx14; subst hA20
    obtain rfl := hi19
    refine wlVal (opIndexAddr rfl rfl slo54 (by have := of_decide_eq_true h3; omega)) rfl ?_
    refine wlVal (opLoadRow (cs := x13.cells) rfl (RowG.range hC.holds hr18) row28 (by simp [Mark.cells, Do.cells, Word.cells])) rfl ?_
    refine wlVal (opMove rfl) rfl ?_
    refine wlCallS hC hB rfl kg rfl rfl (hg _ _ x13 t hC.gle hC.holds ) ?_; intro w hk hC hB
    refine wlVal (opLss rfl rfl) rfl ?_
    refine wlThen ?_
    cases h21 : decide ((pg x13 t) < 0)
    · skip
      refine wcCondF rfl ?_
      refine wcRegion ?_
      refine wlVal (opMove rfl) rfl ?_
      refine wlVal (opAssign rfl) rfl ?_
      refine wlNil ?_
      refine wrOf ?_
      have hij := of_decide_eq_true h3
      exact (IH0 (i, (i + j) / 2, (f - 1)) _ _ ⟨hC, hB, hx, (by omega), (by omega), (by rw [← hI, bfGo_step _ x f i j (by omega) (by omega) hx14, h21]; rfl)⟩ (by have := of_decide_eq_true h3; simp; omega)).sub (fun _ ha => ((((((ha.start.cons ha (t := 0) rfl).cons ha (t := 1) rfl).cons ha (t := 2) rfl).cons ha (t := 8) rfl).cons ha (t := 9) rfl).cons ha (t := 10) rfl))
    · skip
      refine wcCondT rfl ?_
      refine wcRegion ?_
      refine wlVal (opMove rfl) rfl ?_
      refine wlVal (opIncr rfl rfl (by have := hx.le; unfold maxL at this; have := of_decide_eq_true h3; omega)) rfl ?_
      refine wlVal (opAssign rfl) rfl ?_
      refine wlNil ?_
      refine wrOf ?_
      have hij := of_decide_eq_true h3
      exact (IH0 ((i + j) / 2 + 1, j, (f - 1)) _ _ ⟨hC, hB, hx, (by omega), (by omega), (by rw [← hI, bfGo_step _ x f i j (by omega) (by omega) hx14, h21]; rfl)⟩ (by have := of_decide_eq_true h3; have := of_decide_eq_true h21; simp; omega)).sub (fun _ ha => ((((((ha.start.cons ha (t := 0) rfl).cons ha (t := 1) rfl).cons ha (t := 2) rfl).cons ha (t := 8) rfl).cons ha (t := 9) rfl).cons ha (t := 10) rfl))

theorem ins_ret (G0 : Gh) (w0 : World) (hw : Holds G0 w0) (vs : Value) (s : List Mark) (os : Option Bx) (hs : Ow G0 os 28 vs s) (hBs : Bxs G0 w0 w0.heap.size (Option.toList os) ((Option.toList os).map (·.1))) (i : Nat) (vv : Value) (z : Mark) (hv : Sl G0 vv [z]) (hlen : s.length ≤ 1000000) (hi : i ≤ s.length) :
    RetP Try.prog 37 #[vs, .int .i64 ((i : Nat) : Int), vv] G0 w0 ((Option.toList os).map (·.1)) (fun G o v => ∃ A cap, v = (.slice A ((insA s i z)).length cap) ∧ Ow G o 28 (.slice A ((insA s i z)).length cap) ((insA s i z))) := by
  have hC := Cx.reflM ((Option.toList os).map (·.1)) hw
  have hB : Bxs G0 w0 w0.heap.size ([] ++ (Option.toList os ++ [])) ((Option.toList os).map (·.1)) := by simpa using hBs
  obtain ⟨A1, cap2, rfl⟩ := hs.form
  obtain ⟨A3, cap4, rfl⟩ := hv.form
  refine callsOf Try.func37 rfl _ Try.ntmps37 rfl _ (argsCons (argsCons (argsCons argsNil (t := 0) rfl) (t := 1) rfl) (t := 2) rfl) ?_; intro Q0 hQ
  refine wcSeq ?_
  refine wcRegion ?_
  refine wlVal (opAssign rfl) rfl ?_
  refine wlThen ?_
  refine wcSeq ?_
  refine wcRegion ?_
  refine wlVal (opMove rfl) rfl ?_
  refine wlVal (opMove rfl) rfl ?_
  refine wlVal (opSliceFrom slo54 rfl rfl hi) rfl ?_
  refine wlThen ?_
  refine wcSeq ?_
  refine wcRegion ?_
  refine wlVal (opMove rfl) rfl ?_
  refine wlVal (opLen rfl isl54) rfl ?_
  refine wlVal (opAssign rfl) rfl ?_
  refine wlThen ?_
  refine wcSeq ?_
  refine wcSeq ?_
  refine wcRegion ?_
  refine wlVal (opMove rfl) rfl ?_
  refine wlVal (opEql rfl rfl) rfl ?_
  refine wlThen ?_
  refine wcCondF rfl ?_
  refine wcSkip ?_
  refine wcOf ?_
  refine wcSeq ?_
  refine wcRegion ?_
  refine wlVal (opMove rfl) rfl ?_
  refine wlVal (opLen rfl isl54) rfl ?_
  refine wlVal (opAssign rfl) rfl ?_
  refine wlThen ?_
  refine wcSeq ?_
  refine wcSeq ?_
  refine wcRegion ?_
  refine wlVal (opMove rfl) rfl ?_
  refine wlVal (opMove rfl) rfl ?_
  refine wlVal (opEql rfl rfl) rfl ?_
  refine wlThen ?_
  cases h5 : (((i : Nat) : Int)) == (((s.length : Nat) : Int))
  · skip
    refine wcCondF rfl ?_
    refine wcSkip ?_
    refine wcOf ?_
    refine wcSeq ?_
    refine wcSeq ?_
    refine wcRegion ?_
    refine wlVal (opMove rfl) rfl ?_
    refine wlVal (opMove rfl) rfl ?_
    refine wlVal (opIncr rfl rfl (by omega)) rfl ?_
    refine wlVal (opMove rfl) rfl ?_
    refine wlVal (opCap rfl isl54) rfl ?_
    refine wlVal (opGtr rfl rfl) rfl ?_
    refine wlThen ?_
    cases h6 : decide (((cap2 : Nat) : Int) < ((s.length + 1 : Nat) : Int))
    · skip
      refine wcCondF rfl ?_
      refine wcSkip ?_
      refine wcOf ?_
      refine wcSeq ?_
      obtain ⟨g7, cs8, rfl, rfl⟩ := hs.addr (ilt_of h5 hi)
      obtain ⟨rows9, hR10, hc11, hm12, hl13, ht14⟩ := hs.raw
      replace hB : Bxs G0 w0 w0.heap.size [(g7, 28, cs8)] ⟨((Option.toList (some (g7, 28, cs8))).map (·.1)), []⟩ := by first | exact hB | exact (by simpa using hB)
      refine wcRegion ?_
      refine wlVal (opMove rfl) rfl ?_
      refine wlVal (opMove rfl) rfl ?_
      refine wlVal (opMove rfl) rfl ?_
      refine wlVal (opIncr rfl rfl (by omega)) rfl ?_
      refine wlVal (opSliceTo slo54 rfl rfl (by have q := of_decide_eq_false h6; omega)) rfl ?_
      refine wlVal (opAssign rfl) rfl ?_
      refine wlThen ?_
      refine wcSeq ?_
      refine wcSeq ?_
      refine wcRegion ?_
      refine wlVal (opMove rfl) rfl ?_
      refine wlVal (opMove rfl) rfl ?_
      refine wlVal (opMove rfl) rfl ?_
      refine wlVal (opMove rfl) rfl ?_
      refine wlVal (opIncr rfl rfl (by omega)) rfl ?_
      refine wlVal (opSliceFromR slo54 rfl rfl (by have q := (ilt_of h5 hi); omega) (by have q := (ilt_of h5 hi); have q1 := hc11; have q3 := of_decide_eq_false h6; omega)) rfl ?_
      refine wlVal (opCallExt Try.func53 ext53b ext53n ext53x ext53f rfl (run_overlaps_sl hC.holds hv (hB.get (i := 0) rfl).1 (hB.get (i := 0) rfl).2.1 (by have q : cs8.length = cap2 * 33 := hl13; have q2 := hc11; have q3 := (ilt_of h5 hi); omega) slo54 rfl)) rfl ?_
      refine wlVal (opNot rfl) rfl ?_
      refine wlThen ?_
      refine wcCondT rfl ?_
      refine wcSeq ?_
      refine wcDrawT 8 fmix (by kernel_rfl) (by kernel_rfl) (by kernel_rfl) (by kernel_rfl) (vAt [(fun _ v_ => v_ = (.slice (some ⟨g7, 0, none⟩) (s.length + 1) cap2)), (fun _ v_ => v_ = (.int .i64 (((i : Nat) : Int)))), (fun _ v_ => v_ = (.int .i64 1)), (fun _ v_ => v_ = (.int .i64 (((i + 1 : Nat) : Int)))), (fun _ v_ => v_ = (.slice (some ⟨g7, 0 + (i + 1) * 33, none⟩) ((s.length + 1 - (i + 1))) ((cap2 - (i + 1))))), (fun _ v_ => v_ = (.slice (some ⟨g7, 0, none⟩) (s.length + 1) cap2)), (fun _ v_ => v_ = (.int .i64 (((i : Nat) : Int)))), (fun _ v_ => v_ = (.slice (some ⟨g7, 0 + i * 33, none⟩) ((s.length + 1 - i)) ((cap2 - i))))]) (fun _ _ G' w => Cx w0 G0 G' w ⟨((Option.toList (some (g7, 28, cs8))).map (·.1)), []⟩ ∧ Bxs G' w w0.heap.size [(g7, 28, cs8)] ⟨((Option.toList (some (g7, 28, cs8))).map (·.1)), []⟩ ∧ GLe G0 G') G0 (vAt_mono ⟨fun _ _ _ _ h => h, fun _ _ _ _ h => h, fun _ _ _ _ h => h, fun _ _ _ _ h => h, fun _ _ _ _ h => h, fun _ _ _ _ h => h, fun _ _ _ _ h => h, fun _ _ _ _ h => h, trivial⟩) (fun _ _ => ⟨hC.drew, hB.drew, fun _ _ h => h⟩) ?_ ?_
      · refine dsNone (j := 1) rfl ?_ ?_
        · intro done G w ac_ hd hp hn ⟨hC, hB, hg⟩ hM
          have f0 : ac_.tmps[0]? = some (.slice (some ⟨g7, 0, none⟩) (s.length + 1) cap2) := hM.old0 rfl rfl
          have hF : Fr 95 ac_ (Env.nil.put 0 (.slice (some ⟨g7, 0, none⟩) (s.length + 1) cap2)) := (hM.fr.add f0)
          exact OpVal.draw hF (opMove rfl) ⟨G, fun _ _ h => h, ⟨hC, hB, hg⟩, rfl⟩
        refine dsNone (j := 2) rfl ?_ ?_
        · intro done G w ac_ hd hp hn ⟨hC, hB, hg⟩ hM
          have f1 : ac_.tmps[1]? = some (.int .i64 (((i : Nat) : Int))) := hM.old0 rfl rfl
          have hF : Fr 95 ac_ (Env.nil.put 1 (.int .i64 (((i : Nat) : Int)))) := (hM.fr.add f1)
          exact OpVal.draw hF (opMove rfl) ⟨G, fun _ _ h => h, ⟨hC, hB, hg⟩, rfl⟩
        refine dsNone (j := 3) rfl ?_ ?_
        · intro done G w ac_ hd hp hn ⟨hC, hB, hg⟩ hM
          have f7 : ac_.tmps[7]? = some (.int .i64 1) := hM.old0 rfl rfl
          have hF : Fr 95 ac_ (Env.nil.put 7 (.int .i64 1)) := (hM.fr.add f7)
          exact OpVal.draw hF (opMove rfl) ⟨G, fun _ _ h => h, ⟨hC, hB, hg⟩, rfl⟩
        refine dsNone (j := 4) rfl ?_ ?_
        · intro done G w ac_ hd hp hn ⟨hC, hB, hg⟩ hM
          have f70 : ac_.tmps[70]? = some (.int .i64 (((i : Nat) : Int))) := hM.eqv 1 rfl (hp 1 rfl) rfl rfl
          have f71 : ac_.tmps[71]? = some (.int .i64 1) := hM.eqv 2 rfl (hp 2 rfl) rfl rfl
          have hF : Fr 95 ac_ ((Env.nil.put 70 (.int .i64 (((i : Nat) : Int)))).put 71 (.int .i64 1)) := ((hM.fr.add f70).add f71)
          exact OpVal.draw hF (opIncr rfl rfl (by omega)) ⟨G, fun _ _ h => h, ⟨hC, hB, hg⟩, rfl⟩
        refine dsNone (j := 5) rfl ?_ ?_
        · intro done G w ac_ hd hp hn ⟨hC, hB, hg⟩ hM
          have f69 : ac_.tmps[69]? = some (.slice (some ⟨g7, 0, none⟩) (s.length + 1) cap2) := hM.eqv 0 rfl (hp 0 rfl) rfl rfl
          have f72 : ac_.tmps[72]? = some (.int .i64 (((i + 1 : Nat) : Int))) := hM.eqv 3 rfl (hp 3 rfl) rfl rfl
          have hF : Fr 95 ac_ ((Env.nil.put 69 (.slice (some ⟨g7, 0, none⟩) (s.length + 1) cap2)).put 72 (.int .i64 (((i + 1 : Nat) : Int)))) := ((hM.fr.add f69).add f72)
          exact OpVal.draw hF (opSliceFromR slo54 rfl rfl (by have q := (ilt_of h5 hi); omega) (by have q := (ilt_of h5 hi); have q1 := hc11; have q3 := of_decide_eq_false h6; omega)) ⟨G, fun _ _ h => h, ⟨hC, hB, hg⟩, rfl⟩
        refine dsNone (j := 6) rfl ?_ ?_
        · intro done G w ac_ hd hp hn ⟨hC, hB, hg⟩ hM
          have f0 : ac_.tmps[0]? = some (.slice (some ⟨g7, 0, none⟩) (s.length + 1) cap2) := hM.old0 rfl rfl
          have hF : Fr 95 ac_ (Env.nil.put 0 (.slice (some ⟨g7, 0, none⟩) (s.length + 1) cap2)) := (hM.fr.add f0)
          exact OpVal.draw hF (opMove rfl) ⟨G, fun _ _ h => h, ⟨hC, hB, hg⟩, rfl⟩
        refine dsNone (j := 7) rfl ?_ ?_
        · intro done G w ac_ hd hp hn ⟨hC, hB, hg⟩ hM
          have f1 : ac_.tmps[1]? = some (.int .i64 (((i : Nat) : Int))) := hM.old0 rfl rfl
          have hF : Fr 95 ac_ (Env.nil.put 1 (.int .i64 (((i : Nat) : Int)))) := (hM.fr.add f1)
          exact OpVal.draw hF (opMove rfl) ⟨G, fun _ _ h => h, ⟨hC, hB, hg⟩, rfl⟩
        refine dsNone (j := 8) rfl ?_ ?_
        · intro done G w ac_ hd hp hn ⟨hC, hB, hg⟩ hM
          have f74 : ac_.tmps[74]? = some (.slice (some ⟨g7, 0, none⟩) (s.length + 1) cap2) := hM.eqv 5 rfl (hp 5 rfl) rfl rfl
          have f75 : ac_.tmps[75]? = some (.int .i64 (((i : Nat) : Int))) := hM.eqv 6 rfl (hp 6 rfl) rfl rfl
          have hF : Fr 95 ac_ ((Env.nil.put 74 (.slice (some ⟨g7, 0, none⟩) (s.length + 1) cap2)).put 75 (.int .i64 (((i : Nat) : Int)))) := ((hM.fr.add f74).add f75)
          exact OpVal.draw hF (opSliceFromR slo54 rfl rfl (by have q := (ilt_of h5 hi); omega) (by have q := (ilt_of h5 hi); have q1 := hc11; have q3 := of_decide_eq_false h6; omega)) ⟨G, fun _ _ h => h, ⟨hC, hB, hg⟩, rfl⟩
        exact dsNil
      · intro done G w ac_ hall htl ⟨hC, hB, hg⟩ hM
        replace hv := hv.mono hg
        replace hR10 := hR10.mono hg
        have f0 : ac_.tmps[0]? = some (.slice (some ⟨g7, 0, none⟩) (s.length + 1) cap2) := hM.old0 rfl rfl
        have f1 : ac_.tmps[1]? = some (.int .i64 (((i : Nat) : Int))) := hM.old0 rfl rfl
        have f2 : ac_.tmps[2]? = some (.slice A3 1 cap4) := hM.old0 rfl rfl
        have f73 : ac_.tmps[73]? = some (.slice (some ⟨g7, 0 + (i + 1) * 33, none⟩) ((s.length + 1 - (i + 1))) ((cap2 - (i + 1)))) := hM.eqv 4 rfl (hall 4 rfl) rfl rfl
        have f76 : ac_.tmps[76]? = some (.slice (some ⟨g7, 0 + i * 33, none⟩) ((s.length + 1 - i)) ((cap2 - i))) := hM.eqv 7 rfl (hall 7 rfl) rfl rfl
        refine ⟨(((((Env.nil.put 0 (.slice (some ⟨g7, 0, none⟩) (s.length + 1) cap2)).put 1 (.int .i64 (((i : Nat) : Int)))).put 2 (.slice A3 1 cap4)).put 73 (.slice (some ⟨g7, 0 + (i + 1) * 33, none⟩) ((s.length + 1 - (i + 1))) ((cap2 - (i + 1))))).put 76 (.slice (some ⟨g7, 0 + i * 33, none⟩) ((s.length + 1 - i)) ((cap2 - i)))), (((((hM.fr.add f0).add f1).add f2).add f73).add f76), ?_⟩
        clear hM hall htl
        have hf16 : 0 + (i + 1) * 33 + (((List.drop (0 + i * 33) cs8).take ((s.length - i) * 33))).length ≤ cs8.length := (by simp only [List.length_append, List.length_take, List.length_drop, Mark.length_cells]; have q : cs8.length = cap2 * 33 := hl13; have q2 := hc11; have q9 := (ilt_of h5 hi); have q5 := of_decide_eq_false h6; omega)
        refine wlCopyB (row := ((List.drop (0 + i * 33) cs8).take ((s.length - i) * 33))) 0 hC hB rfl rfl rfl slo54 (hB.range (i := 0) rfl rfl) (by have q : cs8.length = cap2 * 33 := hl13; have q2 := hc11; simp only [List.length_take, List.length_drop, Nat.min_def]; (repeat split) <;> omega) hf16 (raw_one hR10 ht14 (by show _ ≤ s.length * 33; omega)) rfl rfl ?_; intro w hC hB
        have cs15L := raw_len hf16
        generalize e17 : (List.take (0 + (i + 1) * 33) cs8 ++ ((List.drop (0 + i * 33) cs8).take ((s.length - i) * 33)) ++ List.drop (0 + (i + 1) * 33 + (((List.drop (0 + i * 33) cs8).take ((s.length - i) * 33))).length) cs8) = cs15 at hB cs15L
        replace hB : Bxs G w w0.heap.size [(g7, 28, cs15)] ⟨((Option.toList (some (g7, 28, cs8))).map (·.1)), []⟩ := hB
        refine wlThen ?_
        refine wcSeq ?_
        refine wcRegion ?_
        refine wlVal (opMove rfl) rfl ?_
        refine wlVal (opMove rfl) rfl ?_
        refine wlVal (opSliceFromR slo54 rfl rfl (by have q := (ilt_of h5 hi); omega) (by have q := (ilt_of h5 hi); have q1 := hc11; have q3 := of_decide_eq_false h6; omega)) rfl ?_
        refine wlVal (opMove rfl) rfl ?_
        obtain ⟨b18, o19, row20, hA21, hr22, hi23⟩ := hv.elem (k := 0) (x := z) rfl; subst hA21; obtain rfl := hi23
        have hf25 : 0 + i * 33 + z.cells.length ≤ cs15.length := (by simp only [List.length_append, List.length_take, List.length_drop, Mark.length_cells]; have q : cs8.length = cap2 * 33 := hl13; have q2 := hc11; have q9 := (ilt_of h5 hi); have q5 := of_decide_eq_false h6; have cs15Lq := cs15L; omega)
        refine wlCopyB (row := z.cells) 0 hC hB rfl rfl rfl slo54 (RowG.range hC.holds (by simpa using hr22)) (by show _ = min 1 ((s.length + 1 - i)) * 33; simp only [Mark.length_cells]; omega) hf25 (fun v hv => Rp.one (α := Mark) (G := G) (x := z) rfl v hv) rfl rfl ?_; intro w hC hB
        have cs24L := raw_len hf25
        generalize e26 : (List.take (0 + i * 33) cs15 ++ z.cells ++ List.drop (0 + i * 33 + z.cells.length) cs15) = cs24 at hB cs24L
        replace hB : Bxs G w w0.heap.size [(g7, 28, cs24)] ⟨((Option.toList (some (g7, 28, cs8))).map (·.1)), []⟩ := hB
        refine wlThen ?_
        refine wcSeq ?_
        refine wcRegion ?_
        refine wlVal (opMove rfl) rfl ?_
        refine wlVal (opAssign rfl) rfl ?_
        refine wlThen ?_
        refine wcRet ?_
        have hlaw := (ins_in (sz := 33) (cap := cap2) (fun q hq => (hR10.len q hq).1) hR10.length (by omega) (by have q := of_decide_eq_false h6; omega) hl13 ht14 (xc := z.cells) (Mark.length_cells z) (row := ((List.drop (0 + i * 33) cs8).take ((s.length - i) * 33))) rfl e17.symm)
        rw [e26] at hlaw
        have hRaw : Ow G (some (g7, 28, cs24)) 28 (.slice (some ⟨g7, 0, none⟩) (s.length + 1) cap2) (insA s i z) := Ow.ofRaw (rows := List.take i rows9 ++ [z.cells] ++ List.drop i rows9) (by rw [List.append_assoc]; unfold insA; exact ((hR10.take i).append (Rows2.append (rs := [z.cells]) (xs := [z]) ⟨rfl, trivial⟩ (hR10.drop i)))) (by unfold insA; simp; omega) (by have q := of_decide_eq_false h6; omega) hm12 (by rw [← e26, ← e17]; simp only [List.length_append, List.length_take, List.length_drop, Mark.length_cells]; have q := of_decide_eq_false h6; have q2 : cs8.length = cap2 * 33 := hl13; show _ = _ * 33; omega) (by rw [show s.length + 1 = s.length + 1 by omega]; exact hlaw)
        exact fun ac_ ha => hQ _ _ _ (results1 ha rfl rfl) ha.df (endP (bl := []) (o := some (g7, 28, cs24)) (r := []) hC hB ⟨_, _, (by rw [← hRaw.len]), (by rw [← hRaw.len]; exact hRaw)⟩)
    · skip
      refine wcCondT rfl ?_
      refine wcSeq ?_
      obtain ⟨g27, cs28, rfl, rfl⟩ := hs.addr (ilt_of h5 hi)
      obtain ⟨rows29, hR30, hc31, hm32, hl33, ht34⟩ := hs.raw
      replace hB : Bxs G0 w0 w0.heap.size [(g27, 28, cs28)] ⟨((Option.toList (some (g27, 28, cs28))).map (·.1)), []⟩ := by first | exact hB | exact (by simpa using hB)
      refine wcRegion ?_
      refine wlVal (opMove rfl) rfl ?_
      refine wlVal (opMove rfl) rfl ?_
      refine wlVal (opSliceTo slo54 rfl rfl (by have q := hc31; omega)) rfl ?_
      refine wlVal (opMove rfl) rfl ?_
      refine wlVal (opMove rfl) rfl ?_
      refine wlVal (opIncr rfl rfl (by omega)) rfl ?_
      refine wlVal (opMove rfl) rfl ?_
      refine wlVal (opSubN rfl rfl (by omega) (by omega)) rfl ?_
      refine wlAppendZ (row := ((List.drop (0) cs28).take (i * 33))) (k := (s.length + 1 - i)) elo54 ui3 hC hB rfl rfl (hB.range (i := 0) rfl rfl) (by have q : cs28.length = cap2 * 33 := hl33; have q2 := hc31; simp only [List.length_take, List.length_drop, Nat.min_def]; (repeat split) <;> omega) (raw_one hR30 ht34 (by show _ ≤ s.length * 33; omega)) (by have q := of_decide_eq_true h6; omega) (by omega) rfl (by omega) rfl rfl ?_; intro b35 c36 cs37 w hC hB hc38 hm39 hl40 ht41
      refine wlVal (opAssign rfl) rfl ?_
      refine wlThen ?_
      refine wcSeq ?_
      refine wcRegion ?_
      refine wlVal (opMove rfl) rfl ?_
      refine wlVal (opMove rfl) rfl ?_
      refine wlVal (opSliceFromR slo54 rfl rfl (by have q := (ilt_of h5 hi); omega) (by have q := (ilt_of h5 hi); have q1 := hc31; have q2 := hc38; omega)) rfl ?_
      refine wlVal (opMove rfl) rfl ?_
      obtain ⟨b42, o43, row44, hA45, hr46, hi47⟩ := hv.elem (k := 0) (x := z) rfl; subst hA45; obtain rfl := hi47
      have hf49 : 0 + i * 33 + z.cells.length ≤ cs37.length := (by simp only [List.length_append, List.length_take, List.length_drop, Mark.length_cells]; have q : cs28.length = cap2 * 33 := hl33; have q2 := hc31; have q9 := (ilt_of h5 hi); have q3 : cs37.length = c36 * 33 := hl40; have q4 := hc38; omega)
      refine wlCopyB (row := z.cells) 0 hC hB rfl rfl rfl slo54 (RowG.range hC.holds (by simpa using hr46)) (by show _ = min 1 (((i + ((s.length + 1 - i))) - i)) * 33; simp only [Mark.length_cells]; omega) hf49 (fun v hv => Rp.one (α := Mark) (G := G0) (x := z) rfl v hv) rfl rfl ?_; intro w hC hB
      have cs48L := raw_len hf49
      generalize e50 : (List.take (0 + i * 33) cs37 ++ z.cells ++ List.drop (0 + i * 33 + z.cells.length) cs37) = cs48 at hB cs48L
      replace hB : Bxs G0 w w0.heap.size [(b35, 28, cs48), (g27, 28, cs28)] ⟨((Option.toList (some (g27, 28, cs28))).map (·.1)), []⟩ := hB
      refine wlThen ?_
      refine wcSeq ?_
      refine wcDrawT 8 fmix (by kernel_rfl) (by kernel_rfl) (by kernel_rfl) (by kernel_rfl) (vAt [(fun _ v_ => v_ = (.slice (some ⟨b35, 0, none⟩) ((i + ((s.length + 1 - i)))) c36)), (fun _ v_ => v_ = (.int .i64 (((i : Nat) : Int)))), (fun _ v_ => v_ = (.int .i64 1)), (fun _ v_ => v_ = (.int .i64 (((i + 1 : Nat) : Int)))), (fun _ v_ => v_ = (.slice (some ⟨b35, 0 + (i + 1) * 33, none⟩) (((i + ((s.length + 1 - i))) - (i + 1))) ((c36 - (i + 1))))), (fun _ v_ => v_ = (.slice (some ⟨g27, 0, none⟩) s.length cap2)), (fun _ v_ => v_ = (.int .i64 (((i : Nat) : Int)))), (fun _ v_ => v_ = (.slice (some ⟨g27, 0 + i * 33, none⟩) ((s.length - i)) ((cap2 - i))))]) (fun _ _ G' w => Cx w0 G0 G' w ⟨((Option.toList (some (g27, 28, cs28))).map (·.1)), []⟩ ∧ Bxs G' w w0.heap.size [(b35, 28, cs48), (g27, 28, cs28)] ⟨((Option.toList (some (g27, 28, cs28))).map (·.1)), []⟩ ∧ GLe G0 G') G0 (vAt_mono ⟨fun _ _ _ _ h => h, fun _ _ _ _ h => h, fun _ _ _ _ h => h, fun _ _ _ _ h => h, fun _ _ _ _ h => h, fun _ _ _ _ h => h, fun _ _ _ _ h => h, fun _ _ _ _ h => h, trivial⟩) (fun _ _ => ⟨hC.drew, hB.drew, fun _ _ h => h⟩) ?_ ?_
      · refine dsNone (j := 1) rfl ?_ ?_
        · intro done G w ac_ hd hp hn ⟨hC, hB, hg⟩ hM
          have f9 : ac_.tmps[9]? = some (.slice (some ⟨b35, 0, none⟩) ((i + ((s.length + 1 - i)))) c36) := hM.old0 rfl rfl
          have hF : Fr 95 ac_ (Env.nil.put 9 (.slice (some ⟨b35, 0, none⟩) ((i + ((s.length + 1 - i)))) c36)) := (hM.fr.add f9)
          exact OpVal.draw hF (opMove rfl) ⟨G, fun _ _ h => h, ⟨hC, hB, hg⟩, rfl⟩
        refine dsNone (j := 2) rfl ?_ ?_
        · intro done G w ac_ hd hp hn ⟨hC, hB, hg⟩ hM
          have f1 : ac_.tmps[1]? = some (.int .i64 (((i : Nat) : Int))) := hM.old0 rfl rfl
          have hF : Fr 95 ac_ (Env.nil.put 1 (.int .i64 (((i : Nat) : Int)))) := (hM.fr.add f1)
          exact OpVal.draw hF (opMove rfl) ⟨G, fun _ _ h => h, ⟨hC, hB, hg⟩, rfl⟩
        refine dsNone (j := 3) rfl ?_ ?_
        · intro done G w ac_ hd hp hn ⟨hC, hB, hg⟩ hM
          have f7 : ac_.tmps[7]? = some (.int .i64 1) := hM.old0 rfl rfl
          have hF : Fr 95 ac_ (Env.nil.put 7 (.int .i64 1)) := (hM.fr.add f7)
          exact OpVal.draw hF (opMove rfl) ⟨G, fun _ _ h => h, ⟨hC, hB, hg⟩, rfl⟩
        refine dsNone (j := 4) rfl ?_ ?_
        · intro done G w ac_ hd hp hn ⟨hC, hB, hg⟩ hM
          have f47 : ac_.tmps[47]? = some (.int .i64 (((i : Nat) : Int))) := hM.eqv 1 rfl (hp 1 rfl) rfl rfl
          have f48 : ac_.tmps[48]? = some (.int .i64 1) := hM.eqv 2 rfl (hp 2 rfl) rfl rfl
          have hF : Fr 95 ac_ ((Env.nil.put 47 (.int .i64 (((i : Nat) : Int)))).put 48 (.int .i64 1)) := ((hM.fr.add f47).add f48)
          exact OpVal.draw hF (opIncr rfl rfl (by omega)) ⟨G, fun _ _ h => h, ⟨hC, hB, hg⟩, rfl⟩
        refine dsNone (j := 5) rfl ?_ ?_
        · intro done G w ac_ hd hp hn ⟨hC, hB, hg⟩ hM
          have f46 : ac_.tmps[46]? = some (.slice (some ⟨b35, 0, none⟩) ((i + ((s.length + 1 - i)))) c36) := hM.eqv 0 rfl (hp 0 rfl) rfl rfl
          have f49 : ac_.tmps[49]? = some (.int .i64 (((i + 1 : Nat) : Int))) := hM.eqv 3 rfl (hp 3 rfl) rfl rfl
          have hF : Fr 95 ac_ ((Env.nil.put 46 (.slice (some ⟨b35, 0, none⟩) ((i + ((s.length + 1 - i)))) c36)).put 49 (.int .i64 (((i + 1 : Nat) : Int)))) := ((hM.fr.add f46).add f49)
          exact OpVal.draw hF (opSliceFromR slo54 rfl rfl (by have q := (ilt_of h5 hi); omega) (by have q := (ilt_of h5 hi); have q1 := hc31; have q2 := hc38; omega)) ⟨G, fun _ _ h => h, ⟨hC, hB, hg⟩, rfl⟩
        refine dsNone (j := 6) rfl ?_ ?_
        · intro done G w ac_ hd hp hn ⟨hC, hB, hg⟩ hM
          have f0 : ac_.tmps[0]? = some (.slice (some ⟨g27, 0, none⟩) s.length cap2) := hM.old0 rfl rfl
          have hF : Fr 95 ac_ (Env.nil.put 0 (.slice (some ⟨g27, 0, none⟩) s.length cap2)) := (hM.fr.add f0)
          exact OpVal.draw hF (opMove rfl) ⟨G, fun _ _ h => h, ⟨hC, hB, hg⟩, rfl⟩
        refine dsNone (j := 7) rfl ?_ ?_
        · intro done G w ac_ hd hp hn ⟨hC, hB, hg⟩ hM
          have f1 : ac_.tmps[1]? = some (.int .i64 (((i : Nat) : Int))) := hM.old0 rfl rfl
          have hF : Fr 95 ac_ (Env.nil.put 1 (.int .i64 (((i : Nat) : Int)))) := (hM.fr.add f1)
          exact OpVal.draw hF (opMove rfl) ⟨G, fun _ _ h => h, ⟨hC, hB, hg⟩, rfl⟩
        refine dsNone (j := 8) rfl ?_ ?_
        · intro done G w ac_ hd hp hn ⟨hC, hB, hg⟩ hM
          have f51 : ac_.tmps[51]? = some (.slice (some ⟨g27, 0, none⟩) s.length cap2) := hM.eqv 5 rfl (hp 5 rfl) rfl rfl
          have f52 : ac_.tmps[52]? = some (.int .i64 (((i : Nat) : Int))) := hM.eqv 6 rfl (hp 6 rfl) rfl rfl
          have hF : Fr 95 ac_ ((Env.nil.put 51 (.slice (some ⟨g27, 0, none⟩) s.length cap2)).put 52 (.int .i64 (((i : Nat) : Int)))) := ((hM.fr.add f51).add f52)
          exact OpVal.draw hF (opSliceFromR slo54 rfl rfl (by have q := (ilt_of h5 hi); omega) (by have q := (ilt_of h5 hi); have q1 := hc31; omega)) ⟨G, fun _ _ h => h, ⟨hC, hB, hg⟩, rfl⟩
        exact dsNil
      · intro done G w ac_ hall htl ⟨hC, hB, hg⟩ hM
        replace hv := hv.mono hg
        replace hR30 := hR30.mono hg
        have f9 : ac_.tmps[9]? = some (.slice (some ⟨b35, 0, none⟩) ((i + ((s.length + 1 - i)))) c36) := hM.old0 rfl rfl
        have f50 : ac_.tmps[50]? = some (.slice (some ⟨b35, 0 + (i + 1) * 33, none⟩) (((i + ((s.length + 1 - i))) - (i + 1))) ((c36 - (i + 1)))) := hM.eqv 4 rfl (hall 4 rfl) rfl rfl
        have f53 : ac_.tmps[53]? = some (.slice (some ⟨g27, 0 + i * 33, none⟩) ((s.length - i)) ((cap2 - i))) := hM.eqv 7 rfl (hall 7 rfl) rfl rfl
        refine ⟨(((Env.nil.put 9 (.slice (some ⟨b35, 0, none⟩) ((i + ((s.length + 1 - i)))) c36)).put 50 (.slice (some ⟨b35, 0 + (i + 1) * 33, none⟩) (((i + ((s.length + 1 - i))) - (i + 1))) ((c36 - (i + 1))))).put 53 (.slice (some ⟨g27, 0 + i * 33, none⟩) ((s.length - i)) ((cap2 - i)))), (((hM.fr.add f9).add f50).add f53), ?_⟩
        clear hM hall htl
        have hf52 : 0 + (i + 1) * 33 + (((List.drop (0 + i * 33) cs28).take ((s.length - i) * 33))).length ≤ cs48.length := (by simp only [List.length_append, List.length_take, List.length_drop, Mark.length_cells]; have q : cs28.length = cap2 * 33 := hl33; have q2 := hc31; have q9 := (ilt_of h5 hi); have q3 : cs37.length = c36 * 33 := hl40; have q4 := hc38; have cs48Lq := cs48L; omega)
        refine wlCopyB (row := ((List.drop (0 + i * 33) cs28).take ((s.length - i) * 33))) 0 hC hB rfl rfl rfl slo54 (hB.range (i := 1) rfl rfl) (by have q : cs28.length = cap2 * 33 := hl33; have q2 := hc31; simp only [List.length_take, List.length_drop, Nat.min_def]; (repeat split) <;> omega) hf52 (raw_one hR30 ht34 (by show _ ≤ s.length * 33; omega)) rfl rfl ?_; intro w hC hB
        have cs51L := raw_len hf52
        generalize e53 : (List.take (0 + (i + 1) * 33) cs48 ++ ((List.drop (0 + i * 33) cs28).take ((s.length - i) * 33)) ++ List.drop (0 + (i + 1) * 33 + (((List.drop (0 + i * 33) cs28).take ((s.length - i) * 33))).length) cs48) = cs51 at hB cs51L
        replace hB : Bxs G w w0.heap.size [(b35, 28, cs51), (g27, 28, cs28)] ⟨((Option.toList (some (g27, 28, cs28))).map (·.1)), []⟩ := hB
        refine wlThen ?_
        refine wcSeq ?_
        refine wcRegion ?_
        refine wlVal (opMove rfl) rfl ?_
        refine wlVal (opAssign rfl) rfl ?_
        refine wlThen ?_
        refine wcRet ?_
        have hlaw := (ins_new (sz := 33) (cap2 := c36) (fun q hq => (hR30.len q hq).1) hR30.length (by omega) (by have q := hc38; omega) hl40 ht34 (xc := z.cells) (Mark.length_cells z) ht41 (row := ((List.drop (0 + i * 33) cs28).take ((s.length - i) * 33))) rfl e50.symm)
        rw [e53] at hlaw
        have hRaw : Ow G (some (b35, 28, cs51)) 28 (.slice (some ⟨b35, 0, none⟩) ((i + ((s.length + 1 - i)))) c36) (insA s i z) := Ow.ofRaw (rows := List.take i rows29 ++ [z.cells] ++ List.drop i rows29) (by rw [List.append_assoc]; unfold insA; exact ((hR30.take i).append (Rows2.append (rs := [z.cells]) (xs := [z]) ⟨rfl, trivial⟩ (hR30.drop i)))) (by unfold insA; simp; omega) (by have q := hc38; omega) hm39 (by rw [← e53, ← e50]; simp only [List.length_append, List.length_take, List.length_drop, Mark.length_cells]; have q := hc38; have q2 : cs37.length = c36 * 33 := hl40; have q3 : cs28.length = cap2 * 33 := hl33; have q4 := hc31; show _ = _ * 33; omega) (by rw [show (i + ((s.length + 1 - i))) = s.length + 1 by omega]; exact hlaw)
        exact fun ac_ ha => hQ _ _ _ (results1 ha rfl rfl) ha.df (endP (bl := []) (o := some (b35, 28, cs51)) (r := [(g27, 28, cs28)]) hC hB ⟨_, _, (by rw [← hRaw.len]), (by rw [← hRaw.len]; exact hRaw)⟩)
  · skip
    refine wcCondT rfl ?_
    refine wcSeq ?_
    refine wcRegion ?_
    refine wlVal (opMove rfl) rfl ?_
    refine wlVal (opMove rfl) rfl ?_
    refine wlAppend (α := Mark) (bl := []) (o := os) (r := []) elo54 hC hB rfl rfl hs hv (by simp; omega) rfl rfl ?_; intro A54 cap55 o56 w hC hB hO57
    refine wlVal (opAssign rfl) rfl ?_
    refine wlThen ?_
    refine wcRet ?_
    exact fun ac_ ha => hQ _ _ _ (results1 ha rfl rfl) ha.df (endP (bl := []) (o := o56) (r := []) hC hB (by have q : insA s i z = (s ++ [z]) := insA_end h5; rw [q]; exact ⟨_, _, rfl, hO57⟩))

end Go.Proofs.Ytbmanooiphghmaa
