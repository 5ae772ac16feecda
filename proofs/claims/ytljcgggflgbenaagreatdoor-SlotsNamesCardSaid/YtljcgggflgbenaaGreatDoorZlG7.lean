/- What functions of the slots seat return, part 7. No condition. -/
import Derived.Test.YtljcgggflgbenaaGreatDoorZlG6
set_option linter.all false
namespace Go.Proofs.YtljcgggflgbenaaGreatDoor
open Go Go.Gx Go.RowKit
def ltPrev (p : Option Stand) (a : Stand) : Bool := match p with | none => false | some q => decide (a.seq < q.seq)
def runOf (p : Option Stand) (run : List Stand) (a : Stand) : List Stand := match p with | none => [] | some q => bif decide (q.seq < a.seq) then [] else run
def badPrev (p : Option Stand) (a : Stand) : Bool := match p with | none => false | some q => !decide (q.seq < a.seq) && !aheadB q a
def pRestG (m : RfS) : Option Stand → List Stand → Bool
  | _, [] => true
  | p, a :: r => bif !inR m a.seq || lePrev p a || !viewB a.view then false else pRestG m (some a) r
def qRestG (m : RfS) : Option Stand → List Stand → List Stand → Bool
  | _, _, [] => true
  | p, run, a :: r => bif !inR m a.seq || !viewB a.view || ltPrev p a then false else bif badPrev p a then false else bif decide ((4 : Int) < (((runOf p run a).length + 1 : Nat) : Int)) then false else
    bif (runOf p run a).any (fun y => decide (y.dig = a.dig)) then false else qRestG m (some a) (runOf p run a ++ [a]) r
def runL (l : List Stand) (k s : Nat) : List Stand := (l.take k).drop (k - s)
theorem runL_zero {l : List Stand} {k : Nat} : runL l k 0 = [] := by unfold runL; exact List.drop_eq_nil_of_le (by rw [List.length_take]; omega)
theorem runL_new {l : List Stand} {k s : Nat} {a : Stand} (hs : s ≤ k) (ha : l[k]? = some a) : runL l (k + 1) (s + 1) = runL l k s ++ [a] := by
  unfold runL
  have hl := (List.getElem?_eq_some_iff.1 ha).1
  rw [show k + 1 - (s + 1) = k - s from by omega, List.take_add_one, ha, List.drop_append_of_le_length (by rw [List.length_take]; omega)]; rfl
theorem runL_len {l : List Stand} {k s : Nat} (hs : s ≤ k) (hk : k ≤ l.length) : (runL l k s).length = s := by unfold runL; rw [List.length_drop, List.length_take]; omega
theorem subw {k s : Nat} (hs : s ≤ k) (hk : k < 4611686018427387904) : IntKind.wrap .i64 (IntKind.wrap .i64 (((k : Nat) : Int) - ((s + 1 : Nat) : Int)) + 1) = ((k - s : Nat) : Int) := by
  have e1 : IntKind.wrap .i64 (((k : Nat) : Int) - ((s + 1 : Nat) : Int)) = ((k : Nat) : Int) - ((s + 1 : Nat) : Int) := IntWalk.i64_in _ (by omega)
  rw [e1, IntWalk.i64_in _ (by omega)]; omega
theorem subw0 {k : Nat} (hk : k < 4611686018427387904) : IntKind.wrap .i64 (IntKind.wrap .i64 (((k : Nat) : Int) - 1) + 1) = ((k : Nat) : Int) := by
  have e1 : IntKind.wrap .i64 (((k : Nat) : Int) - 1) = ((k : Nat) : Int) - 1 := IntWalk.i64_in _ (by omega)
  rw [e1, IntWalk.i64_in _ (by omega)]; omega
theorem subw1 {k : Nat} (h0 : 0 < k) (hk : k < 4611686018427387904) : IntKind.wrap .i64 (((k - 1 : Nat) : Int) + 1) = ((k : Nat) : Int) := by
  rw [IntWalk.i64_in _ (by omega)]; omega
theorem run_cons {l : List Stand} {k k2 : Nat} {x : Stand} (h : k2 < k) (hx : l[k2]? = some x) : (l.take k).drop k2 = x :: (l.take k).drop (k2 + 1) := by
  have hl := (List.getElem?_eq_some_iff.1 hx).1
  have h1 : k2 < (l.take k).length := by rw [List.length_take]; omega
  rw [List.drop_eq_getElem_cons h1, List.getElem_take, (List.getElem?_eq_some_iff.1 hx).2]
theorem run_step {l : List Stand} {k k2 : Nat} {x : Stand} {D : Stand → Bool} {b : Bool} (hJ : ((l.take k).drop k2).any D = b) (h : k2 < k) (hx : l[k2]? = some x) (hd : D x = false) : ((l.take k).drop (k2 + 1)).any D = b := by
  rw [run_cons h hx] at hJ; simpa [hd] using hJ
theorem run_hit {l : List Stand} {k k2 : Nat} {x : Stand} {D : Stand → Bool} {b : Bool} (hJ : ((l.take k).drop k2).any D = b) (h : k2 < k) (hx : l[k2]? = some x) (hd : D x = true) : b = true := by
  rw [run_cons h hx] at hJ; rw [← hJ]; simp [hd]
theorem run_end {l : List Stand} {k k2 : Nat} {D : Stand → Bool} {b : Bool} (hJ : ((l.take k).drop k2).any D = b) (h : k ≤ k2) : b = false := by
  rw [← hJ, List.drop_eq_nil_of_le (by rw [List.length_take]; omega)]; rfl
theorem four1 : decide ((4 : Int) < (((0 + 1 : Nat)) : Int)) = false := by decide
theorem restores_ret (G0 : Gh) (w0 : World) (hw : Holds G0 w0) (bm : Nat) (Om : List (Nat × Obj)) (m : RfS) (hOm : HasL G0 Om) (hm : RfO G0 bm Om m) (vpl : Value) (pl : List Stand) (hpl : Sl G0 vpl pl) (vql : Value) (ql : List Stand) (hql : Sl G0 vql ql) (hps : ∀ x ∈ pl, I6 x.seq) (hqs : ∀ x ∈ ql, I6 x.seq) :
  RetS Tryz.prog 75 #[.pointer (some ⟨bm, 0, none⟩), vpl, vql] G0 w0 (.bool ((pRestG m none pl && qRestG m none [] ql))) := by
 have hC := Cx.refl hw
 have hB : Bxs G0 w0 w0.heap.size [] := Bxs.nil _ _ _
 obtain ⟨OKm, v2, v3, hb4, hn5, hl6⟩ := hm.look hOm
 obtain ⟨A8, cap9, rfl⟩ := hn5.form
 obtain ⟨A10, cap11, rfl⟩ := hl6.form
 have hF7 := hb4.row
 obtain ⟨A12, cap13, rfl⟩ := hpl.form
 obtain ⟨A14, cap15, rfl⟩ := hql.form
 refine callsOf Tryz.func75 rfl _ Tryz.ntmps75 rfl _ (argsCons (argsCons (argsCons argsNil (t := 0) rfl) (t := 1) rfl) (t := 2) rfl) ?_; intro Q0 hQ
 refine wcSeq <| wcRegion <| A_ rfl ?_
 refine wlThen (wcSeq (wcSeq (wcRegion ?_)))
 refine A_ rfl <| wlThen <| wcBlock ?_
 refine WC.sub (wrInd (ι := Nat) (fun k => pl.length - k) (fun k G w => Cx w0 G0 G w ∧ Bxs G w w0.heap.size [] ∧ Sl G (.slice A8 m.crew.nodes.length cap9) m.crew.nodes ∧ Sl G (.slice A10 m.l.length cap11) m.l ∧ HasL G Om ∧ RfO G bm Om m ∧ Sl G (.slice A12 pl.length cap13) pl ∧ Sl G (.slice A14 ql.length cap15) ql ∧ RowG G bm 0 [(.int .i64 m.crew.faults), (.slice A8 m.crew.nodes.length cap9), (.int .i64 m.self), (.int .i64 m.low), (.slice A10 m.l.length cap11)] ∧ pRestG m (prevQ pl k) (pl.drop k) = pRestG m none pl) (fun k => ((((Env.nil.put 0 (.pointer (some ⟨bm, 0, none⟩))).put 1 (.slice A12 pl.length cap13)).put 2 (.slice A14 ql.length cap15)).put 7 (.int .i64 (((k : Nat) : Int))))) ?_ (0) _ _ ⟨hC, hB, hn5, hl6, hOm, hm, hpl, hql, hF7, rfl⟩) (fun _ ha => ((((ha.start.c ha 0 rfl).c ha 1 rfl).c ha 2 rfl).c ha 7 rfl))
 rintro k G w N0 IH0 ⟨hC, hB, hn5, hl6, hOm, hm, hpl, hql, hF7, hI0⟩
 refine wcSeq (wcSeq (wcRegion ?_))
 refine M_ rfl <| M_ rfl <| V_ (opLen rfl isl38) <| V_ (opLssN rfl rfl) <| wlThen ?_
 cases h16 : decide (k < pl.length)
 ·
  refine wcCondF rfl <| wcExit <| wcOf <| wcSeq <| wcRegion <| A_ rfl ?_
  refine wlThen (wcSeq (wcSeq (wcRegion ?_)))
  refine A_ rfl <| wlThen <| wcBlock ?_
  refine WC.sub (wrInd (ι := Nat × Nat) (fun i => match i with | (kq, sm) => ql.length - kq) (fun i G w => match i with | (kq, sm) => Cx w0 G0 G w ∧ Bxs G w w0.heap.size [] ∧ Sl G (.slice A8 m.crew.nodes.length cap9) m.crew.nodes ∧ Sl G (.slice A10 m.l.length cap11) m.l ∧ HasL G Om ∧ RfO G bm Om m ∧ Sl G (.slice A12 pl.length cap13) pl ∧ Sl G (.slice A14 ql.length cap15) ql ∧ RowG G bm 0 [(.int .i64 m.crew.faults), (.slice A8 m.crew.nodes.length cap9), (.int .i64 m.self), (.int .i64 m.low), (.slice A10 m.l.length cap11)] ∧ sm ≤ kq ∧ qRestG m (prevQ ql kq) (runL ql kq sm) (ql.drop kq) = qRestG m none [] ql) (fun i => match i with | (kq, sm) => ((((Env.nil.put 0 (.pointer (some ⟨bm, 0, none⟩))).put 2 (.slice A14 ql.length cap15)).put 8 (.int .i64 (((sm : Nat) : Int)))).put 9 (.int .i64 (((kq : Nat) : Int))))) ?_ (0, 0) _ _ ⟨hC, hB, hn5, hl6, hOm, hm, hpl, hql, hF7, (Nat.le_refl _), rfl⟩) (fun _ ha => ((((ha.start.c ha 0 rfl).c ha 2 rfl).c ha 8 rfl).c ha 9 rfl))
  rintro ⟨kq, sm⟩ G w N1 IH1 ⟨hC, hB, hn5, hl6, hOm, hm, hpl, hql, hF7, hsk, hI⟩
  refine wcSeq (wcSeq (wcRegion ?_))
  refine M_ rfl <| M_ rfl <| V_ (opLen rfl isl38) <| V_ (opLssN rfl rfl) <| wlThen ?_
  cases h17 : decide (kq < ql.length)
  ·
   refine wcCondF rfl <| wcExit <| wcOf <| wcSeq <| wcRegion <| A_ rfl <| wlThen <| wcRet ?_
   exact r1_ hQ rfl rfl (endS hC hw (by have e0 := hI0; have e1 := hI; rw [List.drop_eq_nil_of_le (Nat.le_of_not_lt (of_decide_eq_false h16))] at e0; rw [List.drop_eq_nil_of_le (Nat.le_of_not_lt (of_decide_eq_false h17))] at e1; simp only [pRestG] at e0; simp only [qRestG] at e1; rw [← e0, ← e1]; rfl))
  ·
   refine wcCondT rfl <| wcSkip <| wcOf <| wcSeq ?_
   refine wcBlock (wcSeq (wcSeq ?_))
   refine wcDrawS 35 [0, 0, 0, 6, 14, 30, 63, 127, 255, 511, 511, 2047, 4095, 8191, 16383, 32767, 65535, 131071, 262143, 524287, 1048575, 2097151, 2097151, 8388607, 16777215, 33554431, 2097151, 2097151, 136314879, 471859199, 1008730111, 2082471935, 4294967295, 8589934591, 17179869183] fmix (by kernel_rfl) (by kernel_rfl) rfl hC hB ?_; intro w hC hB
   refine D_ 0 rfl rfl (fun _ => opMove rfl) <| D_ 1 rfl rfl (fun _ => opMove rfl) <| D_ 2 rfl rfl (fun _ => opMove rfl) ?_
   obtain ⟨x18, hx19⟩ : ∃ y_, ql[kq]? = some y_ := ⟨_, List.getElem?_eq_getElem (of_decide_eq_true h17)⟩
   obtain ⟨b20, o21, row22, hA25, hr23, hi24⟩ := hql.elem hx19; subst hA25
   obtain rfl := hi24
   refine D_ 3 rfl rfl (fun _ => (opIndexAddr rfl rfl slo38 (of_decide_eq_true h17))) <| D_ 4 rfl rfl (fun _ => (opFieldAddr rfl fo44_0)) <| E_ 5 rfl rfl (opLoadOne (v := (.int .i64 x18.seq)) rfl (RowG.cell0 hC.holds hr23 (by simp [cl_])) one3) ?_
   refine wdAll [6] (by kernel_rfl) rfl ⟨wd1 rfl ?_, trivial⟩
   intro hGd
   refine wlCallS hC hB rfl co69 rfl rfl (inR_ret _ _ hC.holds bm Om m hOm hm x18.seq) ?_; intro w hk hC hB
   refine wdNext hGd rfl (kpDrop rfl kpNil) (Tk.nil _) ?_
   refine D_ 7 rfl rfl (fun _ => opNot rfl) <| D_ 8 rfl rfl (fun _ => opMove rfl) ?_
   cases h26 : ((inR m x18.seq))
   ·
    refine O_ 9 rfl rfl rfl rfl rfl <| O_ 10 rfl rfl rfl rfl rfl <| O_ 11 rfl rfl rfl rfl rfl <| O_ 12 rfl rfl rfl rfl rfl <| O_ 13 rfl rfl rfl rfl rfl <| O_ 14 rfl rfl rfl rfl rfl <| O_ 15 rfl rfl rfl rfl rfl <| D_ 16 rfl rfl (fun _ => opPickT rfl rfl) <| D_ 17 rfl rfl (fun _ => opMove rfl) <| O_ 18 rfl rfl rfl rfl rfl <| O_ 19 rfl rfl rfl rfl rfl <| O_ 20 rfl rfl rfl rfl rfl <| OU_ 21 rfl rfl rfl rfl <| OU_ 22 rfl rfl rfl rfl <| OU_ 23 rfl rfl rfl rfl <| OU_ 24 rfl rfl rfl rfl <| OU_ 25 rfl rfl rfl rfl <| OU_ 26 rfl rfl rfl rfl <| OU_ 27 rfl rfl rfl rfl <| OU_ 28 rfl rfl rfl rfl ?_
    refine OU_ 29 rfl rfl rfl rfl <| OU_ 30 rfl rfl rfl rfl <| OU_ 31 rfl rfl rfl rfl <| OU_ 32 rfl rfl rfl rfl <| O_ 33 rfl rfl rfl rfl rfl <| D_ 34 rfl rfl (fun _ => opPickT rfl rfl) <| wdDone (by kernel_rfl) <| wcOf <| wcCondT rfl <| wcSeq <| wcRegion <| A_ rfl <| wlThen <| wcRet ?_
    exact r1_ hQ rfl rfl (endS hC hw (by have e0 := hI0; rw [List.drop_eq_nil_of_le (Nat.le_of_not_lt (of_decide_eq_false h16))] at e0; simp only [pRestG] at e0; rw [← e0, ← hI, drop_get hx19]; simp only [qRestG, h16, h17, h26, runL_len hsk (Nat.le_of_lt (of_decide_eq_true h17)), four1, lePrev, ltPrev, badPrev, runOf, List.length_nil, List.any_nil, List.nil_append, ta_]))
   ·
    refine DG_ 9 rfl rfl rfl rfl (fun _ => opMove rfl) <| DG_ 10 rfl rfl rfl rfl (fun _ => opMove rfl) <| DG_ 11 rfl rfl rfl rfl (fun _ => (opIndexAddr rfl rfl slo38 (of_decide_eq_true h17))) <| DG_ 12 rfl rfl rfl rfl (fun _ => (opFieldAddr rfl fo44_2)) <| EG_ 13 rfl rfl rfl rfl (opLoadOne (v := (.int .i64 x18.view)) rfl (RowG.cell hC.holds hr23 (j := 33) (by simp [cl_])) one3) ?_
    refine wdAll [14] (by kernel_rfl) rfl ⟨wd1 rfl ?_, trivial⟩
    intro hGd
    refine wlOn rfl rfl ?_
    refine wlCallS hC hB rfl co68 rfl rfl (rviewMay_ret _ _ hC.holds x18.view) ?_; intro w hk hC hB
    refine wdNext hGd rfl (kpDrop rfl kpNil) (Tk.nil _) ?_
    refine DG_ 15 rfl rfl rfl rfl (fun _ => opNot rfl) <| D_ 16 rfl rfl (fun _ => opPickF rfl rfl) <| D_ 17 rfl rfl (fun _ => opMove rfl) ?_
    cases h27 : (viewB x18.view)
    ·
     refine O_ 18 rfl rfl rfl rfl rfl <| O_ 19 rfl rfl rfl rfl rfl <| O_ 20 rfl rfl rfl rfl rfl <| OU_ 21 rfl rfl rfl rfl <| OU_ 22 rfl rfl rfl rfl <| OU_ 23 rfl rfl rfl rfl <| OU_ 24 rfl rfl rfl rfl <| OU_ 25 rfl rfl rfl rfl <| OU_ 26 rfl rfl rfl rfl <| OU_ 27 rfl rfl rfl rfl <| OU_ 28 rfl rfl rfl rfl <| OU_ 29 rfl rfl rfl rfl <| OU_ 30 rfl rfl rfl rfl <| OU_ 31 rfl rfl rfl rfl <| OU_ 32 rfl rfl rfl rfl <| O_ 33 rfl rfl rfl rfl rfl <| D_ 34 rfl rfl (fun _ => opPickT rfl rfl) <| wdDone (by kernel_rfl) <| wcOf <| wcCondT rfl ?_
     refine wcSeq <| wcRegion <| A_ rfl <| wlThen <| wcRet ?_
     exact r1_ hQ rfl rfl (endS hC hw (by have e0 := hI0; rw [List.drop_eq_nil_of_le (Nat.le_of_not_lt (of_decide_eq_false h16))] at e0; simp only [pRestG] at e0; rw [← e0, ← hI, drop_get hx19]; simp only [qRestG, h16, h17, h26, h27, runL_len hsk (Nat.le_of_lt (of_decide_eq_true h17)), four1, lePrev, ltPrev, badPrev, runOf, List.length_nil, List.any_nil, List.nil_append, ta_]))
    ·
     refine DG_ 18 rfl rfl rfl rfl (fun _ => opMove rfl) <| DG_ 19 rfl rfl rfl rfl (fun _ => opGtr rfl rfl) <| DG_ 20 rfl rfl rfl rfl (fun _ => opMove rfl) ?_
     cases h28 : decide (0 < ((kq : Nat) : Int))
     ·
      refine O_ 21 rfl rfl rfl rfl rfl <| O_ 22 rfl rfl rfl rfl rfl <| O_ 23 rfl rfl rfl rfl rfl <| O_ 24 rfl rfl rfl rfl rfl <| O_ 25 rfl rfl rfl rfl rfl <| O_ 26 rfl rfl rfl rfl rfl <| O_ 27 rfl rfl rfl rfl rfl <| O_ 28 rfl rfl rfl rfl rfl <| O_ 29 rfl rfl rfl rfl rfl <| O_ 30 rfl rfl rfl rfl rfl <| O_ 31 rfl rfl rfl rfl rfl <| O_ 32 rfl rfl rfl rfl rfl <| DG_ 33 rfl rfl rfl rfl (fun _ => opPickF rfl rfl) <| D_ 34 rfl rfl (fun _ => opPickF rfl rfl) <| wdDone (by kernel_rfl) <| wcOf <| wcCondF rfl <| wcSkip <| wcOf <| wcSeq <| wcSeq ?_
      refine wcDrawS 16 [0, 1, 3, 7, 7, 31, 63, 127, 7, 7, 519, 1799, 3847, 7943, 16383, 32767] fmix (by kernel_rfl) (by kernel_rfl) rfl hC hB ?_; intro w hC hB
      refine D_ 0 rfl rfl (fun _ => opMove rfl) <| D_ 1 rfl rfl (fun _ => opEql rfl rfl) <| D_ 2 rfl rfl (fun _ => opMove rfl) ?_
      cases h29 : (((kq : Nat) : Int)) == 0
      ·
       exact (by have q := of_decide_eq_false h28; have q2 := ne_of_beq_false h29; omega : False).elim
      ·
       refine O_ 3 rfl rfl rfl rfl rfl <| O_ 4 rfl rfl rfl rfl rfl <| O_ 5 rfl rfl rfl rfl rfl <| O_ 6 rfl rfl rfl rfl rfl <| O_ 7 rfl rfl rfl rfl rfl <| O_ 8 rfl rfl rfl rfl rfl <| O_ 9 rfl rfl rfl rfl rfl <| O_ 10 rfl rfl rfl rfl rfl <| O_ 11 rfl rfl rfl rfl rfl <| O_ 12 rfl rfl rfl rfl rfl <| O_ 13 rfl rfl rfl rfl rfl <| O_ 14 rfl rfl rfl rfl rfl <| D_ 15 rfl rfl (fun _ => opPickT rfl rfl) <| wdDone (by kernel_rfl) <| wcOf <| wcCondT rfl <| wcRegion <| A_ rfl ?_
       refine wlThen (wcSeq (wcRegion ?_))
       refine M_ rfl <| V_ (OpVal.cast (v' := .int .i64 1) (opAdd rfl rfl) (congrArg (Value.int .i64) (by decide))) <| A_ rfl ?_
       refine wlThen (wcSeq (wcSeq (wcRegion ?_)))
       refine M_ rfl <| V_ (opGtr rfl rfl) <| wlThen <| wcCondF rfl <| wcSkip <| wcOf <| wcSeq <| wcRegion <| M_ rfl <| M_ rfl <| V_ (opSub rfl rfl) <| V_ (OpVal.cast (v' := .int .i64 (((kq) : Nat) : Int)) (opAdd rfl rfl) (congrArg (Value.int .i64) (subw0 (by have q := (of_decide_eq_true h17); have q2 := hql.le; unfold maxL at q2; omega)))) <| A_ rfl <| wlThen <| wcBlock ?_
       refine WC.sub (wrInd (ι := Nat) (fun k2 => kq - k2) (fun k2 G w => Cx w0 G0 G w ∧ Bxs G w w0.heap.size [] ∧ Sl G (.slice A8 m.crew.nodes.length cap9) m.crew.nodes ∧ Sl G (.slice A10 m.l.length cap11) m.l ∧ HasL G Om ∧ RfO G bm Om m ∧ Sl G (.slice A12 pl.length cap13) pl ∧ Sl G (.slice (some ⟨b20, o21, none⟩) ql.length cap15) ql ∧ RowG G b20 (o21 + kq * 34) x18.cells ∧ RowG G bm 0 [(.int .i64 m.crew.faults), (.slice A8 m.crew.nodes.length cap9), (.int .i64 m.self), (.int .i64 m.low), (.slice A10 m.l.length cap11)] ∧ k2 ≤ kq ∧ ((ql.take kq).drop k2).any (fun y => decide (y.dig = x18.dig)) = (runL ql kq 0).any (fun y => decide (y.dig = x18.dig))) (fun k2 => (((((Env.nil.put 0 (.pointer (some ⟨bm, 0, none⟩))).put 2 (.slice (some ⟨b20, o21, none⟩) ql.length cap15)).put 8 (.int .i64 1)).put 9 (.int .i64 (((kq : Nat) : Int)))).put 10 (.int .i64 (((k2 : Nat) : Int))))) ?_ (kq) _ _ ⟨hC, hB, hn5, hl6, hOm, hm, hpl, hql, hr23, hF7, (by omega), rfl⟩) (fun _ ha => (((((ha.start.c ha 0 rfl).c ha 2 rfl).c ha 8 rfl).c ha 9 rfl).c ha 10 rfl))
       rintro k2 G w N2 IH2 ⟨hC, hB, hn5, hl6, hOm, hm, hpl, hql, hr23, hF7, hk2, hJ⟩
       refine wcSeq (wcSeq (wcRegion ?_))
       refine M_ rfl <| M_ rfl <| V_ (opLssN rfl rfl) <| wlThen ?_
       cases h30 : decide (k2 < kq)
       ·
        refine wcCondF rfl <| wcExit <| wcOf <| wcRegion <| M_ rfl <| V_ (opIncr rfl rfl (incr_ok (of_decide_eq_true h17) hql.le)) <| A_ rfl <| wlRound ?_
        exact (IH1 (kq + 1, 1) _ _ ⟨hC, hB, hn5, hl6, hOm, hm, hpl, hql, hF7, (by omega), (by rw [← hI, drop_get hx19]; simp only [qRestG, h16, h17, h26, h27, h28, h29, h30, prevQ_zero h28, runL_len hsk (Nat.le_of_lt (of_decide_eq_true h17)), run_end hJ (Nat.le_of_not_lt (of_decide_eq_false h30)), prevQ_succ hx19, runL_new (Nat.zero_le _) hx19, runL_zero, four1, lePrev, ltPrev, badPrev, runOf, List.length_nil, List.any_nil, List.nil_append, ta_])⟩ (by have := of_decide_eq_true h17; simp; omega)).sub (fun _ ha => ((((ha.start.c ha 0 rfl).c ha 2 rfl).c ha 8 rfl).c ha 9 rfl))
       ·
        refine wcCondT rfl <| wcSkip <| wcOf <| wcSeq <| wcBlock <| wcSeq ?_
        refine wcDrawS 11 [0, 0, 3, 7, 15, 0, 0, 96, 224, 480, 1023] fmix (by kernel_rfl) (by kernel_rfl) rfl hC hB ?_; intro w hC hB
        refine D_ 0 rfl rfl (fun _ => opMove rfl) <| D_ 1 rfl rfl (fun _ => opMove rfl) ?_
        obtain ⟨x31, hx32⟩ : ∃ y_, ql[k2]? = some y_ := ⟨_, List.getElem?_eq_getElem (by have q := (of_decide_eq_true h17); have q2 := of_decide_eq_true h30; omega)⟩
        obtain ⟨row35, hr36, hi37⟩ := Sl.elem' hql hx32
        obtain rfl := hi37
        refine D_ 2 rfl rfl (fun _ => (opIndexAddr rfl rfl slo38 (by have q := (of_decide_eq_true h17); have q2 := of_decide_eq_true h30; omega))) <| D_ 3 rfl rfl (fun _ => (opFieldAddr rfl fo44_1)) <| E_ 4 rfl rfl (opLoadRow (cs := x31.dig.cells) rfl (RowG.range hC.holds (hr36.part (i := 1) (m := 32) (by simp [cl_]))) row37 (by simp [cl_])) <| D_ 5 rfl rfl (fun _ => opMove rfl) <| D_ 6 rfl rfl (fun _ => opMove rfl) <| D_ 7 rfl rfl (fun _ => (opIndexAddr rfl rfl slo38 (of_decide_eq_true h17))) <| D_ 8 rfl rfl (fun _ => (opFieldAddr rfl fo44_1)) <| E_ 9 rfl rfl (opLoadRow (cs := x18.dig.cells) rfl (RowG.range hC.holds (hr23.part (i := 1) (m := 32) (by simp [cl_]))) row37 (by simp [cl_])) <| D_ 10 rfl rfl (fun _ => (opEqRow (eq37 _ x31.dig x18.dig) eg37 rfl rfl)) <| wdDone (by kernel_rfl) <| wcOf ?_
        cases h39 : decide (x31.dig = x18.dig)
        ·
         refine wcCondF rfl <| wcSkip <| wcOf <| wcRegion <| M_ rfl <| V_ (opIncr rfl rfl (by have q := of_decide_eq_true h30; have q1 := (of_decide_eq_true h17); have q2 := hql.le; unfold maxL at q2; omega)) <| A_ rfl <| wlRound ?_
         exact (IH2 (k2 + 1) _ _ ⟨hC, hB, hn5, hl6, hOm, hm, hpl, hql, hr23, hF7, (of_decide_eq_true h30), (run_step hJ (of_decide_eq_true h30) hx32 h39)⟩ (by have q := of_decide_eq_true h30; show kq - (k2 + 1) < kq - k2; omega)).sub (fun _ ha => (((((ha.start.c ha 0 rfl).c ha 2 rfl).c ha 8 rfl).c ha 9 rfl).c ha 10 rfl))
        ·
         refine wcCondT rfl <| wcSeq <| wcRegion <| A_ rfl <| wlThen <| wcRet ?_
         exact r1_ hQ rfl rfl (endS hC hw (by have q := run_hit hJ (of_decide_eq_true h30) hx32 h39; rw [runL_zero] at q; cases q))
     ·
      refine DG_ 21 rfl rfl rfl rfl (fun _ => opMove rfl) <| DG_ 22 rfl rfl rfl rfl (fun _ => opMove rfl) <| DG_ 23 rfl rfl rfl rfl (fun _ => (opIndexAddr rfl rfl slo38 (of_decide_eq_true h17))) <| DG_ 24 rfl rfl rfl rfl (fun _ => (opFieldAddr rfl fo44_0)) <| EG_ 25 rfl rfl rfl rfl (opLoadOne (v := (.int .i64 x18.seq)) rfl (RowG.cell0 hC.holds hr23 (by simp [cl_])) one3) <| DG_ 26 rfl rfl rfl rfl (fun _ => opMove rfl) <| DG_ 27 rfl rfl rfl rfl (fun _ => opMove rfl) <| DG_ 28 rfl rfl rfl rfl (fun _ => (opDecr rfl rfl (Int.ofNat_lt.1 (of_decide_eq_true h28)) (incr_ok (of_decide_eq_true h17) hql.le))) ?_
      obtain ⟨x40, hx41⟩ : ∃ y_, ql[(kq - 1)]? = some y_ := ⟨_, List.getElem?_eq_getElem (by have q := (of_decide_eq_true h17); omega)⟩
      obtain ⟨row44, hr45, hi46⟩ := Sl.elem' hql hx41
      obtain rfl := hi46
      refine DG_ 29 rfl rfl rfl rfl (fun _ => (opIndexAddr rfl rfl slo38 (by have q := (of_decide_eq_true h17); omega))) <| DG_ 30 rfl rfl rfl rfl (fun _ => (opFieldAddr rfl fo44_0)) <| EG_ 31 rfl rfl rfl rfl (opLoadOne (v := (.int .i64 x40.seq)) rfl (RowG.cell0 hC.holds hr45 (by simp [cl_])) one3) <| DG_ 32 rfl rfl rfl rfl (fun _ => opLss rfl rfl) <| DG_ 33 rfl rfl rfl rfl (fun _ => opPickT rfl rfl) <| D_ 34 rfl rfl (fun _ => opPickF rfl rfl) <| wdDone (by kernel_rfl) <| wcOf ?_
      cases h48 : decide (x18.seq < x40.seq)
      ·
       refine wcCondF rfl <| wcSkip <| wcOf <| wcSeq <| wcSeq ?_
       refine wcDrawS 16 [0, 1, 3, 7, 7, 31, 63, 127, 7, 7, 519, 1799, 3847, 7943, 16383, 32767] fmix (by kernel_rfl) (by kernel_rfl) rfl hC hB ?_; intro w hC hB
       refine D_ 0 rfl rfl (fun _ => opMove rfl) <| D_ 1 rfl rfl (fun _ => opEql rfl rfl) <| D_ 2 rfl rfl (fun _ => opMove rfl) ?_
       cases h49 : (((kq : Nat) : Int)) == 0
       ·
        refine DG_ 3 rfl rfl rfl rfl (fun _ => opMove rfl) <| DG_ 4 rfl rfl rfl rfl (fun _ => opMove rfl) <| DG_ 5 rfl rfl rfl rfl (fun _ => (opIndexAddr rfl rfl slo38 (of_decide_eq_true h17))) <| DG_ 6 rfl rfl rfl rfl (fun _ => (opFieldAddr rfl fo44_0)) <| EG_ 7 rfl rfl rfl rfl (opLoadOne (v := (.int .i64 x18.seq)) rfl (RowG.cell0 hC.holds hr23 (by simp [cl_])) one3) <| DG_ 8 rfl rfl rfl rfl (fun _ => opMove rfl) <| DG_ 9 rfl rfl rfl rfl (fun _ => opMove rfl) <| DG_ 10 rfl rfl rfl rfl (fun _ => (opDecr rfl rfl (Int.ofNat_lt.1 (of_decide_eq_true h28)) (incr_ok (of_decide_eq_true h17) hql.le))) <| DG_ 11 rfl rfl rfl rfl (fun _ => (opIndexAddr rfl rfl slo38 (by have q := (of_decide_eq_true h17); omega))) <| DG_ 12 rfl rfl rfl rfl (fun _ => (opFieldAddr rfl fo44_0)) <| EG_ 13 rfl rfl rfl rfl (opLoadOne (v := (.int .i64 x40.seq)) rfl (RowG.cell0 hC.holds hr45 (by simp [cl_])) one3) <| DG_ 14 rfl rfl rfl rfl (fun _ => opGtr rfl rfl) <| D_ 15 rfl rfl (fun _ => opPickF rfl rfl) <| wdDone (by kernel_rfl) <| wcOf ?_
        cases h50 : decide (x40.seq < x18.seq)
        ·
         refine wcCondF rfl <| wcSeq ?_
         refine wcDrawS 11 [0, 0, 2, 7, 15, 0, 0, 96, 224, 511, 1023] fmix (by kernel_rfl) (by kernel_rfl) rfl hC hB ?_; intro w hC hB
         refine D_ 0 rfl rfl (fun _ => opMove rfl) <| D_ 1 rfl rfl (fun _ => opMove rfl) <| D_ 2 rfl rfl (fun _ => (opDecr rfl rfl (Int.ofNat_lt.1 (of_decide_eq_true h28)) (incr_ok (of_decide_eq_true h17) hql.le))) <| D_ 3 rfl rfl (fun _ => (opIndexAddr rfl rfl slo38 (by have q := (of_decide_eq_true h17); omega))) <| E_ 4 rfl rfl (opLoadRow (cs := x40.cells) rfl (RowG.range hC.holds hr45) row44 (by simp [cl_])) <| D_ 5 rfl rfl (fun _ => opMove rfl) <| D_ 6 rfl rfl (fun _ => opMove rfl) <| D_ 7 rfl rfl (fun _ => (opIndexAddr rfl rfl slo38 (of_decide_eq_true h17))) <| E_ 8 rfl rfl (opLoadRow (cs := x18.cells) rfl (RowG.range hC.holds hr23) row44 (by simp [cl_])) ?_
         refine wdAll [9] (by kernel_rfl) rfl ⟨wd1 rfl ?_, trivial⟩
         intro hGd
         refine wlCallS hC hB rfl co88 rfl rfl (ahead_ret _ _ hC.holds x40 x18) ?_; intro w hk hC hB
         refine wdNext hGd rfl (kpDrop rfl (kpDrop rfl kpNil)) (Tk.nil _) ?_
         refine D_ 10 rfl rfl (fun _ => opNot rfl) <| wdDone (by kernel_rfl) <| wcOf ?_
         cases h51 : ((aheadB x40 x18))
         ·
          refine wcCondT rfl <| wcSeq <| wcRegion <| A_ rfl <| wlThen <| wcRet ?_
          exact r1_ hQ rfl rfl (endS hC hw (by have e0 := hI0; rw [List.drop_eq_nil_of_le (Nat.le_of_not_lt (of_decide_eq_false h16))] at e0; simp only [pRestG] at e0; rw [← e0, ← hI, drop_get hx19]; simp only [qRestG, h16, h17, h26, h27, h28, h48, h49, h50, h51, prevQ_of h28 hx41, runL_len hsk (Nat.le_of_lt (of_decide_eq_true h17)), four1, lePrev, ltPrev, badPrev, runOf, List.length_nil, List.any_nil, List.nil_append, ta_]))
         ·
          refine wcCondF rfl <| wcSkip <| wcOf <| wcSeq <| wcRegion <| M_ rfl <| V_ (opIncr rfl rfl (by have q1 := (of_decide_eq_true h17); have q2 := hql.le; unfold maxL at q2; omega)) <| A_ rfl ?_
          refine wlThen (wcSeq (wcSeq (wcRegion ?_)))
          refine M_ rfl <| V_ (opGtr rfl rfl) <| wlThen ?_
          cases h52 : decide (4 < ((sm + 1 : Nat) : Int))
          ·
           refine wcCondF rfl <| wcSkip <| wcOf <| wcSeq <| wcRegion <| M_ rfl <| M_ rfl <| V_ (opSub rfl rfl) <| V_ (OpVal.cast (v' := .int .i64 (((kq - sm) : Nat) : Int)) (opAdd rfl rfl) (congrArg (Value.int .i64) (subw hsk (by have q := (of_decide_eq_true h17); have q2 := hql.le; unfold maxL at q2; omega)))) <| A_ rfl <| wlThen <| wcBlock ?_
           refine WC.sub (wrInd (ι := Nat) (fun k2 => kq - k2) (fun k2 G w => Cx w0 G0 G w ∧ Bxs G w w0.heap.size [] ∧ Sl G (.slice A8 m.crew.nodes.length cap9) m.crew.nodes ∧ Sl G (.slice A10 m.l.length cap11) m.l ∧ HasL G Om ∧ RfO G bm Om m ∧ Sl G (.slice A12 pl.length cap13) pl ∧ Sl G (.slice (some ⟨b20, o21, none⟩) ql.length cap15) ql ∧ RowG G b20 (o21 + kq * 34) x18.cells ∧ RowG G b20 (o21 + ((kq - 1)) * 34) x40.cells ∧ RowG G bm 0 [(.int .i64 m.crew.faults), (.slice A8 m.crew.nodes.length cap9), (.int .i64 m.self), (.int .i64 m.low), (.slice A10 m.l.length cap11)] ∧ k2 ≤ kq ∧ ((ql.take kq).drop k2).any (fun y => decide (y.dig = x18.dig)) = (runL ql kq sm).any (fun y => decide (y.dig = x18.dig))) (fun k2 => (((((Env.nil.put 0 (.pointer (some ⟨bm, 0, none⟩))).put 2 (.slice (some ⟨b20, o21, none⟩) ql.length cap15)).put 8 (.int .i64 (((sm + 1 : Nat) : Int)))).put 9 (.int .i64 (((kq : Nat) : Int)))).put 10 (.int .i64 (((k2 : Nat) : Int))))) ?_ (kq - sm) _ _ ⟨hC, hB, hn5, hl6, hOm, hm, hpl, hql, hr23, hr45, hF7, (by omega), rfl⟩) (fun _ ha => (((((ha.start.c ha 0 rfl).c ha 2 rfl).c ha 8 rfl).c ha 9 rfl).c ha 10 rfl))
           rintro k2 G w N2 IH2 ⟨hC, hB, hn5, hl6, hOm, hm, hpl, hql, hr23, hr45, hF7, hk2, hJ⟩
           refine wcSeq (wcSeq (wcRegion ?_))
           refine M_ rfl <| M_ rfl <| V_ (opLssN rfl rfl) <| wlThen ?_
           cases h53 : decide (k2 < kq)
           ·
            refine wcCondF rfl <| wcExit <| wcOf <| wcRegion <| M_ rfl <| V_ (opIncr rfl rfl (incr_ok (of_decide_eq_true h17) hql.le)) <| A_ rfl <| wlRound ?_
            exact (IH1 (kq + 1, sm + 1) _ _ ⟨hC, hB, hn5, hl6, hOm, hm, hpl, hql, hF7, (by omega), (by rw [← hI, drop_get hx19]; simp only [qRestG, h16, h17, h26, h27, h28, h48, h49, h50, h51, h52, h53, prevQ_of h28 hx41, runL_len hsk (Nat.le_of_lt (of_decide_eq_true h17)), run_end hJ (Nat.le_of_not_lt (of_decide_eq_false h53)), prevQ_succ hx19, runL_new hsk hx19, runL_zero, four1, lePrev, ltPrev, badPrev, runOf, List.length_nil, List.any_nil, List.nil_append, ta_])⟩ (by have := of_decide_eq_true h17; have := of_decide_eq_true h28; simp; omega)).sub (fun _ ha => ((((ha.start.c ha 0 rfl).c ha 2 rfl).c ha 8 rfl).c ha 9 rfl))
           ·
            refine wcCondT rfl <| wcSkip <| wcOf <| wcSeq <| wcBlock <| wcSeq ?_
            refine wcDrawS 11 [0, 0, 3, 7, 15, 0, 0, 96, 224, 480, 1023] fmix (by kernel_rfl) (by kernel_rfl) rfl hC hB ?_; intro w hC hB
            refine D_ 0 rfl rfl (fun _ => opMove rfl) <| D_ 1 rfl rfl (fun _ => opMove rfl) ?_
            obtain ⟨x54, hx55⟩ : ∃ y_, ql[k2]? = some y_ := ⟨_, List.getElem?_eq_getElem (by have q := (of_decide_eq_true h17); have q2 := of_decide_eq_true h53; omega)⟩
            obtain ⟨row58, hr59, hi60⟩ := Sl.elem' hql hx55
            obtain rfl := hi60
            refine D_ 2 rfl rfl (fun _ => (opIndexAddr rfl rfl slo38 (by have q := (of_decide_eq_true h17); have q2 := of_decide_eq_true h53; omega))) <| D_ 3 rfl rfl (fun _ => (opFieldAddr rfl fo44_1)) <| E_ 4 rfl rfl (opLoadRow (cs := x54.dig.cells) rfl (RowG.range hC.holds (hr59.part (i := 1) (m := 32) (by simp [cl_]))) row37 (by simp [cl_])) <| D_ 5 rfl rfl (fun _ => opMove rfl) <| D_ 6 rfl rfl (fun _ => opMove rfl) <| D_ 7 rfl rfl (fun _ => (opIndexAddr rfl rfl slo38 (of_decide_eq_true h17))) <| D_ 8 rfl rfl (fun _ => (opFieldAddr rfl fo44_1)) <| E_ 9 rfl rfl (opLoadRow (cs := x18.dig.cells) rfl (RowG.range hC.holds (hr23.part (i := 1) (m := 32) (by simp [cl_]))) row37 (by simp [cl_])) <| D_ 10 rfl rfl (fun _ => (opEqRow (eq37 _ x54.dig x18.dig) eg37 rfl rfl)) <| wdDone (by kernel_rfl) <| wcOf ?_
            cases h62 : decide (x54.dig = x18.dig)
            ·
             refine wcCondF rfl <| wcSkip <| wcOf <| wcRegion <| M_ rfl <| V_ (opIncr rfl rfl (by have q := of_decide_eq_true h53; have q1 := (of_decide_eq_true h17); have q2 := hql.le; unfold maxL at q2; omega)) <| A_ rfl <| wlRound ?_
             exact (IH2 (k2 + 1) _ _ ⟨hC, hB, hn5, hl6, hOm, hm, hpl, hql, hr23, hr45, hF7, (of_decide_eq_true h53), (run_step hJ (of_decide_eq_true h53) hx55 h62)⟩ (by have q := of_decide_eq_true h53; show kq - (k2 + 1) < kq - k2; omega)).sub (fun _ ha => (((((ha.start.c ha 0 rfl).c ha 2 rfl).c ha 8 rfl).c ha 9 rfl).c ha 10 rfl))
            ·
             refine wcCondT rfl <| wcSeq <| wcRegion <| A_ rfl <| wlThen <| wcRet ?_
             exact r1_ hQ rfl rfl (endS hC hw (by have e0 := hI0; rw [List.drop_eq_nil_of_le (Nat.le_of_not_lt (of_decide_eq_false h16))] at e0; simp only [pRestG] at e0; rw [← e0, ← hI, drop_get hx19]; simp only [qRestG, h16, h17, h26, h27, h28, h48, h49, h50, h51, h52, h53, h62, prevQ_of h28 hx41, runL_len hsk (Nat.le_of_lt (of_decide_eq_true h17)), run_hit hJ (of_decide_eq_true h53) hx55 h62, four1, lePrev, ltPrev, badPrev, runOf, List.length_nil, List.any_nil, List.nil_append, ta_]))
          ·
           refine wcCondT rfl <| wcSeq <| wcRegion <| A_ rfl <| wlThen <| wcRet ?_
           exact r1_ hQ rfl rfl (endS hC hw (by have e0 := hI0; rw [List.drop_eq_nil_of_le (Nat.le_of_not_lt (of_decide_eq_false h16))] at e0; simp only [pRestG] at e0; rw [← e0, ← hI, drop_get hx19]; simp only [qRestG, h16, h17, h26, h27, h28, h48, h49, h50, h51, h52, prevQ_of h28 hx41, runL_len hsk (Nat.le_of_lt (of_decide_eq_true h17)), four1, lePrev, ltPrev, badPrev, runOf, List.length_nil, List.any_nil, List.nil_append, ta_]))
        ·
         refine wcCondT rfl <| wcRegion <| A_ rfl ?_
         refine wlThen (wcSeq (wcRegion ?_))
         refine M_ rfl <| V_ (OpVal.cast (v' := .int .i64 1) (opAdd rfl rfl) (congrArg (Value.int .i64) (by decide))) <| A_ rfl ?_
         refine wlThen (wcSeq (wcSeq (wcRegion ?_)))
         refine M_ rfl <| V_ (opGtr rfl rfl) <| wlThen <| wcCondF rfl <| wcSkip <| wcOf <| wcSeq <| wcRegion <| M_ rfl <| M_ rfl <| V_ (opDecr rfl rfl (Int.ofNat_lt.1 (of_decide_eq_true h28)) (incr_ok (of_decide_eq_true h17) hql.le)) <| V_ (OpVal.cast (v' := .int .i64 (((kq) : Nat) : Int)) (opAdd rfl rfl) (congrArg (Value.int .i64) (subw1 (Int.ofNat_lt.1 (of_decide_eq_true h28)) (by have q := (of_decide_eq_true h17); have q2 := hql.le; unfold maxL at q2; omega)))) <| A_ rfl <| wlThen <| wcBlock ?_
         refine WC.sub (wrInd (ι := Nat) (fun k2 => kq - k2) (fun k2 G w => Cx w0 G0 G w ∧ Bxs G w w0.heap.size [] ∧ Sl G (.slice A8 m.crew.nodes.length cap9) m.crew.nodes ∧ Sl G (.slice A10 m.l.length cap11) m.l ∧ HasL G Om ∧ RfO G bm Om m ∧ Sl G (.slice A12 pl.length cap13) pl ∧ Sl G (.slice (some ⟨b20, o21, none⟩) ql.length cap15) ql ∧ RowG G b20 (o21 + kq * 34) x18.cells ∧ RowG G b20 (o21 + ((kq - 1)) * 34) x40.cells ∧ RowG G bm 0 [(.int .i64 m.crew.faults), (.slice A8 m.crew.nodes.length cap9), (.int .i64 m.self), (.int .i64 m.low), (.slice A10 m.l.length cap11)] ∧ k2 ≤ kq ∧ ((ql.take kq).drop k2).any (fun y => decide (y.dig = x18.dig)) = (runL ql kq 0).any (fun y => decide (y.dig = x18.dig))) (fun k2 => (((((Env.nil.put 0 (.pointer (some ⟨bm, 0, none⟩))).put 2 (.slice (some ⟨b20, o21, none⟩) ql.length cap15)).put 8 (.int .i64 1)).put 9 (.int .i64 (((kq : Nat) : Int)))).put 10 (.int .i64 (((k2 : Nat) : Int))))) ?_ (kq) _ _ ⟨hC, hB, hn5, hl6, hOm, hm, hpl, hql, hr23, hr45, hF7, (by omega), rfl⟩) (fun _ ha => (((((ha.start.c ha 0 rfl).c ha 2 rfl).c ha 8 rfl).c ha 9 rfl).c ha 10 rfl))
         rintro k2 G w N2 IH2 ⟨hC, hB, hn5, hl6, hOm, hm, hpl, hql, hr23, hr45, hF7, hk2, hJ⟩
         refine wcSeq (wcSeq (wcRegion ?_))
         refine M_ rfl <| M_ rfl <| V_ (opLssN rfl rfl) <| wlThen ?_
         cases h63 : decide (k2 < kq)
         ·
          refine wcCondF rfl <| wcExit <| wcOf <| wcRegion <| M_ rfl <| V_ (opIncr rfl rfl (incr_ok (of_decide_eq_true h17) hql.le)) <| A_ rfl <| wlRound ?_
          exact (IH1 (kq + 1, 1) _ _ ⟨hC, hB, hn5, hl6, hOm, hm, hpl, hql, hF7, (by omega), (by rw [← hI, drop_get hx19]; simp only [qRestG, h16, h17, h26, h27, h28, h48, h49, h50, h63, prevQ_of h28 hx41, runL_len hsk (Nat.le_of_lt (of_decide_eq_true h17)), run_end hJ (Nat.le_of_not_lt (of_decide_eq_false h63)), prevQ_succ hx19, runL_new (Nat.zero_le _) hx19, runL_zero, four1, lePrev, ltPrev, badPrev, runOf, List.length_nil, List.any_nil, List.nil_append, ta_])⟩ (by have := of_decide_eq_true h17; have := of_decide_eq_true h28; have := of_decide_eq_true h50; simp; omega)).sub (fun _ ha => ((((ha.start.c ha 0 rfl).c ha 2 rfl).c ha 8 rfl).c ha 9 rfl))
         ·
          refine wcCondT rfl <| wcSkip <| wcOf <| wcSeq <| wcBlock <| wcSeq ?_
          refine wcDrawS 11 [0, 0, 3, 7, 15, 0, 0, 96, 224, 480, 1023] fmix (by kernel_rfl) (by kernel_rfl) rfl hC hB ?_; intro w hC hB
          refine D_ 0 rfl rfl (fun _ => opMove rfl) <| D_ 1 rfl rfl (fun _ => opMove rfl) ?_
          obtain ⟨x64, hx65⟩ : ∃ y_, ql[k2]? = some y_ := ⟨_, List.getElem?_eq_getElem (by have q := (of_decide_eq_true h17); have q2 := of_decide_eq_true h63; omega)⟩
          obtain ⟨row68, hr69, hi70⟩ := Sl.elem' hql hx65
          obtain rfl := hi70
          refine D_ 2 rfl rfl (fun _ => (opIndexAddr rfl rfl slo38 (by have q := (of_decide_eq_true h17); have q2 := of_decide_eq_true h63; omega))) <| D_ 3 rfl rfl (fun _ => (opFieldAddr rfl fo44_1)) <| E_ 4 rfl rfl (opLoadRow (cs := x64.dig.cells) rfl (RowG.range hC.holds (hr69.part (i := 1) (m := 32) (by simp [cl_]))) row37 (by simp [cl_])) <| D_ 5 rfl rfl (fun _ => opMove rfl) <| D_ 6 rfl rfl (fun _ => opMove rfl) <| D_ 7 rfl rfl (fun _ => (opIndexAddr rfl rfl slo38 (of_decide_eq_true h17))) <| D_ 8 rfl rfl (fun _ => (opFieldAddr rfl fo44_1)) <| E_ 9 rfl rfl (opLoadRow (cs := x18.dig.cells) rfl (RowG.range hC.holds (hr23.part (i := 1) (m := 32) (by simp [cl_]))) row37 (by simp [cl_])) <| D_ 10 rfl rfl (fun _ => (opEqRow (eq37 _ x64.dig x18.dig) eg37 rfl rfl)) <| wdDone (by kernel_rfl) <| wcOf ?_
          cases h72 : decide (x64.dig = x18.dig)
          ·
           refine wcCondF rfl <| wcSkip <| wcOf <| wcRegion <| M_ rfl <| V_ (opIncr rfl rfl (by have q := of_decide_eq_true h63; have q1 := (of_decide_eq_true h17); have q2 := hql.le; unfold maxL at q2; omega)) <| A_ rfl <| wlRound ?_
           exact (IH2 (k2 + 1) _ _ ⟨hC, hB, hn5, hl6, hOm, hm, hpl, hql, hr23, hr45, hF7, (of_decide_eq_true h63), (run_step hJ (of_decide_eq_true h63) hx65 h72)⟩ (by have q := of_decide_eq_true h63; show kq - (k2 + 1) < kq - k2; omega)).sub (fun _ ha => (((((ha.start.c ha 0 rfl).c ha 2 rfl).c ha 8 rfl).c ha 9 rfl).c ha 10 rfl))
          ·
           refine wcCondT rfl <| wcSeq <| wcRegion <| A_ rfl <| wlThen <| wcRet ?_
           exact r1_ hQ rfl rfl (endS hC hw (by have q := run_hit hJ (of_decide_eq_true h63) hx65 h72; rw [runL_zero] at q; cases q))
       ·
        exact (by have q := of_decide_eq_true h28; have q2 := eq_of_beq h49; omega : False).elim
      ·
       refine wcCondT rfl <| wcSeq <| wcRegion <| A_ rfl <| wlThen <| wcRet ?_
       exact r1_ hQ rfl rfl (endS hC hw (by have e0 := hI0; rw [List.drop_eq_nil_of_le (Nat.le_of_not_lt (of_decide_eq_false h16))] at e0; simp only [pRestG] at e0; rw [← e0, ← hI, drop_get hx19]; simp only [qRestG, h16, h17, h26, h27, h28, h48, prevQ_of h28 hx41, runL_len hsk (Nat.le_of_lt (of_decide_eq_true h17)), four1, lePrev, ltPrev, badPrev, runOf, List.length_nil, List.any_nil, List.nil_append, ta_]))
 ·
  refine wcCondT rfl <| wcSkip <| wcOf <| wcSeq <| wcBlock <| wcSeq ?_
  refine wcDrawS 35 [0, 0, 0, 6, 14, 30, 63, 127, 255, 511, 1023, 2047, 4095, 4095, 16383, 32767, 65535, 4095, 4095, 266239, 921599, 1970175, 4067327, 8388607, 16777215, 33554431, 67108863, 134217727, 134217727, 536870911, 1073741823, 2147483647, 4294967295, 8589934591, 17179869183] fmix (by kernel_rfl) (by kernel_rfl) rfl hC hB ?_; intro w hC hB
  refine D_ 0 rfl rfl (fun _ => opMove rfl) <| D_ 1 rfl rfl (fun _ => opMove rfl) <| D_ 2 rfl rfl (fun _ => opMove rfl) ?_
  obtain ⟨x73, hx74⟩ : ∃ y_, pl[k]? = some y_ := ⟨_, List.getElem?_eq_getElem (of_decide_eq_true h16)⟩
  obtain ⟨b75, o76, row77, hA80, hr78, hi79⟩ := hpl.elem hx74; subst hA80
  obtain rfl := hi79
  refine D_ 3 rfl rfl (fun _ => (opIndexAddr rfl rfl slo38 (of_decide_eq_true h16))) <| D_ 4 rfl rfl (fun _ => (opFieldAddr rfl fo44_0)) <| E_ 5 rfl rfl (opLoadOne (v := (.int .i64 x73.seq)) rfl (RowG.cell0 hC.holds hr78 (by simp [cl_])) one3) ?_
  refine wdAll [6] (by kernel_rfl) rfl ⟨wd1 rfl ?_, trivial⟩
  intro hGd
  refine wlCallS hC hB rfl co69 rfl rfl (inR_ret _ _ hC.holds bm Om m hOm hm x73.seq) ?_; intro w hk hC hB
  refine wdNext hGd rfl (kpDrop rfl kpNil) (Tk.nil _) ?_
  refine D_ 7 rfl rfl (fun _ => opNot rfl) <| D_ 8 rfl rfl (fun _ => opMove rfl) ?_
  cases h81 : ((inR m x73.seq))
  ·
   refine O_ 9 rfl rfl rfl rfl rfl <| O_ 10 rfl rfl rfl rfl rfl <| O_ 11 rfl rfl rfl rfl rfl <| OU_ 12 rfl rfl rfl rfl <| OU_ 13 rfl rfl rfl rfl <| OU_ 14 rfl rfl rfl rfl <| OU_ 15 rfl rfl rfl rfl <| OU_ 16 rfl rfl rfl rfl <| OU_ 17 rfl rfl rfl rfl <| OU_ 18 rfl rfl rfl rfl <| OU_ 19 rfl rfl rfl rfl <| OU_ 20 rfl rfl rfl rfl <| OU_ 21 rfl rfl rfl rfl <| OU_ 22 rfl rfl rfl rfl <| OU_ 23 rfl rfl rfl rfl <| O_ 24 rfl rfl rfl rfl rfl <| D_ 25 rfl rfl (fun _ => opPickT rfl rfl) <| D_ 26 rfl rfl (fun _ => opMove rfl) <| O_ 27 rfl rfl rfl rfl rfl <| O_ 28 rfl rfl rfl rfl rfl ?_
   refine O_ 29 rfl rfl rfl rfl rfl <| O_ 30 rfl rfl rfl rfl rfl <| O_ 31 rfl rfl rfl rfl rfl <| O_ 32 rfl rfl rfl rfl rfl <| O_ 33 rfl rfl rfl rfl rfl <| D_ 34 rfl rfl (fun _ => opPickT rfl rfl) <| wdDone (by kernel_rfl) <| wcOf <| wcCondT rfl <| wcSeq <| wcRegion <| A_ rfl <| wlThen <| wcRet ?_
   exact r1_ hQ rfl rfl (endS hC hw (by rw [← hI0, drop_get hx74]; simp only [pRestG, h16, h81, four1, lePrev, ltPrev, badPrev, runOf, List.length_nil, List.any_nil, List.nil_append, ta_]))
  ·
   refine DG_ 9 rfl rfl rfl rfl (fun _ => opMove rfl) <| DG_ 10 rfl rfl rfl rfl (fun _ => opGtr rfl rfl) <| DG_ 11 rfl rfl rfl rfl (fun _ => opMove rfl) ?_
   cases h82 : decide (0 < ((k : Nat) : Int))
   ·
    refine O_ 12 rfl rfl rfl rfl rfl <| O_ 13 rfl rfl rfl rfl rfl <| O_ 14 rfl rfl rfl rfl rfl <| O_ 15 rfl rfl rfl rfl rfl <| O_ 16 rfl rfl rfl rfl rfl <| O_ 17 rfl rfl rfl rfl rfl <| O_ 18 rfl rfl rfl rfl rfl <| O_ 19 rfl rfl rfl rfl rfl <| O_ 20 rfl rfl rfl rfl rfl <| O_ 21 rfl rfl rfl rfl rfl <| O_ 22 rfl rfl rfl rfl rfl <| O_ 23 rfl rfl rfl rfl rfl <| DG_ 24 rfl rfl rfl rfl (fun _ => opPickF rfl rfl) <| D_ 25 rfl rfl (fun _ => opPickF rfl rfl) <| D_ 26 rfl rfl (fun _ => opMove rfl) <| DG_ 27 rfl rfl rfl rfl (fun _ => opMove rfl) <| DG_ 28 rfl rfl rfl rfl (fun _ => opMove rfl) <| DG_ 29 rfl rfl rfl rfl (fun _ => (opIndexAddr rfl rfl slo38 (of_decide_eq_true h16))) <| DG_ 30 rfl rfl rfl rfl (fun _ => (opFieldAddr rfl fo44_2)) <| EG_ 31 rfl rfl rfl rfl (opLoadOne (v := (.int .i64 x73.view)) rfl (RowG.cell hC.holds hr78 (j := 33) (by simp [cl_])) one3) ?_
    refine wdAll [32] (by kernel_rfl) rfl ⟨wd1 rfl ?_, trivial⟩
    intro hGd
    refine wlOn rfl rfl ?_
    refine wlCallS hC hB rfl co68 rfl rfl (rviewMay_ret _ _ hC.holds x73.view) ?_; intro w hk hC hB
    refine wdNext hGd rfl (kpDrop rfl kpNil) (Tk.nil _) ?_
    refine DG_ 33 rfl rfl rfl rfl (fun _ => opNot rfl) <| D_ 34 rfl rfl (fun _ => opPickF rfl rfl) <| wdDone (by kernel_rfl) <| wcOf ?_
    cases h83 : (viewB x73.view)
    ·
     refine wcCondT rfl <| wcSeq <| wcRegion <| A_ rfl <| wlThen <| wcRet ?_
     exact r1_ hQ rfl rfl (endS hC hw (by rw [← hI0, drop_get hx74]; simp only [pRestG, h16, h81, h82, h83, prevQ_zero h82, four1, lePrev, ltPrev, badPrev, runOf, List.length_nil, List.any_nil, List.nil_append, ta_]))
    ·
     refine wcCondF rfl <| wcSkip <| wcOf <| wcRegion <| M_ rfl <| V_ (opIncr rfl rfl (incr_ok (of_decide_eq_true h16) hpl.le)) <| A_ rfl <| wlRound ?_
     exact (IH0 (k + 1) _ _ ⟨hC, hB, hn5, hl6, hOm, hm, hpl, hql, hF7, (by rw [← hI0, drop_get hx74]; simp only [pRestG, h16, h81, h82, h83, prevQ_zero h82, prevQ_succ hx74, four1, lePrev, ltPrev, badPrev, runOf, List.length_nil, List.any_nil, List.nil_append, ta_])⟩ (by have := of_decide_eq_true h16; simp; omega)).sub (fun _ ha => ((((ha.start.c ha 0 rfl).c ha 1 rfl).c ha 2 rfl).c ha 7 rfl))
   ·
    refine DG_ 12 rfl rfl rfl rfl (fun _ => opMove rfl) <| DG_ 13 rfl rfl rfl rfl (fun _ => opMove rfl) <| DG_ 14 rfl rfl rfl rfl (fun _ => (opIndexAddr rfl rfl slo38 (of_decide_eq_true h16))) <| DG_ 15 rfl rfl rfl rfl (fun _ => (opFieldAddr rfl fo44_0)) <| EG_ 16 rfl rfl rfl rfl (opLoadOne (v := (.int .i64 x73.seq)) rfl (RowG.cell0 hC.holds hr78 (by simp [cl_])) one3) <| DG_ 17 rfl rfl rfl rfl (fun _ => opMove rfl) <| DG_ 18 rfl rfl rfl rfl (fun _ => opMove rfl) <| DG_ 19 rfl rfl rfl rfl (fun _ => (opDecr rfl rfl (Int.ofNat_lt.1 (of_decide_eq_true h82)) (incr_ok (of_decide_eq_true h16) hpl.le))) ?_
    obtain ⟨x84, hx85⟩ : ∃ y_, pl[(k - 1)]? = some y_ := ⟨_, List.getElem?_eq_getElem (by have q := of_decide_eq_true h16; omega)⟩
    obtain ⟨row88, hr89, hi90⟩ := Sl.elem' hpl hx85
    obtain rfl := hi90
    refine DG_ 20 rfl rfl rfl rfl (fun _ => (opIndexAddr rfl rfl slo38 (by have q := of_decide_eq_true h16; omega))) <| DG_ 21 rfl rfl rfl rfl (fun _ => (opFieldAddr rfl fo44_0)) <| EG_ 22 rfl rfl rfl rfl (opLoadOne (v := (.int .i64 x84.seq)) rfl (RowG.cell0 hC.holds hr89 (by simp [cl_])) one3) <| DG_ 23 rfl rfl rfl rfl (fun _ => opLeq rfl rfl) <| DG_ 24 rfl rfl rfl rfl (fun _ => opPickT rfl rfl) <| D_ 25 rfl rfl (fun _ => opPickF rfl rfl) <| D_ 26 rfl rfl (fun _ => opMove rfl) ?_
    cases h92 : decide (x73.seq ≤ x84.seq)
    ·
     refine DG_ 27 rfl rfl rfl rfl (fun _ => opMove rfl) <| DG_ 28 rfl rfl rfl rfl (fun _ => opMove rfl) <| DG_ 29 rfl rfl rfl rfl (fun _ => (opIndexAddr rfl rfl slo38 (of_decide_eq_true h16))) <| DG_ 30 rfl rfl rfl rfl (fun _ => (opFieldAddr rfl fo44_2)) <| EG_ 31 rfl rfl rfl rfl (opLoadOne (v := (.int .i64 x73.view)) rfl (RowG.cell hC.holds hr78 (j := 33) (by simp [cl_])) one3) ?_
     refine wdAll [32] (by kernel_rfl) rfl ⟨wd1 rfl ?_, trivial⟩
     intro hGd
     refine wlOn rfl rfl ?_
     refine wlCallS hC hB rfl co68 rfl rfl (rviewMay_ret _ _ hC.holds x73.view) ?_; intro w hk hC hB
     refine wdNext hGd rfl (kpDrop rfl (kpDrop rfl (kpDrop rfl kpNil))) (Tk.nil _) ?_
     refine DG_ 33 rfl rfl rfl rfl (fun _ => opNot rfl) <| D_ 34 rfl rfl (fun _ => opPickF rfl rfl) <| wdDone (by kernel_rfl) <| wcOf ?_
     cases h93 : (viewB x73.view)
     ·
      refine wcCondT rfl <| wcSeq <| wcRegion <| A_ rfl <| wlThen <| wcRet ?_
      exact r1_ hQ rfl rfl (endS hC hw (by rw [← hI0, drop_get hx74]; simp only [pRestG, h16, h81, h82, h92, h93, prevQ_of h82 hx85, four1, lePrev, ltPrev, badPrev, runOf, List.length_nil, List.any_nil, List.nil_append, ta_]))
     ·
      refine wcCondF rfl <| wcSkip <| wcOf <| wcRegion <| M_ rfl <| V_ (opIncr rfl rfl (incr_ok (of_decide_eq_true h16) hpl.le)) <| A_ rfl <| wlRound ?_
      exact (IH0 (k + 1) _ _ ⟨hC, hB, hn5, hl6, hOm, hm, hpl, hql, hF7, (by rw [← hI0, drop_get hx74]; simp only [pRestG, h16, h81, h82, h92, h93, prevQ_of h82 hx85, prevQ_succ hx74, four1, lePrev, ltPrev, badPrev, runOf, List.length_nil, List.any_nil, List.nil_append, ta_])⟩ (by have := of_decide_eq_true h16; have := of_decide_eq_true h82; simp; omega)).sub (fun _ ha => ((((ha.start.c ha 0 rfl).c ha 1 rfl).c ha 2 rfl).c ha 7 rfl))
    ·
     refine O_ 27 rfl rfl rfl rfl rfl <| O_ 28 rfl rfl rfl rfl rfl <| O_ 29 rfl rfl rfl rfl rfl <| O_ 30 rfl rfl rfl rfl rfl <| O_ 31 rfl rfl rfl rfl rfl <| O_ 32 rfl rfl rfl rfl rfl <| O_ 33 rfl rfl rfl rfl rfl <| D_ 34 rfl rfl (fun _ => opPickT rfl rfl) <| wdDone (by kernel_rfl) <| wcOf <| wcCondT rfl <| wcSeq <| wcRegion <| A_ rfl <| wlThen <| wcRet ?_
     exact r1_ hQ rfl rfl (endS hC hw (by rw [← hI0, drop_get hx74]; simp only [pRestG, h16, h81, h82, h92, prevQ_of h82 hx85, four1, lePrev, ltPrev, badPrev, runOf, List.length_nil, List.any_nil, List.nil_append, ta_]))

end Go.Proofs.YtljcgggflgbenaaGreatDoor
