/- What functions of the marks seat return, part 4. No condition. -/
import Derived.Test.YtbmanooiphghmaaMkG3
import Derived.Test.YtbmanooiphghmaaGxLend
import Derived.Test.YtbmanooiphghmaaMkLaw
set_option linter.all false
namespace Go.Proofs.Ytbmanooiphghmaa
open Go Go.Gx Go.RowKit
structure MSt where
  crew : Crew
  low : Mark
  list : List (Int × List Mark)
structure RSt where
  crew : Crew
  mark : Mark
  l : List (List Mark)
def lists (m : MSt) : List (List Mark) := m.list.map (·.2)
def MInv (s : MSt) : Prop := ∀ p ∈ s.list, p.2.length ≤ 4 ∧ p.1 ∈ s.crew.nodes
def RInv (s : RSt) : Prop := s.l.length = s.crew.nodes.length ∧ ∀ x ∈ s.l, x.length ≤ 4
theorem mget_mem {κ : Type} [DecidableEq κ] {β : Type} : ∀ {l : List (κ × β)} {k : κ} {y : β}, mget l k = some y → (k, y) ∈ l
  | p :: r, k, y, h => by
    by_cases hp : p.1 = k
    · simp only [mget, hp, if_true, Option.some.injEq] at h; subst h; subst hp; exact List.mem_cons_self
    · simp only [mget, hp, if_false] at h; exact List.mem_cons_of_mem _ (mget_mem h)
theorem MInv.get {s : MSt} (h : MInv s) (n : Int) : ((mget s.list n).getD []).length ≤ 4 := by
  cases hg : mget s.list n with
  | none => simp
  | some y => exact (h _ (mget_mem hg)).1
theorem RInv.get {s : RSt} (h : RInv s) {k : Nat} {x : List Mark} (hx : s.l[k]? = some x) : x.length ≤ 4 := h.2 x (List.mem_of_getElem? hx)
def cntL (ls : List (List Mark)) (x : Mark) : Nat := (ls.map (fun l => l.countP (fun y => decide (y = x)))).sum
theorem cntL_cons (l : List Mark) (ls : List (List Mark)) (x : Mark) : cntL (l :: ls) x = l.countP (fun y => decide (y = x)) + cntL ls x := by simp [cntL]
theorem cntL_nil (x : Mark) : cntL [] x = 0 := rfl
def mayG (ls : List (List Mark)) (many : Int) (x : Mark) : Bool := !decide (((cntL ls x : Nat) : Int) < many)
def cmpM (a b : Mark) : Int := orI [cmpI a.seq b.seq, cmpB b.dig.l a.dig.l]
def gR (ls : List (List Mark)) (many : Int) : Mark × Bool := bestG (mayG ls many) cmpM ls.flatten default false
def placeI (nodes : List Int) (n : Int) : Int := idxG (fun y => y == n) nodes 0
def rofL (m : RSt) (n : Int) : List Mark := bif decide (0 ≤ placeI m.crew.nodes n) then m.l.getD (placeI m.crew.nodes n).toNat [] else []
def MarksO (G : Gh) (o q : Obj) (l : Nat) (s : MSt) : Prop :=
  ∃ v, o = .cells ((.int .i64 s.crew.faults :: (v :: (.int .i64 s.low.seq :: (s.low.dig.cells ++ (.map (some l) :: []))))) : List Value).toArray 64 (0, 0) ∧ Sl G v s.crew.nodes ∧ MpO kI G q s.list ∧ MInv s
theorem MarksO.mono {G G' : Gh} {o q : Obj} {l : Nat} {s : MSt} (hg : GLe G G') (h : MarksO G o q l s) : MarksO G' o q l s := by
  obtain ⟨v, h1, h2, h3, h4⟩ := h
  exact ⟨v, h1, h2.mono hg, h3.mono hg, h4⟩
def RMarksO (G : Gh) (o q : Obj) (l : Nat) (s : RSt) : Prop :=
  ∃ v v' cs, o = .cells ((.int .i64 s.crew.faults :: (v :: (.int .i64 s.mark.seq :: (s.mark.dig.cells ++ (v' :: []))))) : List Value).toArray 70 (0, 0) ∧ Sl G v s.crew.nodes ∧ q = .cells (List.toArray cs) 54 (0, 0) ∧ Ow G (some (l, 54, cs)) 54 v' s.l ∧ RInv s
theorem RMarksO.mono {G G' : Gh} {o q : Obj} {l : Nat} {s : RSt} (hg : GLe G G') (h : RMarksO G o q l s) : RMarksO G' o q l s := by
  obtain ⟨v, v', cs, h1, h2, h3, h4, h5⟩ := h
  exact ⟨v, v', cs, h1, h2.mono hg, h3, h4.mono hg, h5⟩
theorem ip30 : isPtr Try.prog 30 = true := by kernel_rfl
theorem fo64_2 : fieldOk Try.prog 64 2 35 = true := by kernel_rfl
theorem one62 : oneOk Try.prog 62 = true := by kernel_rfl
theorem mk62 : mapKV Try.prog 62 3 54 = true := by kernel_rfl
theorem co32 : callOk Try.prog 32 = true := by kernel_rfl
theorem fo64_1 : fieldOk Try.prog 64 1 2 = true := by kernel_rfl
theorem zv54 : (Try.prog.info? 54).bind (fun i => i.zero) = some (.slice none 0 0) := by kernel_rfl
theorem co38 : callOk Try.prog 38 = true := by kernel_rfl
theorem fo28_1 : fieldOk Try.prog 28 1 1 = true := by kernel_rfl
theorem none_ret (G0 : Gh) (w0 : World) (hw : Holds G0 w0) (bm lm : Nat) (om qm : Obj) (m : MSt) (hbm : HasO G0 bm om) (hlm : HasO G0 lm qm) (hm : MarksO G0 om qm lm m) :
    RetS Try.prog 32 #[.pointer (some ⟨bm, 0, none⟩)] G0 w0 (.bool false) := by
  have hC := Cx.refl hw
  have hB : Bxs G0 w0 w0.heap.size [] := Bxs.nil _ _ _
  obtain ⟨v1, e2, hs3, hM4, hi5⟩ := id hm
  have him := hi5
  obtain ⟨A6, cap7, rfl⟩ := hs3.form
  have hF8 : RowG G0 bm 0 ((.int .i64 m.crew.faults) :: ((.slice A6 m.crew.nodes.length cap7) :: ((.int .i64 m.low.seq) :: (m.low.dig.cells ++ ((.map (some lm)) :: []))))) := HasO.row (T := 64) (by rw [← e2]; exact hbm)
  refine callsOf Try.func32 rfl _ Try.ntmps32 rfl _ (argsCons argsNil (t := 0) rfl) ?_; intro Q0 hQ
  refine wcSeq ?_
  refine wcRegion ?_
  refine wlVal (opAssign rfl) rfl ?_
  refine wlThen ?_
  refine wcSeq ?_
  refine wcRegion ?_
  refine wlVal (opMove rfl) rfl ?_
  refine wlVal (OpVal.cast (v' := .bool false) (opPtrNil ip30 rfl rfl) rfl) rfl ?_
  refine wlVal (opMove rfl) rfl ?_
  refine wlOn rfl rfl ?_
  refine wlVal (opMove rfl) rfl ?_
  refine wlOn rfl rfl ?_
  refine wlVal (opNilCheck rfl) rfl ?_
  refine wlOn rfl rfl ?_
  refine wlVal (opFieldAddr rfl fo64_2) rfl ?_
  refine wlOn rfl rfl ?_
  refine wlVal (opLoadOne (v := (.map (some lm))) rfl (RowG.cell hC.holds hF8 (j := 35) (by simp [Mark.cells, Do.cells, Word.cells])) one62) rfl ?_
  refine wlOn rfl rfl ?_
  refine wlVal (opMapNil mk62 rfl rfl) rfl ?_
  refine wlVal (opPickF rfl rfl) rfl ?_
  refine wlVal (opAssign rfl) rfl ?_
  refine wlThen ?_
  refine wcRet ?_
  exact fun ac_ ha => hQ _ _ _ (results1 ha rfl rfl) ha.df (endS hC hw rfl)

theorem low_ret (G0 : Gh) (w0 : World) (hw : Holds G0 w0) (bm lm : Nat) (om qm : Obj) (m : MSt) (hbm : HasO G0 bm om) (hlm : HasO G0 lm qm) (hm : MarksO G0 om qm lm m) :
    RetS Try.prog 23 #[.pointer (some ⟨bm, 0, none⟩)] G0 w0 (.agg m.low.cells.toArray) := by
  have hC := Cx.refl hw
  have hB : Bxs G0 w0 w0.heap.size [] := Bxs.nil _ _ _
  obtain ⟨v1, e2, hs3, hM4, hi5⟩ := id hm
  have him := hi5
  obtain ⟨A6, cap7, rfl⟩ := hs3.form
  have hF8 : RowG G0 bm 0 ((.int .i64 m.crew.faults) :: ((.slice A6 m.crew.nodes.length cap7) :: ((.int .i64 m.low.seq) :: (m.low.dig.cells ++ ((.map (some lm)) :: []))))) := HasO.row (T := 64) (by rw [← e2]; exact hbm)
  refine callsOf Try.func23 rfl _ Try.ntmps23 rfl _ (argsCons argsNil (t := 0) rfl) ?_; intro Q0 hQ
  refine wcSeq ?_
  refine wcRegion ?_
  refine wlAlloc hC hB zero28 rfl ?_; intro b9 w hk hC hB
  refine wlThen ?_
  refine wcSeq ?_
  refine wcSeq ?_
  refine wcRegion ?_
  refine wlVal (opMove rfl) rfl ?_
  refine wlCallS hC hB rfl co32 rfl rfl (none_ret _ _ hC.holds bm lm _ _ m hbm hlm hm) ?_; intro w hk hC hB
  refine wlThen ?_
  refine wcCondF rfl ?_
  refine wcSkip ?_
  refine wcOf ?_
  refine wcSeq ?_
  refine wcRegion ?_
  refine wlVal (opMove rfl) rfl ?_
  refine wlVal (opNilCheck rfl) rfl ?_
  refine wlVal (opFieldAddr rfl fo64_1) rfl ?_
  refine wlVal (opLoadRow (cs := m.low.cells) rfl (RowG.range hC.holds (hF8.part (i := 2) (m := 33) (by simp [Mark.cells, Do.cells, Word.cells]))) row28 (by simp [Mark.cells, Do.cells, Word.cells])) rfl ?_
  refine wlStore 0 (vs := m.low.cells) (cs := ((.int .i64 0) :: (Dig.zero.cells ++ []))) (cs' := m.low.cells) hC hB rfl rfl rfl sz28 rfl (by simp [Mark.cells, Do.cells, Word.cells]) (by simp [Mark.cells, Do.cells, Word.cells, Value.oneCell']) (by simp [Mark.cells, Do.cells, Word.cells]) (by simp [Mark.cells, Do.cells, Word.cells]) rfl ?_; intro w hC hB
  refine wlThen ?_
  refine wcRet ?_
  exact fun ac_ ha => hQ _ _ _ (results1 ha rfl ⟨_, _, m.low.cells, rfl, row28, (by simp [Mark.cells, Do.cells, Word.cells]), hB.range (i := 0) (m := 33) rfl (by simp [Mark.cells, Do.cells, Word.cells]), rfl⟩) ha.df (endS hC hw rfl)

theorem of_ret (G0 : Gh) (w0 : World) (hw : Holds G0 w0) (bm lm : Nat) (om qm : Obj) (m : MSt) (hbm : HasO G0 bm om) (hlm : HasO G0 lm qm) (hm : MarksO G0 om qm lm m) (n : Int) :
    RetO Try.prog 22 #[.pointer (some ⟨bm, 0, none⟩), .int .i64 n] G0 w0 (fun G o v => ∃ A cap, v = (.slice A (((mget m.list n).getD [])).length cap) ∧ Ow G o 28 (.slice A (((mget m.list n).getD [])).length cap) (((mget m.list n).getD []))) := by
  have hC := Cx.refl hw
  have hB : Bxs G0 w0 w0.heap.size [] := Bxs.nil _ _ _
  obtain ⟨v1, e2, hs3, hM4, hi5⟩ := id hm
  have him := hi5
  obtain ⟨A6, cap7, rfl⟩ := hs3.form
  have hF8 : RowG G0 bm 0 ((.int .i64 m.crew.faults) :: ((.slice A6 m.crew.nodes.length cap7) :: ((.int .i64 m.low.seq) :: (m.low.dig.cells ++ ((.map (some lm)) :: []))))) := HasO.row (T := 64) (by rw [← e2]; exact hbm)
  refine callsOf Try.func22 rfl _ Try.ntmps22 rfl _ (argsCons (argsCons argsNil (t := 0) rfl) (t := 1) rfl) ?_; intro Q0 hQ
  refine wcSeq ?_
  refine wcRegion ?_
  refine wlVal (opAssign rfl) rfl ?_
  refine wlThen ?_
  refine wcSeq ?_
  refine wcSeq ?_
  refine wcRegion ?_
  refine wlVal (opMove rfl) rfl ?_
  refine wlCallS hC hB rfl co32 rfl rfl (none_ret _ _ hC.holds bm lm _ _ m hbm hlm hm) ?_; intro w hk hC hB
  refine wlThen ?_
  refine wcCondF rfl ?_
  refine wcSkip ?_
  refine wcOf ?_
  refine wcSeq ?_
  refine wcRegion ?_
  refine wlVal (opMove rfl) rfl ?_
  refine wlVal (opNilCheck rfl) rfl ?_
  refine wlVal (opFieldAddr rfl fo64_2) rfl ?_
  refine wlVal (opLoadOne (v := (.map (some lm))) rfl (RowG.cell hC.holds hF8 (j := 35) (by simp [Mark.cells, Do.cells, Word.cells])) one62) rfl ?_
  refine wlVal (opMove rfl) rfl ?_
  obtain ⟨v9, hv10, hr11⟩ := hM4.lookup (keyL_int ui3) mk62 zv54 (isL' (Sl.nil_ _)) n
  have hs12 := isL hv10
  obtain ⟨A13, cap14, rfl⟩ := hs12.form
  refine wlVal (opLookupH rfl rfl (hr11 _ _ (hlm.at_ hC.holds))) rfl ?_
  refine wlCallO (bl := []) (r := []) hC hB rfl co38 rfl rfl (clone_ret _ _ hC.holds _ (((mget m.list n).getD [])) hs12 (Nat.le_trans (him.get n) (by decide))) ?_; rintro v19 G o17 w hk hC hB ⟨A15, cap16, rfl, hO18⟩
  replace hs3 := hs3.mono hk.gle; replace hM4 := hM4.mono hk.gle; replace hbm := hbm.mono hk.gle; replace hlm := hlm.mono hk.gle; replace hm := hm.mono hk.gle; replace hs12 := hs12.mono hk.gle
  replace hF8 := hF8.mono hk.gle
  refine wlVal (opAssign rfl) rfl ?_
  refine wlThen ?_
  refine wcRet ?_
  exact fun ac_ ha => hQ _ _ _ (results1 ha rfl rfl) ha.df (endO (bl := []) (o := o17) (r := []) hC hB ⟨_, _, rfl, hO18⟩)

end Go.Proofs.Ytbmanooiphghmaa
