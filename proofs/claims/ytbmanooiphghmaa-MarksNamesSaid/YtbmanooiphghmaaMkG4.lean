/- What functions of the marks seat return, part 4. No condition. -/
import Derived.Test.YtbmanooiphghmaaMkG3
import Derived.Test.YtbmanooiphghmaaGxLend
import Derived.Test.YtbmanooiphghmaaMkLaw
set_option linter.all false
namespace Go.Proofs.Ytbmanooiphghmaa
open Go Go.Gx Go.RowKit
structure MSt where
  crew : Crew
  low : Mark
  list : List (Int × List Mark)
structure RSt where
  crew : Crew
  mark : Mark
  l : List (List Mark)
def lists (m : MSt) : List (List Mark) := m.list.map (·.2)
def MInv (s : MSt) : Prop := ∀ p ∈ s.list, p.2.length ≤ 4 ∧ p.1 ∈ s.crew.nodes
def RInv (s : RSt) : Prop := s.l.length = s.crew.nodes.length ∧ ∀ x ∈ s.l, x.length ≤ 4
theorem mget_mem {κ : Type} [DecidableEq κ] {β : Type} : ∀ {l : List (κ × β)} {k : κ} {y : β}, mget l k = some y → (k, y) ∈ l
  | p :: r, k, y, h => by
    by_cases hp : p.1 = k
    · simp only [mget, hp, if_true, Option.some.injEq] at h; subst h; subst hp; exact List.mem_cons_self
    · simp only [mget, hp, if_false] at h; exact List.mem_cons_of_mem _ (mget_mem h)
theorem MInv.get {s : MSt} (h : MInv s) (n : Int) : ((mget s.list n).getD []).length ≤ 4 := by
  cases hg : mget s.list n with
  | none => simp
  | some y => exact (h _ (mget_mem hg)).1
theorem RInv.get {s : RSt} (h : RInv s) {k : Nat} {x : List Mark} (hx : s.l[k]? = some x) : x.length ≤ 4 := h.2 x (List.mem_of_getElem? hx)
def cntL (ls : List (List Mark)) (x : Mark) : Nat := (ls.map (fun l => l.countP (fun y => decide (y = x)))).sum
theorem cntL_cons (l : List Mark) (ls : List (List Mark)) (x : Mark) : cntL (l :: ls) x = l.countP (fun y => decide (y = x)) + cntL ls x := by simp [cntL]
theorem cntL_nil (x : Mark) : cntL [] x = 0 := rfl
def mayG (ls : List (List Mark)) (many : Int) (x : Mark) : Bool := !decide (((cntL ls x : Nat) : Int) < many)
def cmpM (a b : Mark) : Int := orI [cmpI a.seq b.seq, cmpB b.dig.l a.dig.l]
theorem betterM (a b : Mark) : decide (0 < cmpM a b) = (decide (b.seq < a.seq) || ((a.seq == b.seq) && lessB a.dig.l b.dig.l)) := better a.seq b.seq a.dig b.dig
def gR (ls : List (List Mark)) (many : Int) : Mark × Bool := bestG (mayG ls many) cmpM ls.flatten default false
theorem idxG_lt {α : Type} {p : α → Bool} {l : List α} (h : decide (0 ≤ idxG p l 0) = true) : ∃ i : Nat, idxG p l 0 = (i : Int) ∧ i < l.length ∧ True := by
  rcases idxG_ge (p := p) l 0 with ⟨h1, _⟩ | ⟨i, _, h2, h3, _⟩
  · rw [h1] at h; simp at h
  · exact ⟨i, h2, by omega, trivial⟩
def placeI (nodes : List Int) (n : Int) : Int := idxG (fun y => y == n) nodes 0
theorem placeI_nat {l : List Int} {n : Int} (h : decide (0 ≤ placeI l n) = true) : ∃ i : Nat, placeI l n = (i : Int) ∧ i < l.length ∧ True := idxG_lt h
def rofL (m : RSt) (n : Int) : List Mark := bif decide (0 ≤ placeI m.crew.nodes n) then m.l.getD (placeI m.crew.nodes n).toNat [] else []
theorem rofL_at {m : RSt} {n : Int} {i : Nat} {x : List Mark} (h : placeI m.crew.nodes n = (i : Int)) (hx : m.l[i]? = some x) : rofL m n = x := by simp [rofL, h, List.getD_eq_getElem?_getD, hx]
theorem rofL_no {m : RSt} {n : Int} (h : decide (0 ≤ placeI m.crew.nodes n) = false) : rofL m n = [] := by simp [rofL, h]
def MarksO (G : Gh) (o q : Obj) (l : Nat) (s : MSt) : Prop :=
  ∃ v, o = .cells ((.int .i64 s.crew.faults :: (v :: (.int .i64 s.low.seq :: (s.low.dig.cells ++ (.map (some l) :: []))))) : List Value).toArray 64 (0, 0) ∧ Sl G v s.crew.nodes ∧ MpO kI G q s.list ∧ MInv s
theorem MarksO.mono {G G' : Gh} {o q : Obj} {l : Nat} {s : MSt} (hg : GLe G G') (h : MarksO G o q l s) : MarksO G' o q l s := by
  obtain ⟨v, h1, h2, h3, h4⟩ := h
  exact ⟨v, h1, h2.mono hg, h3.mono hg, h4⟩
def RMarksO (G : Gh) (o q : Obj) (l : Nat) (s : RSt) : Prop :=
  ∃ v v' cs, o = .cells ((.int .i64 s.crew.faults :: (v :: (.int .i64 s.mark.seq :: (s.mark.dig.cells ++ (v' :: []))))) : List Value).toArray 70 (0, 0) ∧ Sl G v s.crew.nodes ∧ q = .cells (List.toArray cs) 54 (0, 0) ∧ Ow G (some (l, 54, cs)) 54 v' s.l ∧ RInv s
theorem RMarksO.mono {G G' : Gh} {o q : Obj} {l : Nat} {s : RSt} (hg : GLe G G') (h : RMarksO G o q l s) : RMarksO G' o q l s := by
  obtain ⟨v, v', cs, h1, h2, h3, h4, h5⟩ := h
  exact ⟨v, v', cs, h1, h2.mono hg, h3, h4.mono hg, h5⟩
theorem ip30 : isPtr Try.prog 30 = true := by kernel_rfl
theorem fo64_2 : fieldOk Try.prog 64 2 35 = true := by kernel_rfl
theorem one62 : oneOk Try.prog 62 = true := by kernel_rfl
theorem mk62 : mapKV Try.prog 62 3 54 = true := by kernel_rfl
theorem co32 : callOk Try.prog 32 = true := by kernel_rfl
theorem fo64_1 : fieldOk Try.prog 64 1 2 = true := by kernel_rfl
theorem zv54 : (Try.prog.info? 54).bind (fun i => i.zero) = some (.slice none 0 0) := by kernel_rfl
theorem co38 : callOk Try.prog 38 = true := by kernel_rfl
theorem fo70_1 : fieldOk Try.prog 70 1 2 = true := by kernel_rfl
theorem fo70_0 : fieldOk Try.prog 70 0 0 = true := by kernel_rfl
theorem fo70_2 : fieldOk Try.prog 70 2 35 = true := by kernel_rfl
theorem one68 : oneOk Try.prog 68 = true := by kernel_rfl
theorem isl68 : isSlice Try.prog 68 = true := by kernel_rfl
theorem slo68 : sliceOk Try.prog 68 54 1 = true := by kernel_rfl
theorem one54 : oneOk Try.prog 54 = true := by kernel_rfl
theorem co64 : callOk Try.prog 64 = true := by kernel_rfl
theorem fo28_1 : fieldOk Try.prog 28 1 1 = true := by kernel_rfl
theorem co65 : callOk Try.prog 65 = true := by kernel_rfl
theorem co57 : callOk Try.prog 57 = true := by kernel_rfl
theorem co56 : callOk Try.prog 56 = true := by kernel_rfl
theorem co58 : callOk Try.prog 58 = true := by kernel_rfl
theorem co39 : callOk Try.prog 39 = true := by kernel_rfl
theorem none_ret (G0 : Gh) (w0 : World) (hw : Holds G0 w0) (bm lm : Nat) (om qm : Obj) (m : MSt) (hbm : HasO G0 bm om) (hlm : HasO G0 lm qm) (hm : MarksO G0 om qm lm m) :
    RetS Try.prog 32 #[.pointer (some ⟨bm, 0, none⟩)] G0 w0 (.bool false) := by
  have hC := Cx.refl hw
  have hB : Bxs G0 w0 w0.heap.size [] := Bxs.nil _ _ _
  obtain ⟨v1, e2, hs3, hM4, hi5⟩ := id hm
  have him := hi5
  obtain ⟨A6, cap7, rfl⟩ := hs3.form
  have hF8 : RowG G0 bm 0 ((.int .i64 m.crew.faults) :: ((.slice A6 m.crew.nodes.length cap7) :: ((.int .i64 m.low.seq) :: (m.low.dig.cells ++ ((.map (some lm)) :: []))))) := HasO.row (T := 64) (by rw [← e2]; exact hbm)
  refine callsOf Try.func32 rfl _ Try.ntmps32 rfl _ (argsCons argsNil (t := 0) rfl) ?_; intro Q0 hQ
  refine wcSeq ?_
  refine wcRegion ?_
  refine wlVal (opAssign rfl) rfl ?_
  refine wlThen ?_
  refine wcSeq ?_
  refine wcRegion ?_
  refine wlVal (opMove rfl) rfl ?_
  refine wlVal (OpVal.cast (v' := .bool false) (opPtrNil ip30 rfl rfl) rfl) rfl ?_
  refine wlVal (opMove rfl) rfl ?_
  refine wlOn rfl rfl ?_
  refine wlVal (opMove rfl) rfl ?_
  refine wlOn rfl rfl ?_
  refine wlVal (opNilCheck rfl) rfl ?_
  refine wlOn rfl rfl ?_
  refine wlVal (opFieldAddr rfl fo64_2) rfl ?_
  refine wlOn rfl rfl ?_
  refine wlVal (opLoadOne (v := (.map (some lm))) rfl (RowG.cell hC.holds hF8 (j := 35) (by simp [Mark.cells, Do.cells, Word.cells])) one62) rfl ?_
  refine wlOn rfl rfl ?_
  refine wlVal (opMapNil mk62 rfl rfl) rfl ?_
  refine wlVal (opPickF rfl rfl) rfl ?_
  refine wlVal (opAssign rfl) rfl ?_
  refine wlThen ?_
  refine wcRet ?_
  exact fun ac_ ha => hQ _ _ _ (results1 ha rfl rfl) ha.df (endS hC hw rfl)

theorem low_ret (G0 : Gh) (w0 : World) (hw : Holds G0 w0) (bm lm : Nat) (om qm : Obj) (m : MSt) (hbm : HasO G0 bm om) (hlm : HasO G0 lm qm) (hm : MarksO G0 om qm lm m) :
    RetS Try.prog 23 #[.pointer (some ⟨bm, 0, none⟩)] G0 w0 (.agg m.low.cells.toArray) := by
  have hC := Cx.refl hw
  have hB : Bxs G0 w0 w0.heap.size [] := Bxs.nil _ _ _
  obtain ⟨v1, e2, hs3, hM4, hi5⟩ := id hm
  have him := hi5
  obtain ⟨A6, cap7, rfl⟩ := hs3.form
  have hF8 : RowG G0 bm 0 ((.int .i64 m.crew.faults) :: ((.slice A6 m.crew.nodes.length cap7) :: ((.int .i64 m.low.seq) :: (m.low.dig.cells ++ ((.map (some lm)) :: []))))) := HasO.row (T := 64) (by rw [← e2]; exact hbm)
  refine callsOf Try.func23 rfl _ Try.ntmps23 rfl _ (argsCons argsNil (t := 0) rfl) ?_; intro Q0 hQ
  refine wcSeq ?_
  refine wcRegion ?_
  refine wlAlloc hC hB zero28 rfl ?_; intro b9 w hk hC hB
  refine wlThen ?_
  refine wcSeq ?_
  refine wcSeq ?_
  refine wcRegion ?_
  refine wlVal (opMove rfl) rfl ?_
  refine wlCallS hC hB rfl co32 rfl rfl (none_ret _ _ hC.holds bm lm _ _ m hbm hlm hm) ?_; intro w hk hC hB
  refine wlThen ?_
  refine wcCondF rfl ?_
  refine wcSkip ?_
  refine wcOf ?_
  refine wcSeq ?_
  refine wcRegion ?_
  refine wlVal (opMove rfl) rfl ?_
  refine wlVal (opNilCheck rfl) rfl ?_
  refine wlVal (opFieldAddr rfl fo64_1) rfl ?_
  refine wlVal (opLoadRow (cs := m.low.cells) rfl (RowG.range hC.holds (hF8.part (i := 2) (m := 33) (by simp [Mark.cells, Do.cells, Word.cells]))) row28 (by simp [Mark.cells, Do.cells, Word.cells])) rfl ?_
  refine wlStore 0 (vs := m.low.cells) (cs := ((.int .i64 0) :: (Dig.zero.cells ++ []))) (cs' := m.low.cells) hC hB rfl rfl rfl sz28 rfl (by simp [Mark.cells, Do.cells, Word.cells]) (by simp [Mark.cells, Do.cells, Word.cells, Value.oneCell']) (by simp [Mark.cells, Do.cells, Word.cells]) (by simp [Mark.cells, Do.cells, Word.cells]) rfl ?_; intro w hC hB
  refine wlThen ?_
  refine wcRet ?_
  exact fun ac_ ha => hQ _ _ _ (results1 ha rfl ⟨_, _, m.low.cells, rfl, row28, (by simp [Mark.cells, Do.cells, Word.cells]), hB.range (i := 0) (m := 33) rfl (by simp [Mark.cells, Do.cells, Word.cells]), rfl⟩) ha.df (endS hC hw rfl)

theorem of_ret (G0 : Gh) (w0 : World) (hw : Holds G0 w0) (bm lm : Nat) (om qm : Obj) (m : MSt) (hbm : HasO G0 bm om) (hlm : HasO G0 lm qm) (hm : MarksO G0 om qm lm m) (n : Int) :
    RetO Try.prog 22 #[.pointer (some ⟨bm, 0, none⟩), .int .i64 n] G0 w0 (fun G o v => ∃ A cap, v = (.slice A (((mget m.list n).getD [])).length cap) ∧ Ow G o 28 (.slice A (((mget m.list n).getD [])).length cap) (((mget m.list n).getD []))) := by
  have hC := Cx.refl hw
  have hB : Bxs G0 w0 w0.heap.size [] := Bxs.nil _ _ _
  obtain ⟨v1, e2, hs3, hM4, hi5⟩ := id hm
  have him := hi5
  obtain ⟨A6, cap7, rfl⟩ := hs3.form
  have hF8 : RowG G0 bm 0 ((.int .i64 m.crew.faults) :: ((.slice A6 m.crew.nodes.length cap7) :: ((.int .i64 m.low.seq) :: (m.low.dig.cells ++ ((.map (some lm)) :: []))))) := HasO.row (T := 64) (by rw [← e2]; exact hbm)
  refine callsOf Try.func22 rfl _ Try.ntmps22 rfl _ (argsCons (argsCons argsNil (t := 0) rfl) (t := 1) rfl) ?_; intro Q0 hQ
  refine wcSeq ?_
  refine wcRegion ?_
  refine wlVal (opAssign rfl) rfl ?_
  refine wlThen ?_
  refine wcSeq ?_
  refine wcSeq ?_
  refine wcRegion ?_
  refine wlVal (opMove rfl) rfl ?_
  refine wlCallS hC hB rfl co32 rfl rfl (none_ret _ _ hC.holds bm lm _ _ m hbm hlm hm) ?_; intro w hk hC hB
  refine wlThen ?_
  refine wcCondF rfl ?_
  refine wcSkip ?_
  refine wcOf ?_
  refine wcSeq ?_
  refine wcRegion ?_
  refine wlVal (opMove rfl) rfl ?_
  refine wlVal (opNilCheck rfl) rfl ?_
  refine wlVal (opFieldAddr rfl fo64_2) rfl ?_
  refine wlVal (opLoadOne (v := (.map (some lm))) rfl (RowG.cell hC.holds hF8 (j := 35) (by simp [Mark.cells, Do.cells, Word.cells])) one62) rfl ?_
  refine wlVal (opMove rfl) rfl ?_
  obtain ⟨v9, hv10, hr11⟩ := hM4.lookup (keyL_int ui3) mk62 zv54 (isL' (Sl.nil_ _)) n
  have hs12 := isL hv10
  obtain ⟨A13, cap14, rfl⟩ := hs12.form
  refine wlVal (opLookupH rfl rfl (hr11 _ _ (hlm.at_ hC.holds))) rfl ?_
  refine wlCallO (bl := []) (r := []) hC hB rfl co38 rfl rfl (clone_ret _ _ hC.holds _ (((mget m.list n).getD [])) hs12 (Nat.le_trans (him.get n) (by decide))) ?_; rintro v19 G o17 w hk hC hB ⟨A15, cap16, rfl, hO18⟩
  replace hs3 := hs3.mono hk.gle; replace hM4 := hM4.mono hk.gle; replace hbm := hbm.mono hk.gle; replace hlm := hlm.mono hk.gle; replace hm := hm.mono hk.gle; replace hs12 := hs12.mono hk.gle
  replace hF8 := hF8.mono hk.gle
  refine wlVal (opAssign rfl) rfl ?_
  refine wlThen ?_
  refine wcRet ?_
  exact fun ac_ ha => hQ _ _ _ (results1 ha rfl rfl) ha.df (endO (bl := []) (o := o17) (r := []) hC hB ⟨_, _, rfl, hO18⟩)

theorem rlow_ret (G0 : Gh) (w0 : World) (hw : Holds G0 w0) (bm lm : Nat) (om qm : Obj) (m : RSt) (hbm : HasO G0 bm om) (hlm : HasO G0 lm qm) (hm : RMarksO G0 om qm lm m) :
    RetS Try.prog 44 #[.pointer (some ⟨bm, 0, none⟩)] G0 w0 (.agg m.mark.cells.toArray) := by
  have hC := Cx.refl hw
  have hB : Bxs G0 w0 w0.heap.size [] := Bxs.nil _ _ _
  obtain ⟨v1, v2, cs3, e4, hs5, e6, hO7, hn8⟩ := id hm
  have him := hn8
  obtain ⟨A9, cap10, rfl⟩ := hs5.form
  have hs11 := hO7.frozen (by rw [← e6]; exact hlm) (by rw [hn8.1]; exact hs5.le)
  obtain ⟨A12, cap13, rfl⟩ := hs11.form
  have hF14 : RowG G0 bm 0 ((.int .i64 m.crew.faults) :: ((.slice A9 m.crew.nodes.length cap10) :: ((.int .i64 m.mark.seq) :: (m.mark.dig.cells ++ ((.slice A12 m.l.length cap13) :: []))))) := HasO.row (T := 70) (by rw [← e4]; exact hbm)
  refine callsOf Try.func44 rfl _ Try.ntmps44 rfl _ (argsCons argsNil (t := 0) rfl) ?_; intro Q0 hQ
  refine wcSeq ?_
  refine wcRegion ?_
  refine wlAlloc hC hB zero28 rfl ?_; intro b15 w hk hC hB
  refine wlThen ?_
  refine wcSeq ?_
  refine wcRegion ?_
  refine wlVal (opMove rfl) rfl ?_
  refine wlVal (opNilCheck rfl) rfl ?_
  refine wlVal (opFieldAddr rfl fo70_1) rfl ?_
  refine wlVal (opLoadRow (cs := m.mark.cells) rfl (RowG.range hC.holds (hF14.part (i := 2) (m := 33) (by simp [Mark.cells, Do.cells, Word.cells]))) row28 (by simp [Mark.cells, Do.cells, Word.cells])) rfl ?_
  refine wlStore 0 (vs := m.mark.cells) (cs := ((.int .i64 0) :: (Dig.zero.cells ++ []))) (cs' := m.mark.cells) hC hB rfl rfl rfl sz28 rfl (by simp [Mark.cells, Do.cells, Word.cells]) (by simp [Mark.cells, Do.cells, Word.cells, Value.oneCell']) (by simp [Mark.cells, Do.cells, Word.cells]) (by simp [Mark.cells, Do.cells, Word.cells]) rfl ?_; intro w hC hB
  refine wlThen ?_
  refine wcRet ?_
  exact fun ac_ ha => hQ _ _ _ (results1 ha rfl ⟨_, _, m.mark.cells, rfl, row28, (by simp [Mark.cells, Do.cells, Word.cells]), hB.range (i := 0) (m := 33) rfl (by simp [Mark.cells, Do.cells, Word.cells]), rfl⟩) ha.df (endS hC hw rfl)

theorem place_ret (G0 : Gh) (w0 : World) (hw : Holds G0 w0) (bm lm : Nat) (om qm : Obj) (m : RSt) (hbm : HasO G0 bm om) (hlm : HasO G0 lm qm) (hm : RMarksO G0 om qm lm m) (n : Int) :
    RetS Try.prog 39 #[.pointer (some ⟨bm, 0, none⟩), .int .i64 n] G0 w0 (.int .i64 ((placeI m.crew.nodes n))) := by
  have hC := Cx.refl hw
  have hB : Bxs G0 w0 w0.heap.size [] := Bxs.nil _ _ _
  obtain ⟨v1, v2, cs3, e4, hs5, e6, hO7, hn8⟩ := id hm
  have him := hn8
  obtain ⟨A9, cap10, rfl⟩ := hs5.form
  have hs11 := hO7.frozen (by rw [← e6]; exact hlm) (by rw [hn8.1]; exact hs5.le)
  obtain ⟨A12, cap13, rfl⟩ := hs11.form
  have hF14 : RowG G0 bm 0 ((.int .i64 m.crew.faults) :: ((.slice A9 m.crew.nodes.length cap10) :: ((.int .i64 m.mark.seq) :: (m.mark.dig.cells ++ ((.slice A12 m.l.length cap13) :: []))))) := HasO.row (T := 70) (by rw [← e4]; exact hbm)
  refine callsOf Try.func39 rfl _ Try.ntmps39 rfl _ (argsCons (argsCons argsNil (t := 0) rfl) (t := 1) rfl) ?_; intro Q0 hQ
  refine wcSeq ?_
  refine wcRegion ?_
  refine wlVal (opAssign rfl) rfl ?_
  refine wlThen ?_
  refine wcSeq ?_
  refine wcSeq ?_
  refine wcRegion ?_
  refine wlVal (opAssign rfl) rfl ?_
  refine wlThen ?_
  refine wcBlock ?_
  refine WC.sub (wrInd (ι := Nat) (fun k => m.crew.nodes.length - k) (fun k G w => Cx w0 G0 G w ∧ Bxs G w w0.heap.size [] ∧ Sl G (.slice A9 m.crew.nodes.length cap10) m.crew.nodes ∧ Sl G (.slice A12 m.l.length cap13) m.l ∧ HasO G bm om ∧ HasO G lm qm ∧ RMarksO G om qm lm m ∧ RowG G bm 0 ((.int .i64 m.crew.faults) :: ((.slice A9 m.crew.nodes.length cap10) :: ((.int .i64 m.mark.seq) :: (m.mark.dig.cells ++ ((.slice A12 m.l.length cap13) :: []))))) ∧ idxG (fun y => y == n) (m.crew.nodes.drop k) k = idxG (fun y => y == n) m.crew.nodes 0) (fun k => (((Env.nil.put 0 (.pointer (some ⟨bm, 0, none⟩))).put 1 (.int .i64 n)).put 5 (.int .i64 (((k : Nat) : Int))))) ?_ (0) _ _ ⟨hC, hB, hs5, hs11, hbm, hlm, hm, hF14, rfl⟩) (fun _ ha => (((ha.start.cons ha (t := 0) rfl).cons ha (t := 1) rfl).cons ha (t := 5) rfl))
  rintro k G w N0 IH0 ⟨hC, hB, hs5, hs11, hbm, hlm, hm, hF14, hI⟩
  show WC _ _ _ _ (((Env.nil.put 0 (.pointer (some ⟨bm, 0, none⟩))).put 1 (.int .i64 n)).put 5 (.int .i64 (((k : Nat) : Int)))) w
  refine wcSeq ?_
  refine wcSeq ?_
  refine wcRegion ?_
  refine wlVal (opMove rfl) rfl ?_
  refine wlVal (opMove rfl) rfl ?_
  refine wlVal (opNilCheck rfl) rfl ?_
  refine wlVal (opFieldAddr rfl fo70_0) rfl ?_
  refine wlVal (opFieldAddr rfl fo24_1) rfl ?_
  refine wlVal (opLoadOne (v := (.slice A9 m.crew.nodes.length cap10)) rfl (RowG.cell hC.holds hF14 (j := 1) (by simp [Mark.cells, Do.cells, Word.cells])) one22) rfl ?_
  refine wlVal (opLen rfl isl22) rfl ?_
  refine wlVal (opLssN rfl rfl) rfl ?_
  refine wlThen ?_
  cases h15 : decide (k < m.crew.nodes.length)
  · skip
    refine wcCondF rfl ?_
    refine wcExit ?_
    refine wcOf ?_
    refine wcSeq ?_
    refine wcRegion ?_
    refine wlVal (opAssign rfl) rfl ?_
    refine wlThen ?_
    refine wcRet ?_
    exact fun ac_ ha => hQ _ _ _ (results1 ha rfl rfl) ha.df (endS hC hw (by have e := hI; rw [List.drop_eq_nil_of_le (Nat.le_of_not_lt (of_decide_eq_false h15))] at e; simp [idxG, h15] at e; first | (simp [placeI, h15, e]; done) | (simp [placeI, h15, ← e]; done) | (simp [placeI, h15]; exact e)))
  · skip
    refine wcCondT rfl ?_
    refine wcSkip ?_
    refine wcOf ?_
    refine wcSeq ?_
    refine wcBlock ?_
    refine wcSeq ?_
    refine wcRegion ?_
    refine wlVal (opMove rfl) rfl ?_
    refine wlVal (opNilCheck rfl) rfl ?_
    refine wlVal (opFieldAddr rfl fo70_0) rfl ?_
    refine wlVal (opFieldAddr rfl fo24_1) rfl ?_
    refine wlVal (opLoadOne (v := (.slice A9 m.crew.nodes.length cap10)) rfl (RowG.cell hC.holds hF14 (j := 1) (by simp [Mark.cells, Do.cells, Word.cells])) one22) rfl ?_
    refine wlVal (opMove rfl) rfl ?_
    obtain ⟨x16, hx17⟩ : ∃ y_, m.crew.nodes[k]? = some y_ := ⟨_, List.getElem?_eq_getElem (of_decide_eq_true h15)⟩
    obtain ⟨b18, o19, row20, hA23, hr21, hi22⟩ := hs5.elem hx17; subst hA23
    obtain rfl := hi22
    refine wlVal (opIndexAddr rfl rfl slo22 (of_decide_eq_true h15)) rfl ?_
    refine wlVal (opLoadOne (v := (.int .i64 x16)) rfl (RowG.cell0 hC.holds hr21 rfl) one3) rfl ?_
    refine wlVal (opMove rfl) rfl ?_
    refine wlVal (opEql rfl rfl) rfl ?_
    refine wlThen ?_
    cases h24 : x16 == n
    · skip
      refine wcCondF rfl ?_
      refine wcSkip ?_
      refine wcOf ?_
      refine wcRegion ?_
      refine wlVal (opMove rfl) rfl ?_
      refine wlVal (opIncr rfl rfl (incr_ok (of_decide_eq_true h15) hs5.le)) rfl ?_
      refine wlVal (opAssign rfl) rfl ?_
      refine wlRound ?_
      exact (IH0 (k + 1) _ _ ⟨hC, hB, hs5, hs11, hbm, hlm, hm, hF14, (by rw [← hI, drop_get hx17]; simp [idxG, h15, h24])⟩ (by have := of_decide_eq_true h15; simp; omega)).sub (fun _ ha => (((ha.start.cons ha (t := 0) rfl).cons ha (t := 1) rfl).cons ha (t := 5) rfl))
    · skip
      refine wcCondT rfl ?_
      refine wcSeq ?_
      refine wcRegion ?_
      refine wlVal (opMove rfl) rfl ?_
      refine wlVal (opAssign rfl) rfl ?_
      refine wlThen ?_
      refine wcRet ?_
      exact fun ac_ ha => hQ _ _ _ (results1 ha rfl rfl) ha.df (endS hC hw (by have e := hI; rw [drop_get hx17] at e; simp [idxG, h15, h24] at e; first | (simp [placeI, h15, h24, e]; done) | (simp [placeI, h15, h24, ← e]; done) | (simp [placeI, h15, h24]; exact e)))

theorem tell_ret (G0 : Gh) (w0 : World) (hw : Holds G0 w0) (bm lm : Nat) (om qm : Obj) (m : RSt) (hbm : HasO G0 bm om) (hlm : HasO G0 lm qm) (hm : RMarksO G0 om qm lm m) (x : Mark) :
    RetS Try.prog 64 #[.pointer (some ⟨bm, 0, none⟩), .agg x.cells.toArray] G0 w0 (.int .i64 (((cntL m.l x : Nat) : Int))) := by
  have hC := Cx.refl hw
  have hB : Bxs G0 w0 w0.heap.size [] := Bxs.nil _ _ _
  obtain ⟨v1, v2, cs3, e4, hs5, e6, hO7, hn8⟩ := id hm
  have him := hn8
  obtain ⟨A9, cap10, rfl⟩ := hs5.form
  have hs11 := hO7.frozen (by rw [← e6]; exact hlm) (by rw [hn8.1]; exact hs5.le)
  obtain ⟨A12, cap13, rfl⟩ := hs11.form
  have hF14 : RowG G0 bm 0 ((.int .i64 m.crew.faults) :: ((.slice A9 m.crew.nodes.length cap10) :: ((.int .i64 m.mark.seq) :: (m.mark.dig.cells ++ ((.slice A12 m.l.length cap13) :: []))))) := HasO.row (T := 70) (by rw [← e4]; exact hbm)
  refine callsOf Try.func64 rfl _ Try.ntmps64 rfl _ (argsCons (argsCons argsNil (t := 0) rfl) (t := 1) rfl) ?_; intro Q0 hQ
  refine wcSeq ?_
  refine wcRegion ?_
  refine wlBox (cs := x.cells) hC hB rfl rfl rfl ?_; intro b15 w hk hC hB
  refine wlVal (opAssign rfl) rfl ?_
  refine wlThen ?_
  refine wcSeq ?_
  refine wcRegion ?_
  refine wlVal (opAssign rfl) rfl ?_
  refine wlThen ?_
  refine wcSeq ?_
  refine wcSeq ?_
  refine wcRegion ?_
  refine wlVal (opAssign rfl) rfl ?_
  refine wlThen ?_
  refine wcBlock ?_
  refine WC.sub (wrInd (ι := Nat × Nat) (fun i => match i with | (k, n) => m.l.length - k) (fun i G w => match i with | (k, n) => Cx w0 G0 G w ∧ Bxs G w w0.heap.size [(b15, 28, x.cells)] ∧ Sl G (.slice A9 m.crew.nodes.length cap10) m.crew.nodes ∧ Sl G (.slice A12 m.l.length cap13) m.l ∧ HasO G bm om ∧ HasO G lm qm ∧ RMarksO G om qm lm m ∧ RowG G bm 0 ((.int .i64 m.crew.faults) :: ((.slice A9 m.crew.nodes.length cap10) :: ((.int .i64 m.mark.seq) :: (m.mark.dig.cells ++ ((.slice A12 m.l.length cap13) :: []))))) ∧ n ≤ 4 * k ∧ n + cntL (m.l.drop k) x = cntL m.l x) (fun i => match i with | (k, n) => ((((Env.nil.put 0 (.pointer (some ⟨bm, 0, none⟩))).put 3 (.pointer (some ⟨b15, 0, none⟩))).put 5 (.int .i64 (((n : Nat) : Int)))).put 6 (.int .i64 (((k : Nat) : Int))))) ?_ (0, 0) _ _ ⟨hC, hB, hs5, hs11, hbm, hlm, hm, hF14, (Nat.zero_le _), (by simp)⟩) (fun _ ha => ((((ha.start.cons ha (t := 0) rfl).cons ha (t := 3) rfl).cons ha (t := 5) rfl).cons ha (t := 6) rfl))
  rintro ⟨k, n⟩ G w N0 IH0 ⟨hC, hB, hs5, hs11, hbm, hlm, hm, hF14, hn, hI⟩
  show WC _ _ _ _ ((((Env.nil.put 0 (.pointer (some ⟨bm, 0, none⟩))).put 3 (.pointer (some ⟨b15, 0, none⟩))).put 5 (.int .i64 (((n : Nat) : Int)))).put 6 (.int .i64 (((k : Nat) : Int)))) w
  refine wcSeq ?_
  refine wcSeq ?_
  refine wcRegion ?_
  refine wlVal (opMove rfl) rfl ?_
  refine wlVal (opMove rfl) rfl ?_
  refine wlVal (opNilCheck rfl) rfl ?_
  refine wlVal (opFieldAddr rfl fo70_2) rfl ?_
  refine wlVal (opLoadOne (v := (.slice A12 m.l.length cap13)) rfl (RowG.cell hC.holds hF14 (j := 35) (by simp [Mark.cells, Do.cells, Word.cells])) one68) rfl ?_
  refine wlVal (opLen rfl isl68) rfl ?_
  refine wlVal (opLssN rfl rfl) rfl ?_
  refine wlThen ?_
  cases h16 : decide (k < m.l.length)
  · skip
    refine wcCondF rfl ?_
    refine wcExit ?_
    refine wcOf ?_
    refine wcSeq ?_
    refine wcRegion ?_
    refine wlVal (opMove rfl) rfl ?_
    refine wlVal (opAssign rfl) rfl ?_
    refine wlThen ?_
    refine wcRet ?_
    exact fun ac_ ha => hQ _ _ _ (results1 ha rfl rfl) ha.df (endS hC hw (by have e := hI; rw [List.drop_eq_nil_of_le (Nat.le_of_not_lt (of_decide_eq_false h16))] at e; simp [cntL_nil] at e; simp [e]))
  · skip
    refine wcCondT rfl ?_
    refine wcSkip ?_
    refine wcOf ?_
    refine wcSeq ?_
    refine wcBlock ?_
    refine wcSeq ?_
    refine wcRegion ?_
    refine wlVal (opAssign rfl) rfl ?_
    refine wlThen ?_
    refine wcBlock ?_
    obtain ⟨x17, hx18⟩ : ∃ y_, m.l[k]? = some y_ := ⟨_, List.getElem?_eq_getElem (of_decide_eq_true h16)⟩
    obtain ⟨b19, o20, row21, hA24, hr22, hi23⟩ := hs11.elem hx18; subst hA24
    obtain ⟨v25, rfl, hs26⟩ := hi23
    obtain ⟨A27, cap28, rfl⟩ := hs26.form
    refine WC.sub (wrInd (ι := Nat × Nat) (fun i => match i with | (i, n) => x17.length - i) (fun i G w => match i with | (i, n) => Cx w0 G0 G w ∧ Bxs G w w0.heap.size [(b15, 28, x.cells)] ∧ Sl G (.slice A9 m.crew.nodes.length cap10) m.crew.nodes ∧ Sl G (.slice (some ⟨b19, o20, none⟩) m.l.length cap13) m.l ∧ HasO G bm om ∧ HasO G lm qm ∧ RMarksO G om qm lm m ∧ Sl G (.slice A27 x17.length cap28) x17 ∧ RowG G b19 (o20 + k * 1) [(.slice A27 x17.length cap28)] ∧ RowG G bm 0 ((.int .i64 m.crew.faults) :: ((.slice A9 m.crew.nodes.length cap10) :: ((.int .i64 m.mark.seq) :: (m.mark.dig.cells ++ ((.slice (some ⟨b19, o20, none⟩) m.l.length cap13) :: []))))) ∧ i ≤ x17.length ∧ n ≤ 4 * k + i ∧ n + ((x17.drop i).countP (fun y => decide (y = x)) + cntL (m.l.drop (k + 1)) x) = cntL m.l x) (fun i => match i with | (i, n) => (((((Env.nil.put 0 (.pointer (some ⟨bm, 0, none⟩))).put 3 (.pointer (some ⟨b15, 0, none⟩))).put 5 (.int .i64 (((n : Nat) : Int)))).put 6 (.int .i64 (((k : Nat) : Int)))).put 7 (.int .i64 (((i : Nat) : Int))))) ?_ (0, n) _ _ ⟨hC, hB, hs5, hs11, hbm, hlm, hm, hs26, hr22, hF14, (by simp), (by omega), (by rw [← hI, drop_get hx18, cntL_cons]; rfl)⟩) (fun _ ha => (((((ha.start.cons ha (t := 0) rfl).cons ha (t := 3) rfl).cons ha (t := 5) rfl).cons ha (t := 6) rfl).cons ha (t := 7) rfl))
    rintro ⟨i, n⟩ G w N1 IH1 ⟨hC, hB, hs5, hs11, hbm, hlm, hm, hs26, hr22, hF14, hi1, hi2, hJ⟩
    show WC _ _ _ _ (((((Env.nil.put 0 (.pointer (some ⟨bm, 0, none⟩))).put 3 (.pointer (some ⟨b15, 0, none⟩))).put 5 (.int .i64 (((n : Nat) : Int)))).put 6 (.int .i64 (((k : Nat) : Int)))).put 7 (.int .i64 (((i : Nat) : Int)))) w
    refine wcSeq ?_
    refine wcSeq ?_
    refine wcRegion ?_
    refine wlVal (opMove rfl) rfl ?_
    refine wlVal (opMove rfl) rfl ?_
    refine wlVal (opNilCheck rfl) rfl ?_
    refine wlVal (opFieldAddr rfl fo70_2) rfl ?_
    refine wlVal (opLoadOne (v := (.slice (some ⟨b19, o20, none⟩) m.l.length cap13)) rfl (RowG.cell hC.holds hF14 (j := 35) (by simp [Mark.cells, Do.cells, Word.cells])) one68) rfl ?_
    refine wlVal (opMove rfl) rfl ?_
    refine wlVal (opIndexAddr rfl rfl slo68 (of_decide_eq_true h16)) rfl ?_
    refine wlVal (opLoadOne (v := (.slice A27 x17.length cap28)) rfl (RowG.cell0 hC.holds hr22 rfl) one54) rfl ?_
    refine wlVal (opLen rfl isl54) rfl ?_
    refine wlVal (opLssN rfl rfl) rfl ?_
    refine wlThen ?_
    cases h29 : decide (i < x17.length)
    · skip
      refine wcCondF rfl ?_
      refine wcExit ?_
      refine wcOf ?_
      refine wcRegion ?_
      refine wlVal (opMove rfl) rfl ?_
      refine wlVal (opIncr rfl rfl (incr_ok (of_decide_eq_true h16) hs11.le)) rfl ?_
      refine wlVal (opAssign rfl) rfl ?_
      refine wlRound ?_
      exact (IH0 (k + 1, n) _ _ ⟨hC, hB, hs5, hs11, hbm, hlm, hm, hF14, (by have q := him.get hx18; have q2 := of_decide_eq_false h29; omega), (by rw [← hJ, List.drop_eq_nil_of_le (Nat.le_of_not_lt (of_decide_eq_false h29))]; simp)⟩ (by have := of_decide_eq_true h16; simp; omega)).sub (fun _ ha => ((((ha.start.cons ha (t := 0) rfl).cons ha (t := 3) rfl).cons ha (t := 5) rfl).cons ha (t := 6) rfl))
    · skip
      refine wcCondT rfl ?_
      refine wcSkip ?_
      refine wcOf ?_
      refine wcSeq ?_
      refine wcBlock ?_
      refine wcSeq ?_
      obtain ⟨x30, hx31⟩ : ∃ y_, x17[i]? = some y_ := ⟨_, List.getElem?_eq_getElem (of_decide_eq_true h29)⟩
      obtain ⟨b32, o33, row34, hA37, hr35, hi36⟩ := hs26.elem hx31; subst hA37
      obtain rfl := hi36
      refine wcDraw fmix (by kernel_rfl) (by kernel_rfl) (vAt [(fun _ v_ => v_ = (.pointer (some ⟨bm, 0, none⟩))), (fun _ v_ => v_ = (.pointer (some ⟨bm, 0, none⟩))), (fun _ v_ => v_ = (.pointer (some ⟨bm, 35, none⟩))), (fun _ v_ => v_ = (.slice (some ⟨b19, o20, none⟩) m.l.length cap13)), (fun _ v_ => v_ = (.int .i64 (((k : Nat) : Int)))), (fun _ v_ => v_ = (.pointer (some ⟨b19, o20 + k * 1, none⟩))), (fun _ v_ => v_ = (.slice (some ⟨b32, o33, none⟩) x17.length cap28)), (fun _ v_ => v_ = (.int .i64 (((i : Nat) : Int)))), (fun _ v_ => v_ = (.pointer (some ⟨b32, o33 + i * 33, none⟩))), (fun _ v_ => v_ = (.agg x30.cells.toArray)), (fun _ v_ => v_ = (.agg x.cells.toArray)), (fun _ v_ => v_ = (.bool (decide (x30 = x))))]) (fun _ _ G' w => Cx w0 G0 G' w ∧ Bxs G' w w0.heap.size [(b15, 28, x.cells)] ∧ GLe G G') G (vAt_mono ⟨fun _ _ _ _ h => h, fun _ _ _ _ h => h, fun _ _ _ _ h => h, fun _ _ _ _ h => h, fun _ _ _ _ h => h, fun _ _ _ _ h => h, fun _ _ _ _ h => h, fun _ _ _ _ h => h, fun _ _ _ _ h => h, fun _ _ _ _ h => h, fun _ _ _ _ h => h, fun _ _ _ _ h => h, trivial⟩) (fun _ _ => ⟨hC.drew, hB.drew, fun _ _ h => h⟩) ?_ ?_
      · refine dsNone (j := 1) rfl ?_ ?_
        · intro done G w ac_ hd hp hn ⟨hC, hB, hg⟩ hM
          have f0 : ac_.tmps[0]? = some (.pointer (some ⟨bm, 0, none⟩)) := hM.old0 rfl rfl
          have hF : Fr 44 ac_ (Env.nil.put 0 (.pointer (some ⟨bm, 0, none⟩))) := (hM.fr.add f0)
          exact OpVal.draw hF (opMove rfl) ⟨G, fun _ _ h => h, ⟨hC, hB, hg⟩, rfl⟩
        refine dsNone (j := 2) rfl ?_ ?_
        · intro done G w ac_ hd hp hn ⟨hC, hB, hg⟩ hM
          have f29 : ac_.tmps[29]? = some (.pointer (some ⟨bm, 0, none⟩)) := hM.eqv 0 rfl (hp 0 rfl) rfl rfl
          have hF : Fr 44 ac_ (Env.nil.put 29 (.pointer (some ⟨bm, 0, none⟩))) := (hM.fr.add f29)
          exact OpVal.draw hF (opNilCheck rfl) ⟨G, fun _ _ h => h, ⟨hC, hB, hg⟩, rfl⟩
        refine dsNone (j := 3) rfl ?_ ?_
        · intro done G w ac_ hd hp hn ⟨hC, hB, hg⟩ hM
          have f30 : ac_.tmps[30]? = some (.pointer (some ⟨bm, 0, none⟩)) := hM.eqv 1 rfl (hp 1 rfl) rfl rfl
          have hF : Fr 44 ac_ (Env.nil.put 30 (.pointer (some ⟨bm, 0, none⟩))) := (hM.fr.add f30)
          exact OpVal.draw hF (opFieldAddr rfl fo70_2) ⟨G, fun _ _ h => h, ⟨hC, hB, hg⟩, rfl⟩
        refine dsNone (j := 4) rfl ?_ ?_
        · intro done G w ac_ hd hp hn ⟨hC, hB, hg⟩ hM
          replace hF14 := hF14.mono hg
          have f31 : ac_.tmps[31]? = some (.pointer (some ⟨bm, 35, none⟩)) := hM.eqv 2 rfl (hp 2 rfl) rfl rfl
          have hF : Fr 44 ac_ (Env.nil.put 31 (.pointer (some ⟨bm, 35, none⟩))) := (hM.fr.add f31)
          exact OpVal.draw hF (opLoadOne (v := (.slice (some ⟨b19, o20, none⟩) m.l.length cap13)) rfl (RowG.cell hC.holds hF14 (j := 35) (by simp [Mark.cells, Do.cells, Word.cells])) one68) ⟨G, fun _ _ h => h, ⟨hC, hB, hg⟩, rfl⟩
        refine dsNone (j := 5) rfl ?_ ?_
        · intro done G w ac_ hd hp hn ⟨hC, hB, hg⟩ hM
          have f6 : ac_.tmps[6]? = some (.int .i64 (((k : Nat) : Int))) := hM.old0 rfl rfl
          have hF : Fr 44 ac_ (Env.nil.put 6 (.int .i64 (((k : Nat) : Int)))) := (hM.fr.add f6)
          exact OpVal.draw hF (opMove rfl) ⟨G, fun _ _ h => h, ⟨hC, hB, hg⟩, rfl⟩
        refine dsNone (j := 6) rfl ?_ ?_
        · intro done G w ac_ hd hp hn ⟨hC, hB, hg⟩ hM
          have f32 : ac_.tmps[32]? = some (.slice (some ⟨b19, o20, none⟩) m.l.length cap13) := hM.eqv 3 rfl (hp 3 rfl) rfl rfl
          have f33 : ac_.tmps[33]? = some (.int .i64 (((k : Nat) : Int))) := hM.eqv 4 rfl (hp 4 rfl) rfl rfl
          have hF : Fr 44 ac_ ((Env.nil.put 32 (.slice (some ⟨b19, o20, none⟩) m.l.length cap13)).put 33 (.int .i64 (((k : Nat) : Int)))) := ((hM.fr.add f32).add f33)
          exact OpVal.draw hF (opIndexAddr rfl rfl slo68 (of_decide_eq_true h16)) ⟨G, fun _ _ h => h, ⟨hC, hB, hg⟩, rfl⟩
        refine dsNone (j := 7) rfl ?_ ?_
        · intro done G w ac_ hd hp hn ⟨hC, hB, hg⟩ hM
          replace hr22 := hr22.mono hg
          have f34 : ac_.tmps[34]? = some (.pointer (some ⟨b19, o20 + k * 1, none⟩)) := hM.eqv 5 rfl (hp 5 rfl) rfl rfl
          have hF : Fr 44 ac_ (Env.nil.put 34 (.pointer (some ⟨b19, o20 + k * 1, none⟩))) := (hM.fr.add f34)
          exact OpVal.draw hF (opLoadOne (v := (.slice (some ⟨b32, o33, none⟩) x17.length cap28)) rfl (RowG.cell0 hC.holds hr22 rfl) one54) ⟨G, fun _ _ h => h, ⟨hC, hB, hg⟩, rfl⟩
        refine dsNone (j := 8) rfl ?_ ?_
        · intro done G w ac_ hd hp hn ⟨hC, hB, hg⟩ hM
          have f7 : ac_.tmps[7]? = some (.int .i64 (((i : Nat) : Int))) := hM.old0 rfl rfl
          have hF : Fr 44 ac_ (Env.nil.put 7 (.int .i64 (((i : Nat) : Int)))) := (hM.fr.add f7)
          exact OpVal.draw hF (opMove rfl) ⟨G, fun _ _ h => h, ⟨hC, hB, hg⟩, rfl⟩
        refine dsNone (j := 9) rfl ?_ ?_
        · intro done G w ac_ hd hp hn ⟨hC, hB, hg⟩ hM
          have f35 : ac_.tmps[35]? = some (.slice (some ⟨b32, o33, none⟩) x17.length cap28) := hM.eqv 6 rfl (hp 6 rfl) rfl rfl
          have f36 : ac_.tmps[36]? = some (.int .i64 (((i : Nat) : Int))) := hM.eqv 7 rfl (hp 7 rfl) rfl rfl
          have hF : Fr 44 ac_ ((Env.nil.put 35 (.slice (some ⟨b32, o33, none⟩) x17.length cap28)).put 36 (.int .i64 (((i : Nat) : Int)))) := ((hM.fr.add f35).add f36)
          exact OpVal.draw hF (opIndexAddr rfl rfl slo54 (of_decide_eq_true h29)) ⟨G, fun _ _ h => h, ⟨hC, hB, hg⟩, rfl⟩
        refine dsNone (j := 10) rfl ?_ ?_
        · intro done G w ac_ hd hp hn ⟨hC, hB, hg⟩ hM
          replace hr35 := hr35.mono hg
          have f37 : ac_.tmps[37]? = some (.pointer (some ⟨b32, o33 + i * 33, none⟩)) := hM.eqv 8 rfl (hp 8 rfl) rfl rfl
          have hF : Fr 44 ac_ (Env.nil.put 37 (.pointer (some ⟨b32, o33 + i * 33, none⟩))) := (hM.fr.add f37)
          exact OpVal.draw hF (opLoadRow (cs := x30.cells) rfl (RowG.range hC.holds hr35) row28 (by simp [Mark.cells, Do.cells, Word.cells])) ⟨G, fun _ _ h => h, ⟨hC, hB, hg⟩, rfl⟩
        refine dsNone (j := 11) rfl ?_ ?_
        · intro done G w ac_ hd hp hn ⟨hC, hB, hg⟩ hM
          have f3 : ac_.tmps[3]? = some (.pointer (some ⟨b15, 0, none⟩)) := hM.old0 rfl rfl
          have hF : Fr 44 ac_ (Env.nil.put 3 (.pointer (some ⟨b15, 0, none⟩))) := (hM.fr.add f3)
          exact OpVal.draw hF (opLoadRow (cs := x.cells) rfl (hB.range (i := 0) (m := 33) rfl (by simp [Mark.cells, Do.cells, Word.cells])) row28 (by simp [Mark.cells, Do.cells, Word.cells])) ⟨G, fun _ _ h => h, ⟨hC, hB, hg⟩, rfl⟩
        refine dsNone (j := 12) rfl ?_ ?_
        · intro done G w ac_ hd hp hn ⟨hC, hB, hg⟩ hM
          have f38 : ac_.tmps[38]? = some (.agg x30.cells.toArray) := hM.eqv 9 rfl (hp 9 rfl) rfl rfl
          have f39 : ac_.tmps[39]? = some (.agg x.cells.toArray) := hM.eqv 10 rfl (hp 10 rfl) rfl rfl
          have hF : Fr 44 ac_ ((Env.nil.put 38 (.agg x30.cells.toArray)).put 39 (.agg x.cells.toArray)) := ((hM.fr.add f38).add f39)
          exact OpVal.draw hF (opEqRow (eq28 _ x30 x) eg28 rfl rfl) ⟨G, fun _ _ h => h, ⟨hC, hB, hg⟩, rfl⟩
        exact dsNil
      · intro done G w ac_ hall ⟨hC, hB, hg⟩ hM
        replace hs5 := hs5.mono hg
        replace hs11 := hs11.mono hg
        replace hbm := hbm.mono hg
        replace hlm := hlm.mono hg
        replace hm := hm.mono hg
        replace hs26 := hs26.mono hg
        replace hr22 := hr22.mono hg
        replace hr35 := hr35.mono hg
        replace hF14 := hF14.mono hg
        have f0 : ac_.tmps[0]? = some (.pointer (some ⟨bm, 0, none⟩)) := hM.old0 rfl rfl
        have f3 : ac_.tmps[3]? = some (.pointer (some ⟨b15, 0, none⟩)) := hM.old0 rfl rfl
        have f5 : ac_.tmps[5]? = some (.int .i64 (((n : Nat) : Int))) := hM.old0 rfl rfl
        have f6 : ac_.tmps[6]? = some (.int .i64 (((k : Nat) : Int))) := hM.old0 rfl rfl
        have f7 : ac_.tmps[7]? = some (.int .i64 (((i : Nat) : Int))) := hM.old0 rfl rfl
        have f40 : ac_.tmps[40]? = some (.bool (decide (x30 = x))) := hM.eqv 11 rfl (hall 11 (by decide)) rfl rfl
        refine ⟨((((((Env.nil.put 0 (.pointer (some ⟨bm, 0, none⟩))).put 3 (.pointer (some ⟨b15, 0, none⟩))).put 5 (.int .i64 (((n : Nat) : Int)))).put 6 (.int .i64 (((k : Nat) : Int)))).put 7 (.int .i64 (((i : Nat) : Int)))).put 40 (.bool (decide (x30 = x)))), ((((((hM.fr.add f0).add f3).add f5).add f6).add f7).add f40), ?_⟩
        clear hM hall
        refine wcOf ?_
        cases h38 : decide (x30 = x)
        · skip
          refine wcCondF rfl ?_
          refine wcSkip ?_
          refine wcOf ?_
          refine wcRegion ?_
          refine wlVal (opMove rfl) rfl ?_
          refine wlVal (opIncr rfl rfl (incr_ok (of_decide_eq_true h29) hs26.le)) rfl ?_
          refine wlVal (opAssign rfl) rfl ?_
          refine wlRound ?_
          exact (IH1 (i + 1, n) _ _ ⟨hC, hB, hs5, hs11, hbm, hlm, hm, hs26, hr22, hF14, (of_decide_eq_true h29), (by omega), (by rw [← hJ, drop_get hx31]; simp only [List.countP_cons, h38]; simp; try omega)⟩ (by have := of_decide_eq_true h16; have := of_decide_eq_true h29; simp; omega)).sub (fun _ ha => (((((ha.start.cons ha (t := 0) rfl).cons ha (t := 3) rfl).cons ha (t := 5) rfl).cons ha (t := 6) rfl).cons ha (t := 7) rfl))
        · skip
          refine wcCondT rfl ?_
          refine wcRegion ?_
          refine wlVal (opMove rfl) rfl ?_
          refine wlVal (opIncr rfl rfl (by have q := him.get hx18; have q2 := of_decide_eq_true h29; have q3 := of_decide_eq_true h16; have q4 := hs11.le; unfold maxL at q4; omega)) rfl ?_
          refine wlVal (opAssign rfl) rfl ?_
          refine wlNil ?_
          refine wcOf ?_
          refine wcRegion ?_
          refine wlVal (opMove rfl) rfl ?_
          refine wlVal (opIncr rfl rfl (incr_ok (of_decide_eq_true h29) hs26.le)) rfl ?_
          refine wlVal (opAssign rfl) rfl ?_
          refine wlRound ?_
          exact (IH1 (i + 1, n + 1) _ _ ⟨hC, hB, hs5, hs11, hbm, hlm, hm, hs26, hr22, hF14, (of_decide_eq_true h29), (by omega), (by rw [← hJ, drop_get hx31]; simp only [List.countP_cons, h38]; simp; try omega)⟩ (by have := of_decide_eq_true h16; have := of_decide_eq_true h29; simp; omega)).sub (fun _ ha => (((((ha.start.cons ha (t := 0) rfl).cons ha (t := 3) rfl).cons ha (t := 5) rfl).cons ha (t := 6) rfl).cons ha (t := 7) rfl))

theorem rgreatest_ret (G0 : Gh) (w0 : World) (hw : Holds G0 w0) (bm lm : Nat) (om qm : Obj) (m : RSt) (hbm : HasO G0 bm om) (hlm : HasO G0 lm qm) (hm : RMarksO G0 om qm lm m) (many : Int) :
    RetS Try.prog 56 #[.pointer (some ⟨bm, 0, none⟩), .int .i64 many] G0 w0 (.tuple #[(.agg ((gR m.l many).1).cells.toArray), (.bool ((gR m.l many).2))]) := by
  have hC := Cx.refl hw
  have hB : Bxs G0 w0 w0.heap.size [] := Bxs.nil _ _ _
  obtain ⟨v1, v2, cs3, e4, hs5, e6, hO7, hn8⟩ := id hm
  have him := hn8
  obtain ⟨A9, cap10, rfl⟩ := hs5.form
  have hs11 := hO7.frozen (by rw [← e6]; exact hlm) (by rw [hn8.1]; exact hs5.le)
  obtain ⟨A12, cap13, rfl⟩ := hs11.form
  have hF14 : RowG G0 bm 0 ((.int .i64 m.crew.faults) :: ((.slice A9 m.crew.nodes.length cap10) :: ((.int .i64 m.mark.seq) :: (m.mark.dig.cells ++ ((.slice A12 m.l.length cap13) :: []))))) := HasO.row (T := 70) (by rw [← e4]; exact hbm)
  refine callsOf Try.func56 rfl _ Try.ntmps56 rfl _ (argsCons (argsCons argsNil (t := 0) rfl) (t := 1) rfl) ?_; intro Q0 hQ
  refine wcSeq ?_
  refine wcRegion ?_
  refine wlAlloc hC hB zero28 rfl ?_; intro b15 w hk hC hB
  refine wlVal (opAssign rfl) rfl ?_
  refine wlThen ?_
  refine wcSeq ?_
  refine wcRegion ?_
  refine wlVal (opBuild (ps := []) (cs := ((.int .i64 0) :: (Dig.zero.cells ++ []))) so28 zero28 rfl rfl (by first | (simp [buildCells, Value.cells]; done) | simp [buildCells, Value.cells, Mark.cells, Do.cells, Word.cells])) rfl ?_
  refine wlAlloc hC hB zero28 rfl ?_; intro b16 w hk hC hB
  refine wlStore 0 (vs := ((.int .i64 0) :: (Dig.zero.cells ++ []))) (cs := ((.int .i64 0) :: (Dig.zero.cells ++ []))) (cs' := ((.int .i64 0) :: (Dig.zero.cells ++ []))) hC hB rfl rfl rfl sz28 rfl (by simp [Mark.cells, Do.cells, Word.cells]) (by simp [Mark.cells, Do.cells, Word.cells, Value.oneCell']) (by simp [Mark.cells, Do.cells, Word.cells]) (by simp [Mark.cells, Do.cells, Word.cells]) rfl ?_; intro w hC hB
  refine wlVal (opAssign rfl) rfl ?_
  refine wlThen ?_
  refine wcSeq ?_
  refine wcSeq ?_
  refine wcRegion ?_
  refine wlVal (opAssign rfl) rfl ?_
  refine wlThen ?_
  refine wcBlock ?_
  refine WC.sub (wrInd (ι := Nat × Mark × Bool) (fun i => match i with | (k, o, ok) => m.l.length - k) (fun i G w => match i with | (k, o, ok) => Cx w0 G0 G w ∧ Bxs G w w0.heap.size [(b16, 28, o.cells), (b15, 28, ((.int .i64 0) :: (Dig.zero.cells ++ [])))] ∧ Sl G (.slice A9 m.crew.nodes.length cap10) m.crew.nodes ∧ Sl G (.slice A12 m.l.length cap13) m.l ∧ HasO G bm om ∧ HasO G lm qm ∧ RMarksO G om qm lm m ∧ RowG G bm 0 ((.int .i64 m.crew.faults) :: ((.slice A9 m.crew.nodes.length cap10) :: ((.int .i64 m.mark.seq) :: (m.mark.dig.cells ++ ((.slice A12 m.l.length cap13) :: []))))) ∧ bestG (mayG m.l many) cmpM ((m.l.drop k).flatten) o ok = bestG (mayG m.l many) cmpM m.l.flatten default false) (fun i => match i with | (k, o, ok) => ((((((Env.nil.put 0 (.pointer (some ⟨bm, 0, none⟩))).put 1 (.int .i64 many)).put 4 (.pointer (some ⟨b15, 0, none⟩))).put 6 (.pointer (some ⟨b16, 0, none⟩))).put 7 (.bool ok)).put 8 (.int .i64 (((k : Nat) : Int))))) ?_ (0, (Mark.mk 0 Dig.zero), false) _ _ ⟨hC, hB, hs5, hs11, hbm, hlm, hm, hF14, rfl⟩) (fun _ ha => ((((((ha.start.cons ha (t := 0) rfl).cons ha (t := 1) rfl).cons ha (t := 4) rfl).cons ha (t := 6) rfl).cons ha (t := 7) rfl).cons ha (t := 8) rfl))
  rintro ⟨k, o, ok⟩ G w N0 IH0 ⟨hC, hB, hs5, hs11, hbm, hlm, hm, hF14, hI⟩
  show WC _ _ _ _ ((((((Env.nil.put 0 (.pointer (some ⟨bm, 0, none⟩))).put 1 (.int .i64 many)).put 4 (.pointer (some ⟨b15, 0, none⟩))).put 6 (.pointer (some ⟨b16, 0, none⟩))).put 7 (.bool ok)).put 8 (.int .i64 (((k : Nat) : Int)))) w
  refine wcSeq ?_
  refine wcSeq ?_
  refine wcRegion ?_
  refine wlVal (opMove rfl) rfl ?_
  refine wlVal (opMove rfl) rfl ?_
  refine wlVal (opNilCheck rfl) rfl ?_
  refine wlVal (opFieldAddr rfl fo70_2) rfl ?_
  refine wlVal (opLoadOne (v := (.slice A12 m.l.length cap13)) rfl (RowG.cell hC.holds hF14 (j := 35) (by simp [Mark.cells, Do.cells, Word.cells])) one68) rfl ?_
  refine wlVal (opLen rfl isl68) rfl ?_
  refine wlVal (opLssN rfl rfl) rfl ?_
  refine wlThen ?_
  cases h17 : decide (k < m.l.length)
  · skip
    refine wcCondF rfl ?_
    refine wcExit ?_
    refine wcOf ?_
    refine wcSeq ?_
    refine wcRegion ?_
    refine wlVal (opLoadRow (cs := o.cells) rfl (hB.range (i := 0) (m := 33) rfl (by simp [Mark.cells, Do.cells, Word.cells])) row28 (by simp [Mark.cells, Do.cells, Word.cells])) rfl ?_
    refine wlVal (opMove rfl) rfl ?_
    refine wlStore 1 (vs := o.cells) (cs := ((.int .i64 0) :: (Dig.zero.cells ++ []))) (cs' := o.cells) hC hB rfl rfl rfl sz28 rfl (by simp [Mark.cells, Do.cells, Word.cells]) (by simp [Mark.cells, Do.cells, Word.cells, Value.oneCell']) (by simp [Mark.cells, Do.cells, Word.cells]) (by simp [Mark.cells, Do.cells, Word.cells]) rfl ?_; intro w hC hB
    refine wlVal (opAssign rfl) rfl ?_
    refine wlThen ?_
    refine wcRet ?_
    exact fun ac_ ha => hQ _ _ _ (results2 ha rfl ⟨_, _, o.cells, rfl, row28, (by simp [Mark.cells, Do.cells, Word.cells]), hB.range (i := 1) (m := 33) rfl (by simp [Mark.cells, Do.cells, Word.cells]), rfl⟩ rfl) ha.df (endS hC hw (by have e := hI; rw [List.drop_eq_nil_of_le (Nat.le_of_not_lt (of_decide_eq_false h17))] at e; simp [bestG] at e; simp [gR, ← e]))
  · skip
    refine wcCondT rfl ?_
    refine wcSkip ?_
    refine wcOf ?_
    refine wcSeq ?_
    refine wcBlock ?_
    refine wcSeq ?_
    refine wcRegion ?_
    refine wlVal (opAssign rfl) rfl ?_
    refine wlThen ?_
    refine wcBlock ?_
    obtain ⟨x18, hx19⟩ : ∃ y_, m.l[k]? = some y_ := ⟨_, List.getElem?_eq_getElem (of_decide_eq_true h17)⟩
    obtain ⟨b20, o21, row22, hA25, hr23, hi24⟩ := hs11.elem hx19; subst hA25
    obtain ⟨v26, rfl, hs27⟩ := hi24
    obtain ⟨A28, cap29, rfl⟩ := hs27.form
    refine WC.sub (wrInd (ι := Nat × Mark × Bool) (fun i => match i with | (i, o2, ok2) => x18.length - i) (fun i G w => match i with | (i, o2, ok2) => Cx w0 G0 G w ∧ Bxs G w w0.heap.size [(b16, 28, o2.cells), (b15, 28, ((.int .i64 0) :: (Dig.zero.cells ++ [])))] ∧ Sl G (.slice A9 m.crew.nodes.length cap10) m.crew.nodes ∧ Sl G (.slice (some ⟨b20, o21, none⟩) m.l.length cap13) m.l ∧ HasO G bm om ∧ HasO G lm qm ∧ RMarksO G om qm lm m ∧ Sl G (.slice A28 x18.length cap29) x18 ∧ RowG G b20 (o21 + k * 1) [(.slice A28 x18.length cap29)] ∧ RowG G bm 0 ((.int .i64 m.crew.faults) :: ((.slice A9 m.crew.nodes.length cap10) :: ((.int .i64 m.mark.seq) :: (m.mark.dig.cells ++ ((.slice (some ⟨b20, o21, none⟩) m.l.length cap13) :: []))))) ∧ bestG (mayG m.l many) cmpM (x18.drop i ++ (m.l.drop (k + 1)).flatten) o2 ok2 = bestG (mayG m.l many) cmpM m.l.flatten default false) (fun i => match i with | (i, o2, ok2) => (((((((Env.nil.put 0 (.pointer (some ⟨bm, 0, none⟩))).put 1 (.int .i64 many)).put 4 (.pointer (some ⟨b15, 0, none⟩))).put 6 (.pointer (some ⟨b16, 0, none⟩))).put 7 (.bool ok2)).put 8 (.int .i64 (((k : Nat) : Int)))).put 9 (.int .i64 (((i : Nat) : Int))))) ?_ (0, o, ok) _ _ ⟨hC, hB, hs5, hs11, hbm, hlm, hm, hs27, hr23, hF14, (by rw [← hI, drop_get hx19]; simp)⟩) (fun _ ha => (((((((ha.start.cons ha (t := 0) rfl).cons ha (t := 1) rfl).cons ha (t := 4) rfl).cons ha (t := 6) rfl).cons ha (t := 7) rfl).cons ha (t := 8) rfl).cons ha (t := 9) rfl))
    rintro ⟨i, o2, ok2⟩ G w N1 IH1 ⟨hC, hB, hs5, hs11, hbm, hlm, hm, hs27, hr23, hF14, hJ⟩
    show WC _ _ _ _ (((((((Env.nil.put 0 (.pointer (some ⟨bm, 0, none⟩))).put 1 (.int .i64 many)).put 4 (.pointer (some ⟨b15, 0, none⟩))).put 6 (.pointer (some ⟨b16, 0, none⟩))).put 7 (.bool ok2)).put 8 (.int .i64 (((k : Nat) : Int)))).put 9 (.int .i64 (((i : Nat) : Int)))) w
    refine wcSeq ?_
    refine wcSeq ?_
    refine wcRegion ?_
    refine wlVal (opMove rfl) rfl ?_
    refine wlVal (opMove rfl) rfl ?_
    refine wlVal (opNilCheck rfl) rfl ?_
    refine wlVal (opFieldAddr rfl fo70_2) rfl ?_
    refine wlVal (opLoadOne (v := (.slice (some ⟨b20, o21, none⟩) m.l.length cap13)) rfl (RowG.cell hC.holds hF14 (j := 35) (by simp [Mark.cells, Do.cells, Word.cells])) one68) rfl ?_
    refine wlVal (opMove rfl) rfl ?_
    refine wlVal (opIndexAddr rfl rfl slo68 (of_decide_eq_true h17)) rfl ?_
    refine wlVal (opLoadOne (v := (.slice A28 x18.length cap29)) rfl (RowG.cell0 hC.holds hr23 rfl) one54) rfl ?_
    refine wlVal (opLen rfl isl54) rfl ?_
    refine wlVal (opLssN rfl rfl) rfl ?_
    refine wlThen ?_
    cases h30 : decide (i < x18.length)
    · skip
      refine wcCondF rfl ?_
      refine wcExit ?_
      refine wcOf ?_
      refine wcRegion ?_
      refine wlVal (opMove rfl) rfl ?_
      refine wlVal (opIncr rfl rfl (incr_ok (of_decide_eq_true h17) hs11.le)) rfl ?_
      refine wlVal (opAssign rfl) rfl ?_
      refine wlRound ?_
      exact (IH0 (k + 1, o2, ok2) _ _ ⟨hC, hB, hs5, hs11, hbm, hlm, hm, hF14, (by rw [← hJ, List.drop_eq_nil_of_le (Nat.le_of_not_lt (of_decide_eq_false h30))]; simp)⟩ (by have := of_decide_eq_true h17; simp; omega)).sub (fun _ ha => ((((((ha.start.cons ha (t := 0) rfl).cons ha (t := 1) rfl).cons ha (t := 4) rfl).cons ha (t := 6) rfl).cons ha (t := 7) rfl).cons ha (t := 8) rfl))
    · skip
      refine wcCondT rfl ?_
      refine wcSkip ?_
      refine wcOf ?_
      refine wcSeq ?_
      refine wcBlock ?_
      refine wcSeq ?_
      refine wcRegion ?_
      refine wlVal (opMove rfl) rfl ?_
      refine wlVal (opNilCheck rfl) rfl ?_
      refine wlVal (opFieldAddr rfl fo70_2) rfl ?_
      refine wlVal (opLoadOne (v := (.slice (some ⟨b20, o21, none⟩) m.l.length cap13)) rfl (RowG.cell hC.holds hF14 (j := 35) (by simp [Mark.cells, Do.cells, Word.cells])) one68) rfl ?_
      refine wlVal (opMove rfl) rfl ?_
      refine wlVal (opIndexAddr rfl rfl slo68 (of_decide_eq_true h17)) rfl ?_
      refine wlVal (opLoadOne (v := (.slice A28 x18.length cap29)) rfl (RowG.cell0 hC.holds hr23 rfl) one54) rfl ?_
      refine wlVal (opMove rfl) rfl ?_
      obtain ⟨x31, hx32⟩ : ∃ y_, x18[i]? = some y_ := ⟨_, List.getElem?_eq_getElem (of_decide_eq_true h30)⟩
      obtain ⟨b33, o34, row35, hA38, hr36, hi37⟩ := hs27.elem hx32; subst hA38
      obtain rfl := hi37
      refine wlVal (opIndexAddr rfl rfl slo54 (of_decide_eq_true h30)) rfl ?_
      refine wlVal (opLoadRow (cs := x31.cells) rfl (RowG.range hC.holds hr36) row28 (by simp [Mark.cells, Do.cells, Word.cells])) rfl ?_
      refine wlAlloc hC hB zero28 rfl ?_; intro b39 w hk hC hB
      refine wlStore 0 (vs := x31.cells) (cs := ((.int .i64 0) :: (Dig.zero.cells ++ []))) (cs' := x31.cells) hC hB rfl rfl rfl sz28 rfl (by simp [Mark.cells, Do.cells, Word.cells]) (by simp [Mark.cells, Do.cells, Word.cells, Value.oneCell']) (by simp [Mark.cells, Do.cells, Word.cells]) (by simp [Mark.cells, Do.cells, Word.cells]) rfl ?_; intro w hC hB
      refine wlThen ?_
      refine wcSeq ?_
      refine wcSeq ?_
      refine wcRegion ?_
      refine wlVal (opMove rfl) rfl ?_
      refine wlVal (opLoadRow (cs := x31.cells) rfl (hB.range (i := 0) (m := 33) rfl (by simp [Mark.cells, Do.cells, Word.cells])) row28 (by simp [Mark.cells, Do.cells, Word.cells])) rfl ?_
      refine wlCallS hC hB rfl co64 rfl rfl (tell_ret _ _ hC.holds bm lm _ _ m hbm hlm hm x31) ?_; intro w hk hC hB
      refine wlVal (opMove rfl) rfl ?_
      refine wlVal (opLss rfl rfl) rfl ?_
      refine wlThen ?_
      cases h40 : decide ((((cntL m.l x31 : Nat) : Int)) < many)
      · skip
        refine wcCondF rfl ?_
        refine wcSkip ?_
        refine wcOf ?_
        refine wcSeq ?_
        refine wcRegion ?_
        refine wlVal (opMove rfl) rfl ?_
        refine wlVal (opNot rfl) rfl ?_
        refine wlVal (opMove rfl) rfl ?_
        cases h41 : ok2
        · skip
          refine wlOff rfl rfl rfl rfl ?_
          refine wlOff rfl rfl rfl rfl ?_
          refine wlOff rfl rfl rfl rfl ?_
          refine wlOff rfl rfl rfl rfl ?_
          refine wlOff rfl rfl rfl rfl ?_
          refine wlVal (opPickT rfl rfl) rfl ?_
          refine wlVal (opMove rfl) rfl ?_
          refine wlOff rfl rfl rfl rfl ?_
          refine wlOff rfl rfl rfl rfl ?_
          refine wlOff rfl rfl rfl rfl ?_
          refine wlOff rfl rfl rfl rfl ?_
          refine wlOff rfl rfl rfl rfl ?_
          refine wlOff rfl rfl rfl rfl ?_
          refine wlOffU rfl rfl rfl ?_
          refine wlOffU rfl rfl rfl ?_
          refine wlOffU rfl rfl rfl ?_
          refine wlOffU rfl rfl rfl ?_
          refine wlOffU rfl rfl rfl ?_
          refine wlOff rfl rfl rfl rfl ?_
          refine wlVal (opPickT rfl rfl) rfl ?_
          refine wlThen ?_
          refine wcCondT rfl ?_
          refine wcSeq ?_
          refine wcRegion ?_
          refine wlVal (opLoadRow (cs := x31.cells) rfl (hB.range (i := 0) (m := 33) rfl (by simp [Mark.cells, Do.cells, Word.cells])) row28 (by simp [Mark.cells, Do.cells, Word.cells])) rfl ?_
          refine wlStore 1 (vs := x31.cells) (cs := o2.cells) (cs' := x31.cells) hC hB rfl rfl rfl sz28 rfl (by simp [Mark.cells, Do.cells, Word.cells]) (by simp [Mark.cells, Do.cells, Word.cells, Value.oneCell']) (by simp [Mark.cells, Do.cells, Word.cells]) (by simp [Mark.cells, Do.cells, Word.cells]) rfl ?_; intro w hC hB
          refine wlThen ?_
          refine wcRegion ?_
          refine wlVal (opAssign rfl) rfl ?_
          refine wlNil ?_
          refine wcOf ?_
          refine wcRegion ?_
          refine wlVal (opMove rfl) rfl ?_
          refine wlVal (opIncr rfl rfl (incr_ok (of_decide_eq_true h30) hs27.le)) rfl ?_
          refine wlVal (opAssign rfl) rfl ?_
          refine wlRound ?_
          exact (IH1 (i + 1, x31, true) _ _ ⟨hC, hB.tail, hs5, hs11, hbm, hlm, hm, hs27, hr23, hF14, (by rw [← hJ, drop_get hx32]; simp only [List.cons_append, bestG, mayG, betterM, h40, h41, Bool.not_true, Bool.not_false, Bool.true_or, Bool.false_or, Bool.true_and, Bool.false_and, Bool.and_true, Bool.and_false, Bool.or_true, Bool.or_false, cond_true, cond_false])⟩ (by have := of_decide_eq_true h17; have := of_decide_eq_true h30; simp; omega)).sub (fun _ ha => (((((((ha.start.cons ha (t := 0) rfl).cons ha (t := 1) rfl).cons ha (t := 4) rfl).cons ha (t := 6) rfl).cons ha (t := 7) rfl).cons ha (t := 8) rfl).cons ha (t := 9) rfl))
        · skip
          refine wlOn rfl rfl ?_
          refine wlVal (opFieldAddr rfl fo28_0) rfl ?_
          refine wlOn rfl rfl ?_
          refine wlVal (opLoadOne (v := (.int .i64 x31.seq)) rfl (hB.cell (i := 0) rfl (by simp [Mark.cells, Do.cells, Word.cells])) one3) rfl ?_
          refine wlOn rfl rfl ?_
          refine wlVal (opFieldAddr rfl fo28_0) rfl ?_
          refine wlOn rfl rfl ?_
          refine wlVal (opLoadOne (v := (.int .i64 o2.seq)) rfl (hB.cell (i := 1) rfl (by simp [Mark.cells, Do.cells, Word.cells])) one3) rfl ?_
          refine wlOn rfl rfl ?_
          refine wlVal (opGtr rfl rfl) rfl ?_
          refine wlVal (opPickF rfl rfl) rfl ?_
          refine wlVal (opMove rfl) rfl ?_
          cases h42 : decide (o2.seq < x31.seq)
          · skip
            refine wlOn rfl rfl ?_
            refine wlVal (opFieldAddr rfl fo28_0) rfl ?_
            refine wlOn rfl rfl ?_
            refine wlVal (opLoadOne (v := (.int .i64 x31.seq)) rfl (hB.cell (i := 0) rfl (by simp [Mark.cells, Do.cells, Word.cells])) one3) rfl ?_
            refine wlOn rfl rfl ?_
            refine wlVal (opFieldAddr rfl fo28_0) rfl ?_
            refine wlOn rfl rfl ?_
            refine wlVal (opLoadOne (v := (.int .i64 o2.seq)) rfl (hB.cell (i := 1) rfl (by simp [Mark.cells, Do.cells, Word.cells])) one3) rfl ?_
            refine wlOn rfl rfl ?_
            refine wlVal (opEql rfl rfl) rfl ?_
            refine wlOn rfl rfl ?_
            refine wlVal (opMove rfl) rfl ?_
            cases h43 : x31.seq == o2.seq
            · skip
              refine wlOff rfl rfl rfl rfl ?_
              refine wlOff rfl rfl rfl rfl ?_
              refine wlOff rfl rfl rfl rfl ?_
              refine wlOff rfl rfl rfl rfl ?_
              refine wlOff rfl rfl rfl rfl ?_
              refine wlOn rfl rfl ?_
              refine wlVal (opPickF rfl rfl) rfl ?_
              refine wlVal (opPickF rfl rfl) rfl ?_
              refine wlThen ?_
              refine wcCondF rfl ?_
              refine wcSkip ?_
              refine wcOf ?_
              refine wcRegion ?_
              refine wlVal (opMove rfl) rfl ?_
              refine wlVal (opIncr rfl rfl (incr_ok (of_decide_eq_true h30) hs27.le)) rfl ?_
              refine wlVal (opAssign rfl) rfl ?_
              refine wlRound ?_
              exact (IH1 (i + 1, o2, true) _ _ ⟨hC, hB.tail, hs5, hs11, hbm, hlm, hm, hs27, hr23, hF14, (by rw [← hJ, drop_get hx32]; simp only [List.cons_append, bestG, mayG, betterM, h40, h41, h42, h43, Bool.not_true, Bool.not_false, Bool.true_or, Bool.false_or, Bool.true_and, Bool.false_and, Bool.and_true, Bool.and_false, Bool.or_true, Bool.or_false, cond_true, cond_false])⟩ (by have := of_decide_eq_true h17; have := of_decide_eq_true h30; simp; omega)).sub (fun _ ha => (((((((ha.start.cons ha (t := 0) rfl).cons ha (t := 1) rfl).cons ha (t := 4) rfl).cons ha (t := 6) rfl).cons ha (t := 7) rfl).cons ha (t := 8) rfl).cons ha (t := 9) rfl))
            · skip
              refine wlOn rfl rfl ?_
              refine wlVal (opFieldAddr rfl fo28_1) rfl ?_
              refine wlOn rfl rfl ?_
              refine wlVal (opLoadRow (cs := x31.dig.cells) rfl (hB.range (i := 0) (m := 32) rfl (by simp [Mark.cells, Do.cells, Word.cells])) row26 (by simp [Mark.cells, Do.cells, Word.cells])) rfl ?_
              refine wlOn rfl rfl ?_
              refine wlVal (opFieldAddr rfl fo28_1) rfl ?_
              refine wlOn rfl rfl ?_
              refine wlVal (opLoadRow (cs := o2.dig.cells) rfl (hB.range (i := 1) (m := 32) rfl (by simp [Mark.cells, Do.cells, Word.cells])) row26 (by simp [Mark.cells, Do.cells, Word.cells])) rfl ?_
              refine wlOn rfl rfl ?_
              refine wlCallS hC hB rfl co65 rfl rfl (rless_ret _ _ hC.holds x31.dig o2.dig) ?_; intro w hk hC hB
              refine wlOn rfl rfl ?_
              refine wlVal (opPickT rfl rfl) rfl ?_
              refine wlVal (opPickF rfl rfl) rfl ?_
              refine wlThen ?_
              cases h44 : (lessB x31.dig.l o2.dig.l)
              · skip
                refine wcCondF rfl ?_
                refine wcSkip ?_
                refine wcOf ?_
                refine wcRegion ?_
                refine wlVal (opMove rfl) rfl ?_
                refine wlVal (opIncr rfl rfl (incr_ok (of_decide_eq_true h30) hs27.le)) rfl ?_
                refine wlVal (opAssign rfl) rfl ?_
                refine wlRound ?_
                exact (IH1 (i + 1, o2, true) _ _ ⟨hC, hB.tail, hs5, hs11, hbm, hlm, hm, hs27, hr23, hF14, (by rw [← hJ, drop_get hx32]; simp only [List.cons_append, bestG, mayG, betterM, h40, h41, h42, h43, h44, Bool.not_true, Bool.not_false, Bool.true_or, Bool.false_or, Bool.true_and, Bool.false_and, Bool.and_true, Bool.and_false, Bool.or_true, Bool.or_false, cond_true, cond_false])⟩ (by have := of_decide_eq_true h17; have := of_decide_eq_true h30; simp; omega)).sub (fun _ ha => (((((((ha.start.cons ha (t := 0) rfl).cons ha (t := 1) rfl).cons ha (t := 4) rfl).cons ha (t := 6) rfl).cons ha (t := 7) rfl).cons ha (t := 8) rfl).cons ha (t := 9) rfl))
              · skip
                refine wcCondT rfl ?_
                refine wcSeq ?_
                refine wcRegion ?_
                refine wlVal (opLoadRow (cs := x31.cells) rfl (hB.range (i := 0) (m := 33) rfl (by simp [Mark.cells, Do.cells, Word.cells])) row28 (by simp [Mark.cells, Do.cells, Word.cells])) rfl ?_
                refine wlStore 1 (vs := x31.cells) (cs := o2.cells) (cs' := x31.cells) hC hB rfl rfl rfl sz28 rfl (by simp [Mark.cells, Do.cells, Word.cells]) (by simp [Mark.cells, Do.cells, Word.cells, Value.oneCell']) (by simp [Mark.cells, Do.cells, Word.cells]) (by simp [Mark.cells, Do.cells, Word.cells]) rfl ?_; intro w hC hB
                refine wlThen ?_
                refine wcRegion ?_
                refine wlVal (opAssign rfl) rfl ?_
                refine wlNil ?_
                refine wcOf ?_
                refine wcRegion ?_
                refine wlVal (opMove rfl) rfl ?_
                refine wlVal (opIncr rfl rfl (incr_ok (of_decide_eq_true h30) hs27.le)) rfl ?_
                refine wlVal (opAssign rfl) rfl ?_
                refine wlRound ?_
                exact (IH1 (i + 1, x31, true) _ _ ⟨hC, hB.tail, hs5, hs11, hbm, hlm, hm, hs27, hr23, hF14, (by rw [← hJ, drop_get hx32]; simp only [List.cons_append, bestG, mayG, betterM, h40, h41, h42, h43, h44, Bool.not_true, Bool.not_false, Bool.true_or, Bool.false_or, Bool.true_and, Bool.false_and, Bool.and_true, Bool.and_false, Bool.or_true, Bool.or_false, cond_true, cond_false])⟩ (by have := of_decide_eq_true h17; have := of_decide_eq_true h30; simp; omega)).sub (fun _ ha => (((((((ha.start.cons ha (t := 0) rfl).cons ha (t := 1) rfl).cons ha (t := 4) rfl).cons ha (t := 6) rfl).cons ha (t := 7) rfl).cons ha (t := 8) rfl).cons ha (t := 9) rfl))
          · skip
            refine wlOff rfl rfl rfl rfl ?_
            refine wlOff rfl rfl rfl rfl ?_
            refine wlOff rfl rfl rfl rfl ?_
            refine wlOff rfl rfl rfl rfl ?_
            refine wlOff rfl rfl rfl rfl ?_
            refine wlOff rfl rfl rfl rfl ?_
            refine wlOffU rfl rfl rfl ?_
            refine wlOffU rfl rfl rfl ?_
            refine wlOffU rfl rfl rfl ?_
            refine wlOffU rfl rfl rfl ?_
            refine wlOffU rfl rfl rfl ?_
            refine wlOff rfl rfl rfl rfl ?_
            refine wlVal (opPickT rfl rfl) rfl ?_
            refine wlThen ?_
            refine wcCondT rfl ?_
            refine wcSeq ?_
            refine wcRegion ?_
            refine wlVal (opLoadRow (cs := x31.cells) rfl (hB.range (i := 0) (m := 33) rfl (by simp [Mark.cells, Do.cells, Word.cells])) row28 (by simp [Mark.cells, Do.cells, Word.cells])) rfl ?_
            refine wlStore 1 (vs := x31.cells) (cs := o2.cells) (cs' := x31.cells) hC hB rfl rfl rfl sz28 rfl (by simp [Mark.cells, Do.cells, Word.cells]) (by simp [Mark.cells, Do.cells, Word.cells, Value.oneCell']) (by simp [Mark.cells, Do.cells, Word.cells]) (by simp [Mark.cells, Do.cells, Word.cells]) rfl ?_; intro w hC hB
            refine wlThen ?_
            refine wcRegion ?_
            refine wlVal (opAssign rfl) rfl ?_
            refine wlNil ?_
            refine wcOf ?_
            refine wcRegion ?_
            refine wlVal (opMove rfl) rfl ?_
            refine wlVal (opIncr rfl rfl (incr_ok (of_decide_eq_true h30) hs27.le)) rfl ?_
            refine wlVal (opAssign rfl) rfl ?_
            refine wlRound ?_
            exact (IH1 (i + 1, x31, true) _ _ ⟨hC, hB.tail, hs5, hs11, hbm, hlm, hm, hs27, hr23, hF14, (by rw [← hJ, drop_get hx32]; simp only [List.cons_append, bestG, mayG, betterM, h40, h41, h42, Bool.not_true, Bool.not_false, Bool.true_or, Bool.false_or, Bool.true_and, Bool.false_and, Bool.and_true, Bool.and_false, Bool.or_true, Bool.or_false, cond_true, cond_false])⟩ (by have := of_decide_eq_true h17; have := of_decide_eq_true h30; have := of_decide_eq_true h42; simp; omega)).sub (fun _ ha => (((((((ha.start.cons ha (t := 0) rfl).cons ha (t := 1) rfl).cons ha (t := 4) rfl).cons ha (t := 6) rfl).cons ha (t := 7) rfl).cons ha (t := 8) rfl).cons ha (t := 9) rfl))
      · skip
        refine wcCondT rfl ?_
        refine wcExit ?_
        refine wcOf ?_
        refine wcRegion ?_
        refine wlVal (opMove rfl) rfl ?_
        refine wlVal (opIncr rfl rfl (incr_ok (of_decide_eq_true h30) hs27.le)) rfl ?_
        refine wlVal (opAssign rfl) rfl ?_
        refine wlRound ?_
        exact (IH1 (i + 1, o2, ok2) _ _ ⟨hC, hB.tail, hs5, hs11, hbm, hlm, hm, hs27, hr23, hF14, (by rw [← hJ, drop_get hx32]; simp only [List.cons_append, bestG, mayG, betterM, h40, Bool.not_true, Bool.not_false, Bool.true_or, Bool.false_or, Bool.true_and, Bool.false_and, Bool.and_true, Bool.and_false, Bool.or_true, Bool.or_false, cond_true, cond_false])⟩ (by have := of_decide_eq_true h17; have := of_decide_eq_true h30; have := of_decide_eq_true h40; simp; omega)).sub (fun _ ha => (((((((ha.start.cons ha (t := 0) rfl).cons ha (t := 1) rfl).cons ha (t := 4) rfl).cons ha (t := 6) rfl).cons ha (t := 7) rfl).cons ha (t := 8) rfl).cons ha (t := 9) rfl))

theorem rstable_ret (G0 : Gh) (w0 : World) (hw : Holds G0 w0) (bm lm : Nat) (om qm : Obj) (m : RSt) (hbm : HasO G0 bm om) (hlm : HasO G0 lm qm) (hm : RMarksO G0 om qm lm m) :
    RetS Try.prog 42 #[.pointer (some ⟨bm, 0, none⟩)] G0 w0 (.tuple #[(.agg ((gR m.l (most m.crew)).1).cells.toArray), (.bool ((gR m.l (most m.crew)).2))]) := by
  have hC := Cx.refl hw
  have hB : Bxs G0 w0 w0.heap.size [] := Bxs.nil _ _ _
  obtain ⟨v1, v2, cs3, e4, hs5, e6, hO7, hn8⟩ := id hm
  have him := hn8
  obtain ⟨A9, cap10, rfl⟩ := hs5.form
  have hs11 := hO7.frozen (by rw [← e6]; exact hlm) (by rw [hn8.1]; exact hs5.le)
  obtain ⟨A12, cap13, rfl⟩ := hs11.form
  have hF14 : RowG G0 bm 0 ((.int .i64 m.crew.faults) :: ((.slice A9 m.crew.nodes.length cap10) :: ((.int .i64 m.mark.seq) :: (m.mark.dig.cells ++ ((.slice A12 m.l.length cap13) :: []))))) := HasO.row (T := 70) (by rw [← e4]; exact hbm)
  refine callsOf Try.func42 rfl _ Try.ntmps42 rfl _ (argsCons argsNil (t := 0) rfl) ?_; intro Q0 hQ
  refine wcSeq ?_
  refine wcRegion ?_
  refine wlAlloc hC hB zero28 rfl ?_; intro b15 w hk hC hB
  refine wlVal (opAssign rfl) rfl ?_
  refine wlThen ?_
  refine wcSeq ?_
  refine wcRegion ?_
  refine wlVal (opMove rfl) rfl ?_
  refine wlVal (opMove rfl) rfl ?_
  refine wlVal (opNilCheck rfl) rfl ?_
  refine wlVal (opFieldAddr rfl fo70_0) rfl ?_
  refine wlVal (opLoadRow (cs := [(.int .i64 m.crew.faults), (.slice A9 m.crew.nodes.length cap10)]) rfl (RowG.range hC.holds (hF14.part (i := 0) (m := 2) (by simp [Mark.cells, Do.cells, Word.cells]))) row24 rfl) rfl ?_
  refine wlCallS hC hB rfl co57 rfl rfl (rmost_ret _ _ hC.holds _ m.crew (Crew.mkIs (x := m.crew) hs5)) ?_; intro w hk hC hB
  refine wlCallS hC hB rfl co56 rfl rfl (rgreatest_ret _ _ hC.holds bm lm _ _ m hbm hlm hm ((most m.crew))) ?_; intro w hk hC hB
  refine wlVal (opExtract rfl rfl) rfl ?_
  refine wlVal (opExtract rfl rfl) rfl ?_
  refine wlStore 0 (vs := (((gR m.l ((most m.crew))).1)).cells) (cs := ((.int .i64 0) :: (Dig.zero.cells ++ []))) (cs' := (((gR m.l ((most m.crew))).1)).cells) hC hB rfl rfl rfl sz28 rfl (by simp [Mark.cells, Do.cells, Word.cells]) (by simp [Mark.cells, Do.cells, Word.cells, Value.oneCell']) (by simp [Mark.cells, Do.cells, Word.cells]) (by simp [Mark.cells, Do.cells, Word.cells]) rfl ?_; intro w hC hB
  refine wlVal (opAssign rfl) rfl ?_
  refine wlThen ?_
  refine wcRet ?_
  exact fun ac_ ha => hQ _ _ _ (results2 ha rfl ⟨_, _, (((gR m.l ((most m.crew))).1)).cells, rfl, row28, (by simp [Mark.cells, Do.cells, Word.cells]), hB.range (i := 0) (m := 33) rfl (by simp [Mark.cells, Do.cells, Word.cells]), rfl⟩ rfl) ha.df (endS hC hw rfl)

theorem rknown_ret (G0 : Gh) (w0 : World) (hw : Holds G0 w0) (bm lm : Nat) (om qm : Obj) (m : RSt) (hbm : HasO G0 bm om) (hlm : HasO G0 lm qm) (hm : RMarksO G0 om qm lm m) :
    RetS Try.prog 43 #[.pointer (some ⟨bm, 0, none⟩)] G0 w0 (.tuple #[(.agg ((gR m.l (some_ m.crew)).1).cells.toArray), (.bool ((gR m.l (some_ m.crew)).2))]) := by
  have hC := Cx.refl hw
  have hB : Bxs G0 w0 w0.heap.size [] := Bxs.nil _ _ _
  obtain ⟨v1, v2, cs3, e4, hs5, e6, hO7, hn8⟩ := id hm
  have him := hn8
  obtain ⟨A9, cap10, rfl⟩ := hs5.form
  have hs11 := hO7.frozen (by rw [← e6]; exact hlm) (by rw [hn8.1]; exact hs5.le)
  obtain ⟨A12, cap13, rfl⟩ := hs11.form
  have hF14 : RowG G0 bm 0 ((.int .i64 m.crew.faults) :: ((.slice A9 m.crew.nodes.length cap10) :: ((.int .i64 m.mark.seq) :: (m.mark.dig.cells ++ ((.slice A12 m.l.length cap13) :: []))))) := HasO.row (T := 70) (by rw [← e4]; exact hbm)
  refine callsOf Try.func43 rfl _ Try.ntmps43 rfl _ (argsCons argsNil (t := 0) rfl) ?_; intro Q0 hQ
  refine wcSeq ?_
  refine wcRegion ?_
  refine wlAlloc hC hB zero28 rfl ?_; intro b15 w hk hC hB
  refine wlVal (opAssign rfl) rfl ?_
  refine wlThen ?_
  refine wcSeq ?_
  refine wcRegion ?_
  refine wlVal (opMove rfl) rfl ?_
  refine wlVal (opMove rfl) rfl ?_
  refine wlVal (opNilCheck rfl) rfl ?_
  refine wlVal (opFieldAddr rfl fo70_0) rfl ?_
  refine wlVal (opLoadRow (cs := [(.int .i64 m.crew.faults), (.slice A9 m.crew.nodes.length cap10)]) rfl (RowG.range hC.holds (hF14.part (i := 0) (m := 2) (by simp [Mark.cells, Do.cells, Word.cells]))) row24 rfl) rfl ?_
  refine wlCallS hC hB rfl co58 rfl rfl (rsome_ret _ _ hC.holds _ m.crew (Crew.mkIs (x := m.crew) hs5)) ?_; intro w hk hC hB
  refine wlCallS hC hB rfl co56 rfl rfl (rgreatest_ret _ _ hC.holds bm lm _ _ m hbm hlm hm ((some_ m.crew))) ?_; intro w hk hC hB
  refine wlVal (opExtract rfl rfl) rfl ?_
  refine wlVal (opExtract rfl rfl) rfl ?_
  refine wlStore 0 (vs := (((gR m.l ((some_ m.crew))).1)).cells) (cs := ((.int .i64 0) :: (Dig.zero.cells ++ []))) (cs' := (((gR m.l ((some_ m.crew))).1)).cells) hC hB rfl rfl rfl sz28 rfl (by simp [Mark.cells, Do.cells, Word.cells]) (by simp [Mark.cells, Do.cells, Word.cells, Value.oneCell']) (by simp [Mark.cells, Do.cells, Word.cells]) (by simp [Mark.cells, Do.cells, Word.cells]) rfl ?_; intro w hC hB
  refine wlVal (opAssign rfl) rfl ?_
  refine wlThen ?_
  refine wcRet ?_
  exact fun ac_ ha => hQ _ _ _ (results2 ha rfl ⟨_, _, (((gR m.l ((some_ m.crew))).1)).cells, rfl, row28, (by simp [Mark.cells, Do.cells, Word.cells]), hB.range (i := 0) (m := 33) rfl (by simp [Mark.cells, Do.cells, Word.cells]), rfl⟩ rfl) ha.df (endS hC hw rfl)

theorem rof_ret (G0 : Gh) (w0 : World) (hw : Holds G0 w0) (bm lm : Nat) (om qm : Obj) (m : RSt) (hbm : HasO G0 bm om) (hlm : HasO G0 lm qm) (hm : RMarksO G0 om qm lm m) (n : Int) :
    RetO Try.prog 45 #[.pointer (some ⟨bm, 0, none⟩), .int .i64 n] G0 w0 (fun G o v => ∃ A cap, v = (.slice A ((rofL m n)).length cap) ∧ Ow G o 28 (.slice A ((rofL m n)).length cap) ((rofL m n))) := by
  have hC := Cx.refl hw
  have hB : Bxs G0 w0 w0.heap.size [] := Bxs.nil _ _ _
  obtain ⟨v1, v2, cs3, e4, hs5, e6, hO7, hn8⟩ := id hm
  have him := hn8
  obtain ⟨A9, cap10, rfl⟩ := hs5.form
  have hs11 := hO7.frozen (by rw [← e6]; exact hlm) (by rw [hn8.1]; exact hs5.le)
  obtain ⟨A12, cap13, rfl⟩ := hs11.form
  have hF14 : RowG G0 bm 0 ((.int .i64 m.crew.faults) :: ((.slice A9 m.crew.nodes.length cap10) :: ((.int .i64 m.mark.seq) :: (m.mark.dig.cells ++ ((.slice A12 m.l.length cap13) :: []))))) := HasO.row (T := 70) (by rw [← e4]; exact hbm)
  refine callsOf Try.func45 rfl _ Try.ntmps45 rfl _ (argsCons (argsCons argsNil (t := 0) rfl) (t := 1) rfl) ?_; intro Q0 hQ
  refine wcSeq ?_
  refine wcRegion ?_
  refine wlVal (opAssign rfl) rfl ?_
  refine wlThen ?_
  refine wcSeq ?_
  refine wcRegion ?_
  refine wlVal (opAssign rfl) rfl ?_
  refine wlThen ?_
  refine wcSeq ?_
  refine wcRegion ?_
  refine wlVal (opMove rfl) rfl ?_
  refine wlVal (opMove rfl) rfl ?_
  refine wlCallS hC hB rfl co39 rfl rfl (place_ret _ _ hC.holds bm lm _ _ m hbm hlm hm n) ?_; intro w hk hC hB
  refine wlVal (opAssign rfl) rfl ?_
  refine wlThen ?_
  refine wcSeq ?_
  refine wcSeq ?_
  refine wcRegion ?_
  refine wlVal (opMove rfl) rfl ?_
  refine wlVal (opGeq rfl rfl) rfl ?_
  refine wlThen ?_
  cases h15 : decide (0 ≤ ((placeI m.crew.nodes n)))
  · skip
    refine wcCondF rfl ?_
    refine wcSkip ?_
    refine wcOf ?_
    refine wcSeq ?_
    refine wcRegion ?_
    refine wlVal (opMove rfl) rfl ?_
    refine wlVal (opAssign rfl) rfl ?_
    refine wlThen ?_
    refine wcRet ?_
    exact fun ac_ ha => hQ _ _ _ (results1 ha rfl rfl) ha.df (endO (bl := []) (o := none) (r := []) hC hB (by have q : rofL m n = [] := rofL_no h15; rw [q]; exact ⟨_, _, rfl, (Ow.nil_ _ 28)⟩))
  · skip
    obtain ⟨i0, hi0, hi1, _⟩ := placeI_nat h15
    rw [hi0]
    refine wcCondT rfl ?_
    refine wcRegion ?_
    refine wlVal (opMove rfl) rfl ?_
    refine wlVal (opMove rfl) rfl ?_
    refine wlVal (opNilCheck rfl) rfl ?_
    refine wlVal (opFieldAddr rfl fo70_2) rfl ?_
    refine wlVal (opLoadOne (v := (.slice A12 m.l.length cap13)) rfl (RowG.cell hC.holds hF14 (j := 35) (by simp [Mark.cells, Do.cells, Word.cells])) one68) rfl ?_
    refine wlVal (opMove rfl) rfl ?_
    obtain ⟨x16, hx17⟩ : ∃ y_, m.l[i0]? = some y_ := ⟨_, List.getElem?_eq_getElem (by rw [him.1]; omega)⟩
    obtain ⟨b18, o19, row20, hA23, hr21, hi22⟩ := hs11.elem hx17; subst hA23
    obtain ⟨v24, rfl, hs25⟩ := hi22
    obtain ⟨A26, cap27, rfl⟩ := hs25.form
    refine wlVal (opIndexAddr rfl rfl slo68 (by rw [him.1]; omega)) rfl ?_
    refine wlVal (opLoadOne (v := (.slice A26 x16.length cap27)) rfl (RowG.cell0 hC.holds hr21 rfl) one54) rfl ?_
    refine wlAppend (α := Mark) (bl := []) (o := none) (r := []) elo54 hC hB rfl rfl (Ow.nil_ _ 28) hs25 (by have q := him.get hx17; simp; omega) rfl rfl ?_; intro A28 cap29 o30 w hC hB hO31
    refine wlVal (opAssign rfl) rfl ?_
    refine wlThen ?_
    refine wcSeq ?_
    refine wcRegion ?_
    refine wlVal (opMove rfl) rfl ?_
    refine wlVal (opAssign rfl) rfl ?_
    refine wlThen ?_
    refine wcRet ?_
    exact fun ac_ ha => hQ _ _ _ (results1 ha rfl rfl) ha.df (endO (bl := []) (o := o30) (r := []) hC hB (by have q : rofL m n = x16 := rofL_at hi0 hx17; rw [q]; exact ⟨_, _, rfl, (by simpa using hO31)⟩))

end Go.Proofs.Ytbmanooiphghmaa
