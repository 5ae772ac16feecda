/- What functions of the marks seat return, part 9. No condition. -/
import Derived.Test.YtbmanooiphghmaaMkG8
set_option linter.all false
namespace Go.Proofs.Ytbmanooiphghmaa
open Go Go.Gx Go.RowKit
def rfilt (x : Mark) (l : List Mark) : List Mark := l.filter (fun a => decide (x.seq < a.seq))
def rraiseM (m : RSt) (x : Mark) : RSt × Int :=
  bif decide (x.seq < m.mark.seq) then (m, 9) else bif !mayB x.seq then (m, 9) else (⟨m.crew, x, m.l.map (rfilt x)⟩, 0)
theorem rr_stepT {x e : Mark} {y out : List Mark} {i : Nat} (h : out = (y.take i).filter (fun a => decide (x.seq < a.seq))) (hx : y[i]? = some e) (hc : decide (x.seq < e.seq) = true) : out ++ [e] = (y.take (i + 1)).filter (fun a => decide (x.seq < a.seq)) := by
  rw [List.take_add_one, hx, List.filter_append, ← h]; simp [hc]
theorem rr_stepF {x e : Mark} {y out : List Mark} {i : Nat} (h : out = (y.take i).filter (fun a => decide (x.seq < a.seq))) (hx : y[i]? = some e) (hc : decide (x.seq < e.seq) = false) : out = (y.take (i + 1)).filter (fun a => decide (x.seq < a.seq)) := by
  rw [List.take_add_one, hx, List.filter_append, ← h]; simp; simpa using hc
section
variable {m : RSt} {d0 : List (List Mark)} {x : Mark} {k : Nat} {y : List Mark}
theorem rr_len (h : d0 = (m.l.take k).map (rfilt x) ++ m.l.drop k) : d0.length = m.l.length := by
  rw [h]; simp; omega
theorem rr_at (h : d0 = (m.l.take k).map (rfilt x) ++ m.l.drop k) (hy : d0[k]? = some y) : m.l[k]? = some y := by
  have hk : k < m.l.length := by rw [← rr_len h]; exact (List.getElem?_eq_some_iff.1 hy).1
  rw [h, List.getElem?_append_right (by simp; omega)] at hy
  simp only [List.length_map, List.length_take, Nat.min_eq_left (Nat.le_of_lt hk), Nat.sub_self] at hy
  simpa using hy
theorem rr_b (him : RInv m) (h : d0 = (m.l.take k).map (rfilt x) ++ m.l.drop k) (hy : d0[k]? = some y) : y.length ≤ 4 := him.get (rr_at h hy)
theorem rr_ol {out : List Mark} {i : Nat} (hb : y.length ≤ 4) (h : out = (y.take i).filter (fun a => decide (x.seq < a.seq))) : out.length ≤ 4 := by
  have h1 : ((y.take i).filter (fun a => decide (x.seq < a.seq))).length ≤ (y.take i).length := List.length_filter_le _ _
  rw [h]; rw [List.length_take] at h1; omega
theorem rr_out {out : List Mark} {i : Nat} (h : d0 = (m.l.take k).map (rfilt x) ++ m.l.drop k) (hy : d0[k]? = some y) (ho : out = (y.take i).filter (fun a => decide (x.seq < a.seq))) (hi : ¬ i < y.length) : d0.set k out = (m.l.take (k + 1)).map (rfilt x) ++ m.l.drop (k + 1) := by
  have hm := rr_at h hy
  have hk := (List.getElem?_eq_some_iff.1 hm).1
  have he : m.l[k] = y := (List.getElem?_eq_some_iff.1 hm).2
  have ho2 : out = rfilt x y := by rw [ho, List.take_of_length_le (by omega)]; rfl
  have hl : ((m.l.take k).map (rfilt x)).length = k := by simp; omega
  rw [h, List.set_append_right _ _ (by omega), hl, Nat.sub_self, List.drop_eq_getElem_cons hk, List.set_cons_zero, List.take_add_one, hm, List.map_append, ho2]
  simp
theorem rr_end (h : d0 = (m.l.take k).map (rfilt x) ++ m.l.drop k) (hk : ¬ k < m.l.length) : d0 = m.l.map (rfilt x) := by
  rw [h, List.take_of_length_le (by omega), List.drop_eq_nil_of_le (by omega), List.append_nil]
theorem rr_inv (him : RInv m) (h : d0 = (m.l.take k).map (rfilt x) ++ m.l.drop k) : RInv ⟨m.crew, x, d0⟩ := by
  refine ⟨by rw [← him.1]; exact rr_len h, fun y hy => ?_⟩
  simp only [h] at hy
  rcases List.mem_append.1 hy with hy | hy
  · obtain ⟨z, hz, rfl⟩ := List.mem_map.1 hy
    have h1 : (rfilt x z).length ≤ z.length := List.length_filter_le _ _
    have := him.2 z (List.mem_of_mem_take hz)
    omega
  · exact him.2 y (List.mem_of_mem_drop hy)
end
def newOk (c : Crew) (low : Mark) : Bool := !(check c != 0) && mayB low.seq
def newE (c : Crew) (low : Mark) : Int := bif check c != 0 then 110 else bif !mayB low.seq then 9 else 0
theorem newOk_1 {c : Crew} {low : Mark} (h : newOk c low = true) : (check c != 0) = false := by unfold newOk at h; cases hc : check c != 0 <;> simp_all
theorem newOk_2 {c : Crew} {low : Mark} (h : newOk c low = true) : mayB low.seq = true := by unfold newOk at h; cases hc : mayB low.seq <;> simp_all
theorem newOk_dead {c : Crew} {low : Mark} (h : newOk c low = false) (h1 : (check c != 0) = false) (h2 : mayB low.seq = true) : False := by rw [newOk, h1, h2] at h; cases h
theorem new_l7 {c : Crew} (h : (check c != 0) = false) : c.nodes.length ≤ 7 := by
  have h1 : check c = 0 := by simpa using h
  unfold check at h1
  cases h2 : decide (c.faults < 0) || (decide (2 < c.faults) || ((c.nodes.length : Int) != IntKind.wrap .i64 (IntKind.wrap .i64 (3 * c.faults) + 1))) with
  | true => rw [h2] at h1; cases h1
  | false =>
    simp only [Bool.or_eq_false_iff, decide_eq_false_iff_not, bne_eq_false_iff_eq] at h2
    obtain ⟨a, b, e⟩ := h2
    rw [IntWalk.i64_in (3 * c.faults) (by omega), IntWalk.i64_in _ (by omega)] at e
    omega
theorem new_l6 {c : Crew} (h : (check c != 0) = false) : c.nodes.length ≤ 1000000 := Nat.le_trans (new_l7 h) (by decide)
theorem new_le {c : Crew} (h : (check c != 0) = false) : c.nodes.length ≤ maxL := Nat.le_trans (new_l7 h) (by decide)
theorem newinv {c : Crew} {low : Mark} (_ : (check c != 0) = false) : MInv ⟨c, low, []⟩ := fun p hp => (List.not_mem_nil hp).elim
theorem rnewinv {c : Crew} {low : Mark} (_ : (check c != 0) = false) : RInv ⟨c, low, List.replicate c.nodes.length []⟩ := ⟨by simp, fun x hx => by rw [List.eq_of_mem_replicate hx]; simp⟩
theorem co29 : callOk Try.prog 29 = true := by kernel_rfl
theorem so64 : structOk Try.prog 64 [(0, 2), (2, 33), (35, 1)] = true := by kernel_rfl
theorem zero64 : (Try.prog.info? 64).bind (fun i => i.zero.map Value.cells) = some (((.int .i64 0) :: ((.slice none 0 0) :: ((.int .i64 0) :: (Dig.zero.cells ++ ((.map none) :: []))))) : List Value).toArray := by kernel_rfl
theorem so70 : structOk Try.prog 70 [(0, 2), (2, 33), (35, 1)] = true := by kernel_rfl
theorem zero70 : (Try.prog.info? 70).bind (fun i => i.zero.map Value.cells) = some (((.int .i64 0) :: ((.slice none 0 0) :: ((.int .i64 0) :: (Dig.zero.cells ++ ((.slice none 0 0) :: []))))) : List Value).toArray := by kernel_rfl
theorem elo68 : elemOk Try.prog 68 54 1 24 = true := by kernel_rfl
theorem sz68 : (Try.prog.info? 68).map (·.size) = some 1 := by kernel_rfl
theorem rraise_ret (G0 : Gh) (w0 : World) (hw : Holds G0 w0) (bm lm : Nat) (om qm : Obj) (m : RSt) (hbm : w0.heap[bm]? = some om ∧ G0 bm = none) (hlm : w0.heap[lm]? = some qm ∧ G0 lm = none) (hnem : bm ≠ lm) (hm : RMarksO G0 om qm lm m) (x : Mark) :
    RetM Try.prog 15 #[.pointer (some ⟨bm, 0, none⟩), .agg x.cells.toArray] G0 w0 [bm, lm] (fun G L v => ∃ o q, L = [(bm, o), (lm, q)] ∧ RMarksO G o q lm ((rraiseM m x).1) ∧ v = (.int .i64 ((rraiseM m x).2))) := by
  obtain ⟨v1, v2, cs3, rfl, hs5, rfl, hO7, hn8⟩ := hm
  have him := hn8
  obtain ⟨A9, cap10, rfl⟩ := hs5.form
  obtain ⟨cap11, rfl⟩ := hO7.formH
  have hC := Cx.reflH [(bm, .cells ((.int .i64 m.crew.faults) :: ((.slice A9 m.crew.nodes.length cap10) :: ((.int .i64 m.mark.seq) :: (m.mark.dig.cells ++ ((.slice (some ⟨lm, 0, none⟩) m.l.length cap11) :: []))))).toArray 70 (0, 0)), (lm, (.cells (List.toArray cs3) 54 (0, 0)))] [bm, lm] hw (by simp [hbm, hlm]) (by simp [hnem])
  have hB : Bxs G0 w0 w0.heap.size [] ⟨[bm, lm], [(bm, .cells ((.int .i64 m.crew.faults) :: ((.slice A9 m.crew.nodes.length cap10) :: ((.int .i64 m.mark.seq) :: (m.mark.dig.cells ++ ((.slice (some ⟨lm, 0, none⟩) m.l.length cap11) :: []))))).toArray 70 (0, 0)), (lm, (.cells (List.toArray cs3) 54 (0, 0)))]⟩ := Bxs.nil _ _ _
  refine callsOf Try.func15 rfl _ Try.ntmps15 rfl _ (argsCons (argsCons argsNil (t := 0) rfl) (t := 1) rfl) ?_; intro Q0 hQ
  refine wcSeq ?_
  refine wcRegion ?_
  refine wlBox (cs := x.cells) hC hB rfl rfl rfl ?_; intro b12 w hk hC hB
  refine wlVal (opAssign rfl) rfl ?_
  refine wlThen ?_
  refine wcSeq ?_
  refine wcSeq ?_
  refine wcDrawT 7 fmix (by kernel_rfl) (by kernel_rfl) (by kernel_rfl) (by kernel_rfl) (vAt [(fun _ v_ => v_ = (.pointer (some ⟨b12, 0, none⟩))), (fun _ v_ => v_ = (.int .i64 x.seq)), (fun _ v_ => v_ = (.pointer (some ⟨bm, 0, none⟩))), (fun _ v_ => v_ = (.pointer (some ⟨bm, 0, none⟩))), (fun _ v_ => v_ = (.pointer (some ⟨bm, 2, none⟩))), (fun _ v_ => v_ = (.pointer (some ⟨bm, 2, none⟩))), (fun _ v_ => v_ = (.int .i64 m.mark.seq))]) (fun _ _ G' w => Cx w0 G0 G' w ⟨[bm, lm], [(bm, .cells ((.int .i64 m.crew.faults) :: ((.slice A9 m.crew.nodes.length cap10) :: ((.int .i64 m.mark.seq) :: (m.mark.dig.cells ++ ((.slice (some ⟨lm, 0, none⟩) m.l.length cap11) :: []))))).toArray 70 (0, 0)), (lm, (.cells (List.toArray cs3) 54 (0, 0)))]⟩ ∧ Bxs G' w w0.heap.size [(b12, 28, x.cells)] ⟨[bm, lm], [(bm, .cells ((.int .i64 m.crew.faults) :: ((.slice A9 m.crew.nodes.length cap10) :: ((.int .i64 m.mark.seq) :: (m.mark.dig.cells ++ ((.slice (some ⟨lm, 0, none⟩) m.l.length cap11) :: []))))).toArray 70 (0, 0)), (lm, (.cells (List.toArray cs3) 54 (0, 0)))]⟩ ∧ GLe G0 G') G0 (vAt_mono ⟨fun _ _ _ _ h => h, fun _ _ _ _ h => h, fun _ _ _ _ h => h, fun _ _ _ _ h => h, fun _ _ _ _ h => h, fun _ _ _ _ h => h, fun _ _ _ _ h => h, trivial⟩) (fun _ _ => ⟨hC.drew, hB.drew, fun _ _ h => h⟩) ?_ ?_
  · refine dsNone (j := 1) rfl ?_ ?_
    · intro done G w ac_ hd hp hn ⟨hC, hB, hg⟩ hM
      have f3 : ac_.tmps[3]? = some (.pointer (some ⟨b12, 0, none⟩)) := hM.old0 rfl rfl
      have hF : Fr 81 ac_ (Env.nil.put 3 (.pointer (some ⟨b12, 0, none⟩))) := (hM.fr.add f3)
      exact OpVal.draw hF (opFieldAddr rfl fo28_0) ⟨G, fun _ _ h => h, ⟨hC, hB, hg⟩, rfl⟩
    refine dsNone (j := 2) rfl ?_ ?_
    · intro done G w ac_ hd hp hn ⟨hC, hB, hg⟩ hM
      have f8 : ac_.tmps[8]? = some (.pointer (some ⟨b12, 0, none⟩)) := hM.eqv 0 rfl (hp 0 rfl) rfl rfl
      have hF : Fr 81 ac_ (Env.nil.put 8 (.pointer (some ⟨b12, 0, none⟩))) := (hM.fr.add f8)
      exact OpVal.draw hF (opLoadOne (v := (.int .i64 x.seq)) rfl (hB.cell (i := 0) rfl (by simp [Mark.cells, Do.cells, Word.cells])) one3) ⟨G, fun _ _ h => h, ⟨hC, hB, hg⟩, rfl⟩
    refine dsNone (j := 3) rfl ?_ ?_
    · intro done G w ac_ hd hp hn ⟨hC, hB, hg⟩ hM
      have f0 : ac_.tmps[0]? = some (.pointer (some ⟨bm, 0, none⟩)) := hM.old0 rfl rfl
      have hF : Fr 81 ac_ (Env.nil.put 0 (.pointer (some ⟨bm, 0, none⟩))) := (hM.fr.add f0)
      exact OpVal.draw hF (opMove rfl) ⟨G, fun _ _ h => h, ⟨hC, hB, hg⟩, rfl⟩
    refine dsNone (j := 4) rfl ?_ ?_
    · intro done G w ac_ hd hp hn ⟨hC, hB, hg⟩ hM
      have f10 : ac_.tmps[10]? = some (.pointer (some ⟨bm, 0, none⟩)) := hM.eqv 2 rfl (hp 2 rfl) rfl rfl
      have hF : Fr 81 ac_ (Env.nil.put 10 (.pointer (some ⟨bm, 0, none⟩))) := (hM.fr.add f10)
      exact OpVal.draw hF (opNilCheck rfl) ⟨G, fun _ _ h => h, ⟨hC, hB, hg⟩, rfl⟩
    refine dsNone (j := 5) rfl ?_ ?_
    · intro done G w ac_ hd hp hn ⟨hC, hB, hg⟩ hM
      have f11 : ac_.tmps[11]? = some (.pointer (some ⟨bm, 0, none⟩)) := hM.eqv 3 rfl (hp 3 rfl) rfl rfl
      have hF : Fr 81 ac_ (Env.nil.put 11 (.pointer (some ⟨bm, 0, none⟩))) := (hM.fr.add f11)
      exact OpVal.draw hF (opFieldAddr rfl fo70_1) ⟨G, fun _ _ h => h, ⟨hC, hB, hg⟩, rfl⟩
    refine dsNone (j := 6) rfl ?_ ?_
    · intro done G w ac_ hd hp hn ⟨hC, hB, hg⟩ hM
      have f12 : ac_.tmps[12]? = some (.pointer (some ⟨bm, 2, none⟩)) := hM.eqv 4 rfl (hp 4 rfl) rfl rfl
      have hF : Fr 81 ac_ (Env.nil.put 12 (.pointer (some ⟨bm, 2, none⟩))) := (hM.fr.add f12)
      exact OpVal.draw hF (opFieldAddr rfl fo28_0) ⟨G, fun _ _ h => h, ⟨hC, hB, hg⟩, rfl⟩
    refine dsNone (j := 7) rfl ?_ ?_
    · intro done G w ac_ hd hp hn ⟨hC, hB, hg⟩ hM
      have f13 : ac_.tmps[13]? = some (.pointer (some ⟨bm, 2, none⟩)) := hM.eqv 5 rfl (hp 5 rfl) rfl rfl
      have hF : Fr 81 ac_ (Env.nil.put 13 (.pointer (some ⟨bm, 2, none⟩))) := (hM.fr.add f13)
      exact OpVal.draw hF (opLoadOne (v := (.int .i64 m.mark.seq)) rfl (hC.hcell 0 rfl (o := 2) (by simp [Mark.cells, Do.cells, Word.cells])) one3) ⟨G, fun _ _ h => h, ⟨hC, hB, hg⟩, rfl⟩
    exact dsNil
  · intro done G w ac_ hall htl ⟨hC, hB, hg⟩ hM
    replace hs5 := hs5.mono hg
    replace hO7 := hO7.mono hg
    have f0 : ac_.tmps[0]? = some (.pointer (some ⟨bm, 0, none⟩)) := hM.old0 rfl rfl
    have f3 : ac_.tmps[3]? = some (.pointer (some ⟨b12, 0, none⟩)) := hM.old0 rfl rfl
    have f9 : ac_.tmps[9]? = some (.int .i64 x.seq) := hM.eqv 1 rfl (hall 1 rfl) rfl rfl
    have f14 : ac_.tmps[14]? = some (.int .i64 m.mark.seq) := hM.eqv 6 rfl (hall 6 rfl) rfl rfl
    refine ⟨((((Env.nil.put 0 (.pointer (some ⟨bm, 0, none⟩))).put 3 (.pointer (some ⟨b12, 0, none⟩))).put 9 (.int .i64 x.seq)).put 14 (.int .i64 m.mark.seq)), ((((hM.fr.add f0).add f3).add f9).add f14), ?_⟩
    clear hM hall htl
    refine wlVal (opLss rfl rfl) rfl ?_
    refine wlVal (opMove rfl) rfl ?_
    cases h13 : decide (x.seq < m.mark.seq)
    · skip
      refine wlOn rfl rfl ?_
      refine wlVal (opFieldAddr rfl fo28_0) rfl ?_
      refine wlOn rfl rfl ?_
      refine wlVal (opLoadOne (v := (.int .i64 x.seq)) rfl (hB.cell (i := 0) rfl (by simp [Mark.cells, Do.cells, Word.cells])) one3) rfl ?_
      refine wlOn rfl rfl ?_
      refine wlCallS hC hB rfl co31 rfl rfl (rmay_ret _ _ hC.holds x.seq) ?_; intro w hk hC hB
      refine wlOn rfl rfl ?_
      refine wlVal (opNot rfl) rfl ?_
      refine wlVal (opPickF rfl rfl) rfl ?_
      refine wlThen ?_
      cases h14 : (mayB x.seq)
      · skip
        refine wcCondT rfl ?_
        refine wcSeq ?_
        refine wcRegion ?_
        refine wlVal (opAssign rfl) rfl ?_
        refine wlThen ?_
        refine wcRet ?_
        exact fun ac_ ha => hQ _ _ _ (results1 ha rfl rfl) ha.df (endM hC [(bm, .cells ((.int .i64 m.crew.faults) :: ((.slice A9 m.crew.nodes.length cap10) :: ((.int .i64 m.mark.seq) :: (m.mark.dig.cells ++ ((.slice (some ⟨lm, 0, none⟩) m.l.length cap11) :: []))))).toArray 70 (0, 0)), (lm, (.cells (List.toArray cs3) 54 (0, 0)))] (.cons₂ _ (.cons₂ _ .slnil)) rfl ⟨_, _, rfl, (by have e_ : (rraiseM m x).1 = m := (by simp only [rraiseM, h13, h14, cond_true, cond_false, Bool.not_true, Bool.not_false]; try rfl); rw [e_]; exact ⟨_, _, _, rfl, hs5, rfl, hO7, him⟩), (by simp only [rraiseM, h13, h14, cond_true, cond_false, Bool.not_true, Bool.not_false])⟩)
      · skip
        refine wcCondF rfl ?_
        refine wcSkip ?_
        refine wcOf ?_
        refine wcSeq ?_
        refine wcRegion ?_
        refine wlVal (opMove rfl) rfl ?_
        refine wlVal (opLoadRow (cs := x.cells) rfl (hB.range (i := 0) (m := 33) rfl (by simp [Mark.cells, Do.cells, Word.cells])) row28 (by simp [Mark.cells, Do.cells, Word.cells])) rfl ?_
        refine wlVal (opNilCheck rfl) rfl ?_
        refine wlVal (opFieldAddr rfl fo70_1) rfl ?_
        obtain ⟨hC, hB⟩ := unhold hC hB (i := 0) rfl
        refine wlStore 0 (vs := x.cells) (cs := ((.int .i64 m.crew.faults) :: ((.slice A9 m.crew.nodes.length cap10) :: ((.int .i64 m.mark.seq) :: (m.mark.dig.cells ++ ((.slice (some ⟨lm, 0, none⟩) m.l.length cap11) :: [])))))) (cs' := ((.int .i64 m.crew.faults) :: ((.slice A9 m.crew.nodes.length cap10) :: ((.int .i64 x.seq) :: (x.dig.cells ++ ((.slice (some ⟨lm, 0, none⟩) m.l.length cap11) :: [])))))) hC hB rfl rfl rfl sz28 rfl (by simp [Mark.cells, Do.cells, Word.cells]) (by simp [Mark.cells, Do.cells, Word.cells, Value.oneCell']) (by simp [Mark.cells, Do.cells, Word.cells]) (by simp [Mark.cells, Do.cells, Word.cells]) rfl ?_; intro w hC hB
        obtain ⟨hC, hB⟩ := hold hC hB (i := 0) rfl
        replace hC : Cx w0 G0 G w ⟨[bm, lm], [(bm, .cells ((.int .i64 m.crew.faults) :: ((.slice A9 m.crew.nodes.length cap10) :: ((.int .i64 x.seq) :: (x.dig.cells ++ ((.slice (some ⟨lm, 0, none⟩) m.l.length cap11) :: []))))).toArray 70 (0, 0)), (lm, (.cells (List.toArray cs3) 54 (0, 0)))]⟩ := hC
        replace hB : Bxs G w w0.heap.size [(b12, 28, x.cells)] ⟨[bm, lm], [(bm, .cells ((.int .i64 m.crew.faults) :: ((.slice A9 m.crew.nodes.length cap10) :: ((.int .i64 x.seq) :: (x.dig.cells ++ ((.slice (some ⟨lm, 0, none⟩) m.l.length cap11) :: []))))).toArray 70 (0, 0)), (lm, (.cells (List.toArray cs3) 54 (0, 0)))]⟩ := hB
        refine wlThen ?_
        refine wcSeq ?_
        refine wcSeq ?_
        refine wcRegion ?_
        refine wlVal (opAssign rfl) rfl ?_
        refine wlThen ?_
        refine wcBlock ?_
        refine WC.sub (wrInd (ι := Nat × (List Value) × (List (List Mark))) (fun i => match i with | (k, cs0, d0) => m.l.length - k) (fun i G w => match i with | (k, cs0, d0) => Cx w0 G0 G w ⟨[bm, lm], [(bm, .cells ((.int .i64 m.crew.faults) :: ((.slice A9 m.crew.nodes.length cap10) :: ((.int .i64 x.seq) :: (x.dig.cells ++ ((.slice (some ⟨lm, 0, none⟩) m.l.length cap11) :: []))))).toArray 70 (0, 0)), (lm, (.cells (List.toArray cs0) 54 (0, 0)))]⟩ ∧ Bxs G w w0.heap.size [(b12, 28, x.cells)] ⟨[bm, lm], [(bm, .cells ((.int .i64 m.crew.faults) :: ((.slice A9 m.crew.nodes.length cap10) :: ((.int .i64 x.seq) :: (x.dig.cells ++ ((.slice (some ⟨lm, 0, none⟩) m.l.length cap11) :: []))))).toArray 70 (0, 0)), (lm, (.cells (List.toArray cs0) 54 (0, 0)))]⟩ ∧ Sl G (.slice A9 m.crew.nodes.length cap10) m.crew.nodes ∧ Ow G (some (lm, 54, cs0)) 54 (.slice (some ⟨lm, 0, none⟩) m.l.length cap11) d0 ∧ k ≤ m.l.length ∧ d0 = (m.l.take k).map (rfilt x) ++ m.l.drop k) (fun i => match i with | (k, cs0, d0) => (((Env.nil.put 0 (.pointer (some ⟨bm, 0, none⟩))).put 3 (.pointer (some ⟨b12, 0, none⟩))).put 5 (.int .i64 (((k : Nat) : Int))))) ?_ (0, cs3, m.l) _ _ ⟨hC, hB, hs5, hO7, (Nat.zero_le _), rfl⟩) (fun _ ha => (((ha.start.cons ha (t := 0) rfl).cons ha (t := 3) rfl).cons ha (t := 5) rfl))
        rintro ⟨k, cs0, d0⟩ G w N0 IH0 ⟨hC, hB, hs5, hOcs0, hkl, hd0⟩
        show WC _ _ _ _ (((Env.nil.put 0 (.pointer (some ⟨bm, 0, none⟩))).put 3 (.pointer (some ⟨b12, 0, none⟩))).put 5 (.int .i64 (((k : Nat) : Int)))) w
        refine wcSeq ?_
        refine wcSeq ?_
        refine wcRegion ?_
        refine wlVal (opMove rfl) rfl ?_
        refine wlVal (opMove rfl) rfl ?_
        refine wlVal (opNilCheck rfl) rfl ?_
        refine wlVal (opFieldAddr rfl fo70_2) rfl ?_
        refine wlVal (opLoadOne (v := (.slice (some ⟨lm, 0, none⟩) m.l.length cap11)) rfl (hC.hcell 0 rfl (o := 35) (by simp [Mark.cells, Do.cells, Word.cells])) one68) rfl ?_
        refine wlVal (opLen rfl isl68) rfl ?_
        refine wlVal (opLssN rfl rfl) rfl ?_
        refine wlThen ?_
        cases h15 : decide (k < m.l.length)
        · skip
          refine wcCondF rfl ?_
          refine wcExit ?_
          refine wcOf ?_
          refine wcSeq ?_
          refine wcRegion ?_
          refine wlVal (opAssign rfl) rfl ?_
          refine wlThen ?_
          refine wcRet ?_
          exact fun ac_ ha => hQ _ _ _ (results1 ha rfl rfl) ha.df (endM hC [(bm, .cells ((.int .i64 m.crew.faults) :: ((.slice A9 m.crew.nodes.length cap10) :: ((.int .i64 x.seq) :: (x.dig.cells ++ ((.slice (some ⟨lm, 0, none⟩) m.l.length cap11) :: []))))).toArray 70 (0, 0)), (lm, (.cells (List.toArray cs0) 54 (0, 0)))] (.cons₂ _ (.cons₂ _ .slnil)) rfl ⟨_, _, rfl, (by have e_ : (rraiseM m x).1 = (RSt.mk m.crew x d0) := (by simp only [rraiseM, h13, h14, cond_true, cond_false, Bool.not_true, Bool.not_false]; rw [rr_end hd0 (of_decide_eq_false h15)]); rw [e_]; exact ⟨_, _, _, rfl, hs5, rfl, hOcs0, (rr_inv him hd0)⟩), (by simp only [rraiseM, h13, h14, cond_true, cond_false, Bool.not_true, Bool.not_false])⟩)
        · skip
          refine wcCondT rfl ?_
          refine wcSkip ?_
          refine wcOf ?_
          refine wcSeq ?_
          refine wcBlock ?_
          refine wcSeq ?_
          refine wcRegion ?_
          refine wlVal (opAssign rfl) rfl ?_
          refine wlThen ?_
          refine wcSeq ?_
          refine wcSeq ?_
          refine wcRegion ?_
          refine wlVal (opAssign rfl) rfl ?_
          refine wlThen ?_
          refine wcBlock ?_
          obtain ⟨x16, hx17⟩ : ∃ y_, d0[k]? = some y_ := ⟨_, List.getElem?_eq_getElem (by rw [rr_len hd0]; exact of_decide_eq_true h15)⟩
          obtain ⟨v18, hv19, hr20⟩ := Ow.cellH hOcs0 hx17
          obtain ⟨A21, cap22, rfl⟩ := hv19.form
          refine WC.sub (wrInd (ι := Nat × (Option Addr) × Nat × (Option Bx) × (List Mark)) (fun i => match i with | (i, outA, outC, outO, out) => x16.length - i) (fun i G w => match i with | (i, outA, outC, outO, out) => Cx w0 G0 G w ⟨[bm, lm], [(bm, .cells ((.int .i64 m.crew.faults) :: ((.slice A9 m.crew.nodes.length cap10) :: ((.int .i64 x.seq) :: (x.dig.cells ++ ((.slice (some ⟨lm, 0, none⟩) m.l.length cap11) :: []))))).toArray 70 (0, 0)), (lm, (.cells (List.toArray cs0) 54 (0, 0)))]⟩ ∧ Bxs G w w0.heap.size ([(b12, 28, x.cells)] ++ (Option.toList outO ++ [])) ⟨[bm, lm], [(bm, .cells ((.int .i64 m.crew.faults) :: ((.slice A9 m.crew.nodes.length cap10) :: ((.int .i64 x.seq) :: (x.dig.cells ++ ((.slice (some ⟨lm, 0, none⟩) m.l.length cap11) :: []))))).toArray 70 (0, 0)), (lm, (.cells (List.toArray cs0) 54 (0, 0)))]⟩ ∧ Sl G (.slice A9 m.crew.nodes.length cap10) m.crew.nodes ∧ Ow G (some (lm, 54, cs0)) 54 (.slice (some ⟨lm, 0, none⟩) m.l.length cap11) d0 ∧ Sl G (.slice A21 x16.length cap22) x16 ∧ Ow G outO 28 (.slice outA out.length outC) out ∧ i ≤ x16.length ∧ out = (x16.take i).filter (fun a => decide (x.seq < a.seq))) (fun i => match i with | (i, outA, outC, outO, out) => (((((Env.nil.put 0 (.pointer (some ⟨bm, 0, none⟩))).put 3 (.pointer (some ⟨b12, 0, none⟩))).put 5 (.int .i64 (((k : Nat) : Int)))).put 6 (.slice outA out.length outC)).put 7 (.int .i64 (((i : Nat) : Int))))) ?_ (0, none, 0, none, []) _ _ ⟨hC, hB, hs5, hOcs0, hv19, (Ow.nil_ _ 28), (Nat.zero_le _), rfl⟩) (fun _ ha => (((((ha.start.cons ha (t := 0) rfl).cons ha (t := 3) rfl).cons ha (t := 5) rfl).cons ha (t := 6) rfl).cons ha (t := 7) rfl))
          rintro ⟨i, outA, outC, outO, out⟩ G w N1 IH1 ⟨hC, hB, hs5, hOcs0, hv19, hOout, hil, hO2⟩
          show WC _ _ _ _ (((((Env.nil.put 0 (.pointer (some ⟨bm, 0, none⟩))).put 3 (.pointer (some ⟨b12, 0, none⟩))).put 5 (.int .i64 (((k : Nat) : Int)))).put 6 (.slice outA out.length outC)).put 7 (.int .i64 (((i : Nat) : Int)))) w
          refine wcSeq ?_
          refine wcSeq ?_
          refine wcRegion ?_
          refine wlVal (opMove rfl) rfl ?_
          refine wlVal (opMove rfl) rfl ?_
          refine wlVal (opNilCheck rfl) rfl ?_
          refine wlVal (opFieldAddr rfl fo70_2) rfl ?_
          refine wlVal (opLoadOne (v := (.slice (some ⟨lm, 0, none⟩) m.l.length cap11)) rfl (hC.hcell 0 rfl (o := 35) (by simp [Mark.cells, Do.cells, Word.cells])) one68) rfl ?_
          refine wlVal (opMove rfl) rfl ?_
          obtain ⟨x23, hx24⟩ : ∃ y_, d0[k]? = some y_ := ⟨_, List.getElem?_eq_getElem (by rw [rr_len hd0]; exact of_decide_eq_true h15)⟩
          refine wlVal (opIndexAddr rfl rfl slo68 (of_decide_eq_true h15)) rfl ?_
          refine wlVal (opLoadOne (v := (.slice A21 x16.length cap22)) rfl (hr20 _ (hC.heldAt 1 rfl)) one54) rfl ?_
          refine wlVal (opLen rfl isl54) rfl ?_
          refine wlVal (opLssN rfl rfl) rfl ?_
          refine wlThen ?_
          cases h25 : decide (i < x16.length)
          · skip
            refine wcCondF rfl ?_
            refine wcExit ?_
            refine wcOf ?_
            refine wcRegion ?_
            refine wlVal (opMove rfl) rfl ?_
            refine wlVal (opNilCheck rfl) rfl ?_
            refine wlVal (opFieldAddr rfl fo70_2) rfl ?_
            refine wlVal (opLoadOne (v := (.slice (some ⟨lm, 0, none⟩) m.l.length cap11)) rfl (hC.hcell 0 rfl (o := 35) (by simp [Mark.cells, Do.cells, Word.cells])) one68) rfl ?_
            refine wlVal (opMove rfl) rfl ?_
            refine wlVal (opMove rfl) rfl ?_
            refine wlVal (opIndexAddr rfl rfl slo68 (of_decide_eq_true h15)) rfl ?_
            obtain ⟨G, hg27, hC, hB, hs26⟩ := Ow.freeze' (bl := [(b12, 28, x.cells)]) (r := []) hOout hC (Nat.le_refl _) hB (by have q := rr_ol (rr_b him hd0 hx17) hO2; unfold maxL; omega)
            replace hs5 := hs5.mono hg27; replace hOcs0 := hOcs0.mono hg27; replace hv19 := hv19.mono hg27
            replace hB : Bxs G w w0.heap.size [(b12, 28, x.cells)] ⟨[bm, lm], [(bm, .cells ((.int .i64 m.crew.faults) :: ((.slice A9 m.crew.nodes.length cap10) :: ((.int .i64 x.seq) :: (x.dig.cells ++ ((.slice (some ⟨lm, 0, none⟩) m.l.length cap11) :: []))))).toArray 70 (0, 0)), (lm, (.cells (List.toArray cs0) 54 (0, 0)))]⟩ := hB
            obtain ⟨hC, hB⟩ := unhold hC hB (i := 1) rfl
            replace hB : Bxs G w w0.heap.size ([] ++ (Option.toList (some (lm, 54, cs0)) ++ [(b12, 28, x.cells)])) ⟨[bm, lm], [(bm, .cells ((.int .i64 m.crew.faults) :: ((.slice A9 m.crew.nodes.length cap10) :: ((.int .i64 x.seq) :: (x.dig.cells ++ ((.slice (some ⟨lm, 0, none⟩) m.l.length cap11) :: []))))).toArray 70 (0, 0))]⟩ := hB
            refine wlStoreOw (α := (List Mark)) (bl := []) (r := [(b12, 28, x.cells)]) (vs := [(.slice outA out.length outC)]) (off := 0) (y := out) hC hB hOcs0 hx24 rfl (by show _ = _ * 1 + 0; omega) rfl sz54 rfl rfl rfl (Nat.le_refl _) (fun row h => by obtain ⟨_, rfl, _⟩ := h; exact ⟨_, rfl, hs26⟩) rfl ?_; intro cs28 w hC hB hO29
            obtain ⟨hC, hB⟩ := hold hC hB (i := 0) rfl
            replace hC : Cx w0 G0 G w ⟨[bm, lm], [(lm, (.cells (List.toArray cs28) 54 (0, 0))), (bm, .cells ((.int .i64 m.crew.faults) :: ((.slice A9 m.crew.nodes.length cap10) :: ((.int .i64 x.seq) :: (x.dig.cells ++ ((.slice (some ⟨lm, 0, none⟩) m.l.length cap11) :: []))))).toArray 70 (0, 0))]⟩ := hC
            replace hB : Bxs G w w0.heap.size [(b12, 28, x.cells)] ⟨[bm, lm], [(lm, (.cells (List.toArray cs28) 54 (0, 0))), (bm, .cells ((.int .i64 m.crew.faults) :: ((.slice A9 m.crew.nodes.length cap10) :: ((.int .i64 x.seq) :: (x.dig.cells ++ ((.slice (some ⟨lm, 0, none⟩) m.l.length cap11) :: []))))).toArray 70 (0, 0))]⟩ := hB
            replace hC := hC.permH (List.perm_middle (l₁ := [(bm, Obj.cells ((.int .i64 m.crew.faults) :: ((.slice A9 m.crew.nodes.length cap10) :: ((.int .i64 x.seq) :: (x.dig.cells ++ ((.slice (some ⟨lm, 0, none⟩) m.l.length cap11) :: []))))).toArray 70 (0, 0))]) (l₂ := [])).symm
            replace hB := hB.permH (List.perm_middle (l₁ := [(bm, Obj.cells ((.int .i64 m.crew.faults) :: ((.slice A9 m.crew.nodes.length cap10) :: ((.int .i64 x.seq) :: (x.dig.cells ++ ((.slice (some ⟨lm, 0, none⟩) m.l.length cap11) :: []))))).toArray 70 (0, 0))]) (l₂ := [])).symm
            replace hC : Cx w0 G0 G w ⟨[bm, lm], [(bm, .cells ((.int .i64 m.crew.faults) :: ((.slice A9 m.crew.nodes.length cap10) :: ((.int .i64 x.seq) :: (x.dig.cells ++ ((.slice (some ⟨lm, 0, none⟩) m.l.length cap11) :: []))))).toArray 70 (0, 0)), (lm, (.cells (List.toArray cs28) 54 (0, 0)))]⟩ := hC
            replace hB : Bxs G w w0.heap.size [(b12, 28, x.cells)] ⟨[bm, lm], [(bm, .cells ((.int .i64 m.crew.faults) :: ((.slice A9 m.crew.nodes.length cap10) :: ((.int .i64 x.seq) :: (x.dig.cells ++ ((.slice (some ⟨lm, 0, none⟩) m.l.length cap11) :: []))))).toArray 70 (0, 0)), (lm, (.cells (List.toArray cs28) 54 (0, 0)))]⟩ := hB
            refine wlNil ?_
            refine wcOf ?_
            refine wcRegion ?_
            refine wlVal (opMove rfl) rfl ?_
            refine wlVal (opIncr rfl rfl (by have q := hs5.le; rw [← him.1] at q; unfold maxL at q; omega)) rfl ?_
            refine wlVal (opAssign rfl) rfl ?_
            refine wlRound ?_
            exact (IH0 (k + 1, cs28, (List.set d0 k out)) _ _ ⟨hC, hB, hs5, hO29, (of_decide_eq_true h15), (rr_out hd0 hx17 hO2 (of_decide_eq_false h25))⟩ (by have := of_decide_eq_true h15; show m.l.length - (k + 1) < m.l.length - k; omega)).sub (fun _ ha => (((ha.start.cons ha (t := 0) rfl).cons ha (t := 3) rfl).cons ha (t := 5) rfl))
          · skip
            refine wcCondT rfl ?_
            refine wcSkip ?_
            refine wcOf ?_
            refine wcSeq ?_
            refine wcBlock ?_
            refine wcSeq ?_
            obtain ⟨x30, hx31⟩ : ∃ y_, x16[i]? = some y_ := ⟨_, List.getElem?_eq_getElem (of_decide_eq_true h25)⟩
            obtain ⟨b32, o33, row34, hA37, hr35, hi36⟩ := hv19.elem hx31; subst hA37
            obtain rfl := hi36
            refine wcDrawT 13 fmix (by kernel_rfl) (by kernel_rfl) (by kernel_rfl) (by kernel_rfl) (vAt [(fun _ v_ => v_ = (.pointer (some ⟨bm, 0, none⟩))), (fun _ v_ => v_ = (.pointer (some ⟨bm, 0, none⟩))), (fun _ v_ => v_ = (.pointer (some ⟨bm, 35, none⟩))), (fun _ v_ => v_ = (.slice (some ⟨lm, 0, none⟩) m.l.length cap11)), (fun _ v_ => v_ = (.int .i64 (((k : Nat) : Int)))), (fun _ v_ => v_ = (.pointer (some ⟨lm, 0 + k * 1, none⟩))), (fun _ v_ => v_ = (.slice (some ⟨b32, o33, none⟩) x16.length cap22)), (fun _ v_ => v_ = (.int .i64 (((i : Nat) : Int)))), (fun _ v_ => v_ = (.pointer (some ⟨b32, o33 + i * 33, none⟩))), (fun _ v_ => v_ = (.pointer (some ⟨b32, o33 + i * 33, none⟩))), (fun _ v_ => v_ = (.int .i64 x30.seq)), (fun _ v_ => v_ = (.pointer (some ⟨b12, 0, none⟩))), (fun _ v_ => v_ = (.int .i64 x.seq))]) (fun _ _ G' w => Cx w0 G0 G' w ⟨[bm, lm], [(bm, .cells ((.int .i64 m.crew.faults) :: ((.slice A9 m.crew.nodes.length cap10) :: ((.int .i64 x.seq) :: (x.dig.cells ++ ((.slice (some ⟨lm, 0, none⟩) m.l.length cap11) :: []))))).toArray 70 (0, 0)), (lm, (.cells (List.toArray cs0) 54 (0, 0)))]⟩ ∧ Bxs G' w w0.heap.size ([(b12, 28, x.cells)] ++ (Option.toList outO ++ [])) ⟨[bm, lm], [(bm, .cells ((.int .i64 m.crew.faults) :: ((.slice A9 m.crew.nodes.length cap10) :: ((.int .i64 x.seq) :: (x.dig.cells ++ ((.slice (some ⟨lm, 0, none⟩) m.l.length cap11) :: []))))).toArray 70 (0, 0)), (lm, (.cells (List.toArray cs0) 54 (0, 0)))]⟩ ∧ GLe G G') G (vAt_mono ⟨fun _ _ _ _ h => h, fun _ _ _ _ h => h, fun _ _ _ _ h => h, fun _ _ _ _ h => h, fun _ _ _ _ h => h, fun _ _ _ _ h => h, fun _ _ _ _ h => h, fun _ _ _ _ h => h, fun _ _ _ _ h => h, fun _ _ _ _ h => h, fun _ _ _ _ h => h, fun _ _ _ _ h => h, fun _ _ _ _ h => h, trivial⟩) (fun _ _ => ⟨hC.drew, hB.drew, fun _ _ h => h⟩) ?_ ?_
            · refine dsNone (j := 1) rfl ?_ ?_
              · intro done G w ac_ hd hp hn ⟨hC, hB, hg⟩ hM
                have f0 : ac_.tmps[0]? = some (.pointer (some ⟨bm, 0, none⟩)) := hM.old0 rfl rfl
                have hF : Fr 81 ac_ (Env.nil.put 0 (.pointer (some ⟨bm, 0, none⟩))) := (hM.fr.add f0)
                exact OpVal.draw hF (opMove rfl) ⟨G, fun _ _ h => h, ⟨hC, hB, hg⟩, rfl⟩
              refine dsNone (j := 2) rfl ?_ ?_
              · intro done G w ac_ hd hp hn ⟨hC, hB, hg⟩ hM
                have f47 : ac_.tmps[47]? = some (.pointer (some ⟨bm, 0, none⟩)) := hM.eqv 0 rfl (hp 0 rfl) rfl rfl
                have hF : Fr 81 ac_ (Env.nil.put 47 (.pointer (some ⟨bm, 0, none⟩))) := (hM.fr.add f47)
                exact OpVal.draw hF (opNilCheck rfl) ⟨G, fun _ _ h => h, ⟨hC, hB, hg⟩, rfl⟩
              refine dsNone (j := 3) rfl ?_ ?_
              · intro done G w ac_ hd hp hn ⟨hC, hB, hg⟩ hM
                have f48 : ac_.tmps[48]? = some (.pointer (some ⟨bm, 0, none⟩)) := hM.eqv 1 rfl (hp 1 rfl) rfl rfl
                have hF : Fr 81 ac_ (Env.nil.put 48 (.pointer (some ⟨bm, 0, none⟩))) := (hM.fr.add f48)
                exact OpVal.draw hF (opFieldAddr rfl fo70_2) ⟨G, fun _ _ h => h, ⟨hC, hB, hg⟩, rfl⟩
              refine dsNone (j := 4) rfl ?_ ?_
              · intro done G w ac_ hd hp hn ⟨hC, hB, hg⟩ hM
                have f49 : ac_.tmps[49]? = some (.pointer (some ⟨bm, 35, none⟩)) := hM.eqv 2 rfl (hp 2 rfl) rfl rfl
                have hF : Fr 81 ac_ (Env.nil.put 49 (.pointer (some ⟨bm, 35, none⟩))) := (hM.fr.add f49)
                exact OpVal.draw hF (opLoadOne (v := (.slice (some ⟨lm, 0, none⟩) m.l.length cap11)) rfl (hC.hcell 0 rfl (o := 35) (by simp [Mark.cells, Do.cells, Word.cells])) one68) ⟨G, fun _ _ h => h, ⟨hC, hB, hg⟩, rfl⟩
              refine dsNone (j := 5) rfl ?_ ?_
              · intro done G w ac_ hd hp hn ⟨hC, hB, hg⟩ hM
                have f5 : ac_.tmps[5]? = some (.int .i64 (((k : Nat) : Int))) := hM.old0 rfl rfl
                have hF : Fr 81 ac_ (Env.nil.put 5 (.int .i64 (((k : Nat) : Int)))) := (hM.fr.add f5)
                exact OpVal.draw hF (opMove rfl) ⟨G, fun _ _ h => h, ⟨hC, hB, hg⟩, rfl⟩
              refine dsNone (j := 6) rfl ?_ ?_
              · intro done G w ac_ hd hp hn ⟨hC, hB, hg⟩ hM
                have f50 : ac_.tmps[50]? = some (.slice (some ⟨lm, 0, none⟩) m.l.length cap11) := hM.eqv 3 rfl (hp 3 rfl) rfl rfl
                have f51 : ac_.tmps[51]? = some (.int .i64 (((k : Nat) : Int))) := hM.eqv 4 rfl (hp 4 rfl) rfl rfl
                have hF : Fr 81 ac_ ((Env.nil.put 50 (.slice (some ⟨lm, 0, none⟩) m.l.length cap11)).put 51 (.int .i64 (((k : Nat) : Int)))) := ((hM.fr.add f50).add f51)
                exact OpVal.draw hF (opIndexAddr rfl rfl slo68 (of_decide_eq_true h15)) ⟨G, fun _ _ h => h, ⟨hC, hB, hg⟩, rfl⟩
              refine dsNone (j := 7) rfl ?_ ?_
              · intro done G w ac_ hd hp hn ⟨hC, hB, hg⟩ hM
                have f52 : ac_.tmps[52]? = some (.pointer (some ⟨lm, 0 + k * 1, none⟩)) := hM.eqv 5 rfl (hp 5 rfl) rfl rfl
                have hF : Fr 81 ac_ (Env.nil.put 52 (.pointer (some ⟨lm, 0 + k * 1, none⟩))) := (hM.fr.add f52)
                exact OpVal.draw hF (opLoadOne (v := (.slice (some ⟨b32, o33, none⟩) x16.length cap22)) rfl (hr20 _ (hC.heldAt 1 rfl)) one54) ⟨G, fun _ _ h => h, ⟨hC, hB, hg⟩, rfl⟩
              refine dsNone (j := 8) rfl ?_ ?_
              · intro done G w ac_ hd hp hn ⟨hC, hB, hg⟩ hM
                have f7 : ac_.tmps[7]? = some (.int .i64 (((i : Nat) : Int))) := hM.old0 rfl rfl
                have hF : Fr 81 ac_ (Env.nil.put 7 (.int .i64 (((i : Nat) : Int)))) := (hM.fr.add f7)
                exact OpVal.draw hF (opMove rfl) ⟨G, fun _ _ h => h, ⟨hC, hB, hg⟩, rfl⟩
              refine dsNone (j := 9) rfl ?_ ?_
              · intro done G w ac_ hd hp hn ⟨hC, hB, hg⟩ hM
                have f53 : ac_.tmps[53]? = some (.slice (some ⟨b32, o33, none⟩) x16.length cap22) := hM.eqv 6 rfl (hp 6 rfl) rfl rfl
                have f54 : ac_.tmps[54]? = some (.int .i64 (((i : Nat) : Int))) := hM.eqv 7 rfl (hp 7 rfl) rfl rfl
                have hF : Fr 81 ac_ ((Env.nil.put 53 (.slice (some ⟨b32, o33, none⟩) x16.length cap22)).put 54 (.int .i64 (((i : Nat) : Int)))) := ((hM.fr.add f53).add f54)
                exact OpVal.draw hF (opIndexAddr rfl rfl slo54 (of_decide_eq_true h25)) ⟨G, fun _ _ h => h, ⟨hC, hB, hg⟩, rfl⟩
              refine dsNone (j := 10) rfl ?_ ?_
              · intro done G w ac_ hd hp hn ⟨hC, hB, hg⟩ hM
                have f55 : ac_.tmps[55]? = some (.pointer (some ⟨b32, o33 + i * 33, none⟩)) := hM.eqv 8 rfl (hp 8 rfl) rfl rfl
                have hF : Fr 81 ac_ (Env.nil.put 55 (.pointer (some ⟨b32, o33 + i * 33, none⟩))) := (hM.fr.add f55)
                exact OpVal.draw hF (opFieldAddr rfl fo28_0) ⟨G, fun _ _ h => h, ⟨hC, hB, hg⟩, rfl⟩
              refine dsNone (j := 11) rfl ?_ ?_
              · intro done G w ac_ hd hp hn ⟨hC, hB, hg⟩ hM
                replace hr35 := hr35.mono hg
                have f56 : ac_.tmps[56]? = some (.pointer (some ⟨b32, o33 + i * 33, none⟩)) := hM.eqv 9 rfl (hp 9 rfl) rfl rfl
                have hF : Fr 81 ac_ (Env.nil.put 56 (.pointer (some ⟨b32, o33 + i * 33, none⟩))) := (hM.fr.add f56)
                exact OpVal.draw hF (opLoadOne (v := (.int .i64 x30.seq)) rfl (RowG.cell0 hC.holds hr35 (by simp [Mark.cells, Do.cells, Word.cells])) one3) ⟨G, fun _ _ h => h, ⟨hC, hB, hg⟩, rfl⟩
              refine dsNone (j := 12) rfl ?_ ?_
              · intro done G w ac_ hd hp hn ⟨hC, hB, hg⟩ hM
                have f3 : ac_.tmps[3]? = some (.pointer (some ⟨b12, 0, none⟩)) := hM.old0 rfl rfl
                have hF : Fr 81 ac_ (Env.nil.put 3 (.pointer (some ⟨b12, 0, none⟩))) := (hM.fr.add f3)
                exact OpVal.draw hF (opFieldAddr rfl fo28_0) ⟨G, fun _ _ h => h, ⟨hC, hB, hg⟩, rfl⟩
              refine dsNone (j := 13) rfl ?_ ?_
              · intro done G w ac_ hd hp hn ⟨hC, hB, hg⟩ hM
                have f58 : ac_.tmps[58]? = some (.pointer (some ⟨b12, 0, none⟩)) := hM.eqv 11 rfl (hp 11 rfl) rfl rfl
                have hF : Fr 81 ac_ (Env.nil.put 58 (.pointer (some ⟨b12, 0, none⟩))) := (hM.fr.add f58)
                exact OpVal.draw hF (opLoadOne (v := (.int .i64 x.seq)) rfl (hB.cell (i := 0) rfl (by simp [Mark.cells, Do.cells, Word.cells])) one3) ⟨G, fun _ _ h => h, ⟨hC, hB, hg⟩, rfl⟩
              exact dsNil
            · intro done G w ac_ hall htl ⟨hC, hB, hg⟩ hM
              replace hs5 := hs5.mono hg
              replace hOcs0 := hOcs0.mono hg
              replace hv19 := hv19.mono hg
              replace hOout := hOout.mono hg
              replace hr35 := hr35.mono hg
              have f0 : ac_.tmps[0]? = some (.pointer (some ⟨bm, 0, none⟩)) := hM.old0 rfl rfl
              have f3 : ac_.tmps[3]? = some (.pointer (some ⟨b12, 0, none⟩)) := hM.old0 rfl rfl
              have f5 : ac_.tmps[5]? = some (.int .i64 (((k : Nat) : Int))) := hM.old0 rfl rfl
              have f6 : ac_.tmps[6]? = some (.slice outA out.length outC) := hM.old0 rfl rfl
              have f7 : ac_.tmps[7]? = some (.int .i64 (((i : Nat) : Int))) := hM.old0 rfl rfl
              have f57 : ac_.tmps[57]? = some (.int .i64 x30.seq) := hM.eqv 10 rfl (hall 10 rfl) rfl rfl
              have f59 : ac_.tmps[59]? = some (.int .i64 x.seq) := hM.eqv 12 rfl (hall 12 rfl) rfl rfl
              refine ⟨(((((((Env.nil.put 0 (.pointer (some ⟨bm, 0, none⟩))).put 3 (.pointer (some ⟨b12, 0, none⟩))).put 5 (.int .i64 (((k : Nat) : Int)))).put 6 (.slice outA out.length outC)).put 7 (.int .i64 (((i : Nat) : Int)))).put 57 (.int .i64 x30.seq)).put 59 (.int .i64 x.seq)), (((((((hM.fr.add f0).add f3).add f5).add f6).add f7).add f57).add f59), ?_⟩
              clear hM hall htl
              refine wlVal (opGtr rfl rfl) rfl ?_
              refine wlThen ?_
              cases h38 : decide (x.seq < x30.seq)
              · skip
                refine wcCondF rfl ?_
                refine wcSkip ?_
                refine wcOf ?_
                refine wcRegion ?_
                refine wlVal (opMove rfl) rfl ?_
                refine wlVal (opIncr rfl rfl (by have q := (rr_b him hd0 hx17); have q2 := of_decide_eq_true h25; omega)) rfl ?_
                refine wlVal (opAssign rfl) rfl ?_
                refine wlRound ?_
                exact (IH1 (i + 1, outA, outC, outO, out) _ _ ⟨hC, hB, hs5, hOcs0, hv19, hOout, (of_decide_eq_true h25), (rr_stepF hO2 hx31 h38)⟩ (by have := of_decide_eq_true h25; show x16.length - (i + 1) < x16.length - i; omega)).sub (fun _ ha => (((((ha.start.cons ha (t := 0) rfl).cons ha (t := 3) rfl).cons ha (t := 5) rfl).cons ha (t := 6) rfl).cons ha (t := 7) rfl))
              · skip
                refine wcCondT rfl ?_
                refine wcRegion ?_
                refine wlVal (opMove rfl) rfl ?_
                refine wlVal (opMove rfl) rfl ?_
                refine wlVal (opNilCheck rfl) rfl ?_
                refine wlVal (opFieldAddr rfl fo70_2) rfl ?_
                refine wlVal (opLoadOne (v := (.slice (some ⟨lm, 0, none⟩) m.l.length cap11)) rfl (hC.hcell 0 rfl (o := 35) (by simp [Mark.cells, Do.cells, Word.cells])) one68) rfl ?_
                refine wlVal (opMove rfl) rfl ?_
                refine wlVal (opIndexAddr rfl rfl slo68 (of_decide_eq_true h15)) rfl ?_
                refine wlVal (opLoadOne (v := (.slice (some ⟨b32, o33, none⟩) x16.length cap22)) rfl (hr20 _ (hC.heldAt 1 rfl)) one54) rfl ?_
                refine wlVal (opMove rfl) rfl ?_
                refine wlVal (opIndexAddr rfl rfl slo54 (of_decide_eq_true h25)) rfl ?_
                refine wlVal (opLoadRow (cs := x30.cells) rfl (RowG.range hC.holds hr35) row28 (by simp [Mark.cells, Do.cells, Word.cells])) rfl ?_
                refine wlBuildSlice (α := Mark) (ps := [(0, .tmp 71)]) (xs := [x30]) (rows := [x30.cells]) elo54 rfl rfl hC hB rfl rfl rfl ⟨rfl, trivial⟩ rfl ?_; intro b39 G w hk hC hB hs40
                replace hs5 := hs5.mono hk.gle; replace hOcs0 := hOcs0.mono hk.gle; replace hv19 := hv19.mono hk.gle; replace hOout := hOout.mono hk.gle; replace hr35 := hr35.mono hk.gle
                refine wlAppend (α := Mark) (bl := [(b12, 28, x.cells)]) (o := outO) (r := []) elo54 hC hB rfl rfl hOout hs40 (by have q := rr_ol (rr_b him hd0 hx17) hO2; simp only [List.length_cons, List.length_nil]; omega) rfl rfl ?_; intro A41 cap42 o43 w hC hB hO44
                refine wlVal (opAssign rfl) rfl ?_
                refine wlNil ?_
                refine wcOf ?_
                refine wcRegion ?_
                refine wlVal (opMove rfl) rfl ?_
                refine wlVal (opIncr rfl rfl (by have q := (rr_b him hd0 hx17); have q2 := of_decide_eq_true h25; omega)) rfl ?_
                refine wlVal (opAssign rfl) rfl ?_
                refine wlRound ?_
                exact (IH1 (i + 1, A41, cap42, o43, (out ++ [x30])) _ _ ⟨hC, hB, hs5, hOcs0, hv19, hO44, (of_decide_eq_true h25), (rr_stepT hO2 hx31 h38)⟩ (by have := of_decide_eq_true h25; show x16.length - (i + 1) < x16.length - i; omega)).sub (fun _ ha => (((((ha.start.cons ha (t := 0) rfl).cons ha (t := 3) rfl).cons ha (t := 5) rfl).cons ha (t := 6) rfl).cons ha (t := 7) rfl))
    · skip
      refine wlOff rfl rfl rfl rfl ?_
      refine wlOff rfl rfl rfl rfl ?_
      refine wlOff rfl rfl rfl rfl ?_
      refine wlOff rfl rfl rfl rfl ?_
      refine wlVal (opPickT rfl rfl) rfl ?_
      refine wlThen ?_
      refine wcCondT rfl ?_
      refine wcSeq ?_
      refine wcRegion ?_
      refine wlVal (opAssign rfl) rfl ?_
      refine wlThen ?_
      refine wcRet ?_
      exact fun ac_ ha => hQ _ _ _ (results1 ha rfl rfl) ha.df (endM hC [(bm, .cells ((.int .i64 m.crew.faults) :: ((.slice A9 m.crew.nodes.length cap10) :: ((.int .i64 m.mark.seq) :: (m.mark.dig.cells ++ ((.slice (some ⟨lm, 0, none⟩) m.l.length cap11) :: []))))).toArray 70 (0, 0)), (lm, (.cells (List.toArray cs3) 54 (0, 0)))] (.cons₂ _ (.cons₂ _ .slnil)) rfl ⟨_, _, rfl, (by have e_ : (rraiseM m x).1 = m := (by simp only [rraiseM, h13, cond_true, cond_false, Bool.not_true, Bool.not_false]; try rfl); rw [e_]; exact ⟨_, _, _, rfl, hs5, rfl, hO7, him⟩), (by simp only [rraiseM, h13, cond_true, cond_false, Bool.not_true, Bool.not_false])⟩)

theorem new_ok (G0 : Gh) (w0 : World) (hw : Holds G0 w0) (csc : List Value) (c : Crew) (hc : Rp.Is G0 csc c) (low : Mark) (hok : newOk c low = true) :
    RetN Try.prog 9 #[.agg csc.toArray, .agg low.cells.toArray] G0 w0 (fun G L v => ∃ b l o q, L = [(b, o), (l, q)] ∧ MarksO G o q l ((MSt.mk c low [])) ∧ v = (.tuple #[(.pointer (some ⟨b, 0, none⟩)), .int .i64 0])) := by
  have hC := Cx.refl hw
  have hB : Bxs G0 w0 w0.heap.size [] := Bxs.nil _ _ _
  obtain ⟨v1, rfl, hs2⟩ := Crew.opIs hc
  obtain ⟨A3, cap4, rfl⟩ := hs2.form
  have hk1 := newOk_1 hok
  have hk2 := newOk_2 hok
  refine callsOf Try.func9 rfl _ Try.ntmps9 rfl _ (argsCons (argsCons argsNil (t := 0) rfl) (t := 1) rfl) ?_; intro Q0 hQ
  refine wcSeq ?_
  refine wcRegion ?_
  refine wlBox (cs := [(.int .i64 c.faults), (.slice A3 c.nodes.length cap4)]) hC hB rfl rfl rfl ?_; intro b5 w hk hC hB
  refine wlBox (cs := low.cells) hC hB rfl rfl rfl ?_; intro b6 w hk hC hB
  refine wlVal (opAssign rfl) rfl ?_
  refine wlVal (opAssign rfl) rfl ?_
  refine wlThen ?_
  refine wcSeq ?_
  refine wcBlock ?_
  refine wcSeq ?_
  refine wcRegion ?_
  refine wlVal (opLoadRow (cs := [(.int .i64 c.faults), (.slice A3 c.nodes.length cap4)]) rfl (hB.range (i := 1) (m := 2) rfl rfl) row24 rfl) rfl ?_
  refine wlCallS hC hB rfl co27 rfl rfl (check_ret _ _ hC.holds _ c (Crew.mkIs (x := c) hs2)) ?_; intro w hk hC hB
  refine wlVal (OpVal.cast (opNeq rfl rfl) (congrArg Value.bool hk1)) rfl ?_
  refine wlVal (opAssign rfl) rfl ?_
  refine wlThen ?_
  refine wcCondF rfl ?_
  refine wcSeq ?_
  refine wcRegion ?_
  refine wlVal (opFieldAddr rfl fo28_0) rfl ?_
  refine wlVal (opLoadOne (v := (.int .i64 low.seq)) rfl (hB.cell (i := 0) rfl (by simp [Mark.cells, Do.cells, Word.cells])) one3) rfl ?_
  refine wlCallS hC hB rfl co28 rfl rfl (RetS.cast (may_ret _ _ hC.holds low.seq) (congrArg Value.bool hk2)) ?_; intro w hk hC hB
  refine wlVal (opNot rfl) rfl ?_
  refine wlVal (opAssign rfl) rfl ?_
  refine wlThen ?_
  refine wcCondF rfl ?_
  refine wcSkip ?_
  refine wcOf ?_
  refine wcSeq ?_
  refine wcRegion ?_
  refine wlVal (opFieldAddr rfl fo24_1) rfl ?_
  refine wlVal (opLoadOne (v := (.slice A3 c.nodes.length cap4)) rfl (hB.cell (i := 1) rfl rfl) one22) rfl ?_
  refine wlCallO (bl := [(b6, 28, low.cells), (b5, 24, [(.int .i64 c.faults), (.slice A3 c.nodes.length cap4)])]) (r := []) hC hB rfl co29 rfl rfl (cloneI_ret _ _ hC.holds _ c.nodes hs2 (new_l6 hk1)) ?_; rintro v11 G o9 w hk hC hB ⟨A7, cap8, rfl, hO10⟩
  replace hs2 := hs2.mono hk.gle
  refine wlVal (opFieldAddr rfl fo24_1) rfl ?_
  refine wlStore 1 (vs := [(.slice A7 c.nodes.length cap8)]) (cs := [(.int .i64 c.faults), (.slice A3 c.nodes.length cap4)]) (cs' := [(.int .i64 c.faults), (.slice A7 c.nodes.length cap8)]) hC hB rfl rfl rfl sz22 rfl rfl rfl (by simp [Mark.cells, Do.cells, Word.cells]) rfl rfl ?_; intro w hC hB
  replace hB : Bxs G w w0.heap.size ([(b6, 28, low.cells), (b5, 24, [(.int .i64 c.faults), (.slice A7 c.nodes.length cap8)])] ++ (Option.toList o9 ++ [])) := hB
  refine wlThen ?_
  refine wcSeq ?_
  refine wcRegion ?_
  refine wlVal (opLoadRow (cs := [(.int .i64 c.faults), (.slice A7 c.nodes.length cap8)]) rfl (hB.range (i := 1) (m := 2) rfl rfl) row24 rfl) rfl ?_
  refine wlVal (opLoadRow (cs := low.cells) rfl (hB.range (i := 0) (m := 33) rfl (by simp [Mark.cells, Do.cells, Word.cells])) row28 (by simp [Mark.cells, Do.cells, Word.cells])) rfl ?_
  refine wlMakeMapH hC hB rfl ?_; intro b12 w hC hB
  have hM13 : MpO kI G (.map #[] 0) ([] : List (Int × (List Mark))) := MpO.nil_ _ _
  replace hC : Cx w0 G0 G w ⟨[], [(b12, .map #[] 0)]⟩ := hC
  replace hB : Bxs G w w0.heap.size ([(b6, 28, low.cells), (b5, 24, [(.int .i64 c.faults), (.slice A7 c.nodes.length cap8)])] ++ (Option.toList o9 ++ [])) ⟨[], [(b12, .map #[] 0)]⟩ := hB
  refine wlVal (opBuild (ps := [(0, .tmp 19), (1, .tmp 20), (2, .tmp 21)]) (cs := ((.int .i64 c.faults) :: ((.slice A7 c.nodes.length cap8) :: ((.int .i64 low.seq) :: (low.dig.cells ++ ((.map (some b12)) :: [])))))) so64 zero64 rfl rfl (by first | (simp [buildCells, Value.cells]; done) | simp [buildCells, Value.cells, Mark.cells, Do.cells, Word.cells])) rfl ?_
  obtain ⟨G, hg16, hC, hB, hs15⟩ := Ow.freeze' (bl := [(b6, 28, low.cells), (b5, 24, [(.int .i64 c.faults), (.slice A7 c.nodes.length cap8)])]) (r := []) hO10 hC (Nat.le_refl _) hB (new_le hk1)
  replace hs2 := hs2.mono hg16; replace hM13 := hM13.mono hg16
  replace hB : Bxs G w w0.heap.size [(b6, 28, low.cells), (b5, 24, [(.int .i64 c.faults), (.slice A7 c.nodes.length cap8)])] ⟨[], [(b12, .map #[] 0)]⟩ := hB
  refine wlBox (cs := ((.int .i64 c.faults) :: ((.slice A7 c.nodes.length cap8) :: ((.int .i64 low.seq) :: (low.dig.cells ++ ((.map (some b12)) :: [])))))) hC hB rfl rfl rfl ?_; intro b14 w hk hC hB
  obtain ⟨hC, hB⟩ := hold hC hB (i := 0) rfl
  replace hC : Cx w0 G0 G w ⟨[], [(b14, .cells ((.int .i64 c.faults) :: ((.slice A7 c.nodes.length cap8) :: ((.int .i64 low.seq) :: (low.dig.cells ++ ((.map (some b12)) :: []))))).toArray 64 (0, 0)), (b12, .map #[] 0)]⟩ := hC
  replace hB : Bxs G w w0.heap.size [(b6, 28, low.cells), (b5, 24, [(.int .i64 c.faults), (.slice A7 c.nodes.length cap8)])] ⟨[], [(b14, .cells ((.int .i64 c.faults) :: ((.slice A7 c.nodes.length cap8) :: ((.int .i64 low.seq) :: (low.dig.cells ++ ((.map (some b12)) :: []))))).toArray 64 (0, 0)), (b12, .map #[] 0)]⟩ := hB
  refine wlVal (opAssign rfl) rfl ?_
  refine wlVal (opAssign rfl) rfl ?_
  refine wlThen ?_
  refine wcRet ?_
  exact fun ac_ ha => hQ _ _ _ (results2 ha rfl rfl rfl) ha.df (endN hC [(b14, .cells ((.int .i64 c.faults) :: ((.slice A7 c.nodes.length cap8) :: ((.int .i64 low.seq) :: (low.dig.cells ++ ((.map (some b12)) :: []))))).toArray 64 (0, 0)), (b12, .map #[] 0)] (.cons₂ _ (.cons₂ _ .slnil)) ⟨_, _, _, _, rfl, (by have e_ : (MSt.mk c low []) = (MSt.mk ((Crew.mk c.faults c.nodes)) low ([])) := rfl; rw [e_]; exact ⟨_, rfl, hs15, hM13, (newinv hk1)⟩), rfl⟩)

theorem new_no (G0 : Gh) (w0 : World) (hw : Holds G0 w0) (csc : List Value) (c : Crew) (hc : Rp.Is G0 csc c) (low : Mark) (hok : newOk c low = false) :
    RetG Try.prog 9 #[.agg csc.toArray, .agg low.cells.toArray] G0 w0 (fun _ v => v = .tuple #[.pointer none, .int .i64 (newE c low)]) := by
  have hC := Cx.refl hw
  have hB : Bxs G0 w0 w0.heap.size [] := Bxs.nil _ _ _
  obtain ⟨v1, rfl, hs2⟩ := Crew.opIs hc
  obtain ⟨A3, cap4, rfl⟩ := hs2.form
  refine callsOf Try.func9 rfl _ Try.ntmps9 rfl _ (argsCons (argsCons argsNil (t := 0) rfl) (t := 1) rfl) ?_; intro Q0 hQ
  refine wcSeq ?_
  refine wcRegion ?_
  refine wlBox (cs := [(.int .i64 c.faults), (.slice A3 c.nodes.length cap4)]) hC hB rfl rfl rfl ?_; intro b5 w hk hC hB
  refine wlBox (cs := low.cells) hC hB rfl rfl rfl ?_; intro b6 w hk hC hB
  refine wlVal (opAssign rfl) rfl ?_
  refine wlVal (opAssign rfl) rfl ?_
  refine wlThen ?_
  refine wcSeq ?_
  refine wcBlock ?_
  refine wcSeq ?_
  refine wcRegion ?_
  refine wlVal (opLoadRow (cs := [(.int .i64 c.faults), (.slice A3 c.nodes.length cap4)]) rfl (hB.range (i := 1) (m := 2) rfl rfl) row24 rfl) rfl ?_
  refine wlCallS hC hB rfl co27 rfl rfl (check_ret _ _ hC.holds _ c (Crew.mkIs (x := c) hs2)) ?_; intro w hk hC hB
  refine wlVal (opNeq rfl rfl) rfl ?_
  refine wlVal (opAssign rfl) rfl ?_
  refine wlThen ?_
  cases h7 : ((check c)) != 0
  · skip
    refine wcCondF rfl ?_
    refine wcSeq ?_
    refine wcRegion ?_
    refine wlVal (opFieldAddr rfl fo28_0) rfl ?_
    refine wlVal (opLoadOne (v := (.int .i64 low.seq)) rfl (hB.cell (i := 0) rfl (by simp [Mark.cells, Do.cells, Word.cells])) one3) rfl ?_
    refine wlCallS hC hB rfl co28 rfl rfl (may_ret _ _ hC.holds low.seq) ?_; intro w hk hC hB
    refine wlVal (opNot rfl) rfl ?_
    refine wlVal (opAssign rfl) rfl ?_
    refine wlThen ?_
    cases h8 : (mayB low.seq)
    · skip
      refine wcCondT rfl ?_
      refine wcSeq ?_
      refine wcRegion ?_
      refine wlVal (opAssign rfl) rfl ?_
      refine wlVal (opAssign rfl) rfl ?_
      refine wlThen ?_
      refine wcRet ?_
      exact fun ac_ ha => hQ _ _ _ (results2 ha rfl rfl rfl) ha.df (endG hC (by simp only [newE, h7, h8, cond_true, cond_false, Bool.not_true, Bool.not_false]))
    · skip
      exact (newOk_dead hok h7 h8).elim
  · skip
    refine wcCondT rfl ?_
    refine wcSeq ?_
    refine wcRegion ?_
    refine wlVal (opAssign rfl) rfl ?_
    refine wlVal (opAssign rfl) rfl ?_
    refine wlThen ?_
    refine wcRet ?_
    exact fun ac_ ha => hQ _ _ _ (results2 ha rfl rfl rfl) ha.df (endG hC (by simp only [newE, h7, cond_true, cond_false, Bool.not_true, Bool.not_false]))

theorem rnew_ok (G0 : Gh) (w0 : World) (hw : Holds G0 w0) (csc : List Value) (c : Crew) (hc : Rp.Is G0 csc c) (low : Mark) (hok : newOk c low = true) :
    RetN Try.prog 10 #[.agg csc.toArray, .agg low.cells.toArray] G0 w0 (fun G L v => ∃ b l o q, L = [(b, o), (l, q)] ∧ RMarksO G o q l ((RSt.mk c low (List.replicate c.nodes.length []))) ∧ v = (.tuple #[(.pointer (some ⟨b, 0, none⟩)), .int .i64 0])) := by
  have hC := Cx.refl hw
  have hB : Bxs G0 w0 w0.heap.size [] := Bxs.nil _ _ _
  obtain ⟨v1, rfl, hs2⟩ := Crew.opIs hc
  obtain ⟨A3, cap4, rfl⟩ := hs2.form
  have hk1 := newOk_1 hok
  have hk2 := newOk_2 hok
  refine callsOf Try.func10 rfl _ Try.ntmps10 rfl _ (argsCons (argsCons argsNil (t := 0) rfl) (t := 1) rfl) ?_; intro Q0 hQ
  refine wcSeq ?_
  refine wcRegion ?_
  refine wlBox (cs := [(.int .i64 c.faults), (.slice A3 c.nodes.length cap4)]) hC hB rfl rfl rfl ?_; intro b5 w hk hC hB
  refine wlBox (cs := low.cells) hC hB rfl rfl rfl ?_; intro b6 w hk hC hB
  refine wlVal (opAssign rfl) rfl ?_
  refine wlVal (opAssign rfl) rfl ?_
  refine wlThen ?_
  refine wcSeq ?_
  refine wcSeq ?_
  refine wcRegion ?_
  refine wlVal (opLoadRow (cs := [(.int .i64 c.faults), (.slice A3 c.nodes.length cap4)]) rfl (hB.range (i := 1) (m := 2) rfl rfl) row24 rfl) rfl ?_
  refine wlCallS hC hB rfl co30 rfl rfl (rcheck_ret _ _ hC.holds _ c (Crew.mkIs (x := c) hs2)) ?_; intro w hk hC hB
  refine wlVal (OpVal.cast (opNeq rfl rfl) (congrArg Value.bool hk1)) rfl ?_
  refine wlThen ?_
  refine wcCondF rfl ?_
  refine wcSkip ?_
  refine wcOf ?_
  refine wcSeq ?_
  refine wcSeq ?_
  refine wcRegion ?_
  refine wlVal (opFieldAddr rfl fo28_0) rfl ?_
  refine wlVal (opLoadOne (v := (.int .i64 low.seq)) rfl (hB.cell (i := 0) rfl (by simp [Mark.cells, Do.cells, Word.cells])) one3) rfl ?_
  refine wlCallS hC hB rfl co31 rfl rfl (RetS.cast (rmay_ret _ _ hC.holds low.seq) (congrArg Value.bool hk2)) ?_; intro w hk hC hB
  refine wlVal (opNot rfl) rfl ?_
  refine wlThen ?_
  refine wcCondF rfl ?_
  refine wcSkip ?_
  refine wcOf ?_
  refine wcSeq ?_
  refine wcRegion ?_
  refine wlVal (opAssign rfl) rfl ?_
  refine wlThen ?_
  refine wcSeq ?_
  refine wcDrawT 8 fmix (by kernel_rfl) (by kernel_rfl) (by kernel_rfl) (by kernel_rfl) (vAt [(fun _ v_ => v_ = (.pointer (some ⟨b5, 0, none⟩))), (fun _ v_ => v_ = (.int .i64 c.faults)), (fun _ v_ => v_ = (.slice none 0 0)), (fun _ v_ => v_ = (.pointer (some ⟨b5, 1, none⟩))), (fun _ v_ => v_ = (.slice A3 c.nodes.length cap4)), (fun _ _ => True), (fun _ _ => True), (fun _ v_ => v_ = (.agg low.cells.toArray))]) (fun done ac_ G' w => GLe G0 G' ∧ ∃ (A5_ : Option Addr) (C5_ : Nat) (O5_ : Option Bx), Cx w0 G0 G' w ∧ (done 5 = true → ac_.tmps[20]? = some (.slice A5_ ((([] ++ c.nodes)).length) C5_) ∧ Ow G' O5_ 3 (.slice A5_ ((([] ++ c.nodes)).length) C5_) (([] ++ c.nodes) : List Int)) ∧ (done 6 = true → ac_.tmps[21]? = some (.agg [(.int .i64 c.faults), (.slice A5_ ((([] ++ c.nodes)).length) C5_)].toArray)) ∧ Bxs G' w w0.heap.size (([(b6, 28, low.cells), (b5, 24, [(.int .i64 c.faults), (.slice A3 c.nodes.length cap4)])] ++ (Option.toList (bif done 5 then O5_ else none) ++ [])))) G0 (vAt_mono ⟨fun _ _ _ _ h => h, fun _ _ _ _ h => h, fun _ _ _ _ h => h, fun _ _ _ _ h => h, fun _ _ _ _ h => h, fun _ _ _ _ h => h, fun _ _ _ _ h => h, fun _ _ _ _ h => h, trivial⟩) (fun _ _ => ⟨fun _ _ h => h, none, 0, none, hC.drew, (fun h => by cases h), (fun h => by cases h), hB.drew⟩) ?_ ?_
  · refine dsNone (j := 1) rfl ?_ ?_
    · intro done G w ac_ hd hp hn ⟨hg, A5_, C5_, O5_, hC, hT5, hT6, hBx⟩ hM
      have hB := hBx
      have f2 : ac_.tmps[2]? = some (.pointer (some ⟨b5, 0, none⟩)) := hM.old0 rfl rfl
      have hF : Fr 33 ac_ (Env.nil.put 2 (.pointer (some ⟨b5, 0, none⟩))) := (hM.fr.add f2)
      exact OpVal.draw hF (opFieldAddr rfl fo24_0) ⟨G, fun _ _ h => h, ⟨hg, A5_, C5_, O5_, hC, (fun h => ⟨(put_other rfl).trans (hT5 h).1, (hT5 h).2⟩), (fun h => (put_other rfl).trans (hT6 h)), hBx⟩, rfl⟩
    refine dsNone (j := 2) rfl ?_ ?_
    · intro done G w ac_ hd hp hn ⟨hg, A5_, C5_, O5_, hC, hT5, hT6, hBx⟩ hM
      have hB := hBx
      have f15 : ac_.tmps[15]? = some (.pointer (some ⟨b5, 0, none⟩)) := hM.eqv 0 rfl (hp 0 rfl) rfl rfl
      have hF : Fr 33 ac_ (Env.nil.put 15 (.pointer (some ⟨b5, 0, none⟩))) := (hM.fr.add f15)
      exact OpVal.draw hF (opLoadOne (v := (.int .i64 c.faults)) rfl (hB.cell (i := 1) rfl rfl) one3) ⟨G, fun _ _ h => h, ⟨hg, A5_, C5_, O5_, hC, (fun h => ⟨(put_other rfl).trans (hT5 h).1, (hT5 h).2⟩), (fun h => (put_other rfl).trans (hT6 h)), hBx⟩, rfl⟩
    refine dsNone (j := 3) rfl ?_ ?_
    · intro done G w ac_ hd hp hn ⟨hg, A5_, C5_, O5_, hC, hT5, hT6, hBx⟩ hM
      have hB := hBx
      have f6 : ac_.tmps[6]? = some (.slice none 0 0) := hM.old0 rfl rfl
      have hF : Fr 33 ac_ (Env.nil.put 6 (.slice none 0 0)) := (hM.fr.add f6)
      exact OpVal.draw hF (opMove rfl) ⟨G, fun _ _ h => h, ⟨hg, A5_, C5_, O5_, hC, (fun h => ⟨(put_other rfl).trans (hT5 h).1, (hT5 h).2⟩), (fun h => (put_other rfl).trans (hT6 h)), hBx⟩, rfl⟩
    refine dsNone (j := 4) rfl ?_ ?_
    · intro done G w ac_ hd hp hn ⟨hg, A5_, C5_, O5_, hC, hT5, hT6, hBx⟩ hM
      have hB := hBx
      have f2 : ac_.tmps[2]? = some (.pointer (some ⟨b5, 0, none⟩)) := hM.old0 rfl rfl
      have hF : Fr 33 ac_ (Env.nil.put 2 (.pointer (some ⟨b5, 0, none⟩))) := (hM.fr.add f2)
      exact OpVal.draw hF (opFieldAddr rfl fo24_1) ⟨G, fun _ _ h => h, ⟨hg, A5_, C5_, O5_, hC, (fun h => ⟨(put_other rfl).trans (hT5 h).1, (hT5 h).2⟩), (fun h => (put_other rfl).trans (hT6 h)), hBx⟩, rfl⟩
    refine dsNone (j := 5) rfl ?_ ?_
    · intro done G w ac_ hd hp hn ⟨hg, A5_, C5_, O5_, hC, hT5, hT6, hBx⟩ hM
      have hB := hBx
      have f18 : ac_.tmps[18]? = some (.pointer (some ⟨b5, 1, none⟩)) := hM.eqv 3 rfl (hp 3 rfl) rfl rfl
      have hF : Fr 33 ac_ (Env.nil.put 18 (.pointer (some ⟨b5, 1, none⟩))) := (hM.fr.add f18)
      exact OpVal.draw hF (opLoadOne (v := (.slice A3 c.nodes.length cap4)) rfl (hB.cell (i := 1) rfl rfl) one22) ⟨G, fun _ _ h => h, ⟨hg, A5_, C5_, O5_, hC, (fun h => ⟨(put_other rfl).trans (hT5 h).1, (hT5 h).2⟩), (fun h => (put_other rfl).trans (hT6 h)), hBx⟩, rfl⟩
    refine dsNone (j := 6) rfl ?_ ?_
    · intro done G w ac_ hd hp hn ⟨hg, A5_, C5_, O5_, hC, hT5, hT6, hBx⟩ hM
      have hB := hBx
      replace hs2 := hs2.mono hg
      have f17 : ac_.tmps[17]? = some (.slice none 0 0) := hM.eqv 2 rfl (hp 2 rfl) rfl rfl
      have f19 : ac_.tmps[19]? = some (.slice A3 c.nodes.length cap4) := hM.eqv 4 rfl (hp 4 rfl) rfl rfl
      have hF : Fr 33 ac_ ((Env.nil.put 17 (.slice none 0 0)).put 19 (.slice A3 c.nodes.length cap4)) := ((hM.fr.add f17).add f19)
      simp only [hd, cond_false] at hBx
      exact drawAppend (α := Int) (bl := [(b6, 28, low.cells), (b5, 24, [(.int .i64 c.faults), (.slice A3 c.nodes.length cap4)])]) (o := none) (r := []) hF elo22 hC hBx rfl rfl (Ow.nil_ _ 3) hs2 (by have q := new_l6 hk1; simp; omega) rfl (fun A_ cap_ o_ w' hC hB hO_ => ⟨G, fun _ _ h => h, ⟨hg, A_, cap_, o_, hC, (fun _ => ⟨put_same hM.sz rfl, hO_⟩), (fun h => by simp [Done.set, hn 6 _ rfl rfl] at h), by simpa [Done.set] using hB⟩, trivial⟩)
    refine dsNone (j := 7) rfl ?_ ?_
    · intro done G w ac_ hd hp hn ⟨hg, A5_, C5_, O5_, hC, hT5, hT6, hBx⟩ hM
      have hB := hBx
      have f16 : ac_.tmps[16]? = some (.int .i64 c.faults) := hM.eqv 1 rfl (hp 1 rfl) rfl rfl
      have f20 := (hT5 (hp 5 rfl)).1
      have hF : Fr 33 ac_ ((Env.nil.put 16 (.int .i64 c.faults)).put 20 (.slice A5_ ((([] ++ c.nodes)).length) C5_)) := ((hM.fr.add f16).add f20)
      exact OpVal.draw hF (opBuild (ps := [(0, .tmp 16), (1, .tmp 20)]) (cs := [(.int .i64 c.faults), (.slice A5_ ((([] ++ c.nodes)).length) C5_)]) so24 zero24 rfl rfl (by first | (simp [buildCells, Value.cells]; done) | simp [buildCells, Value.cells, Mark.cells, Do.cells, Word.cells])) ⟨G, fun _ _ h => h, ⟨hg, A5_, C5_, O5_, hC, (fun h => ⟨(put_other rfl).trans (hT5 h).1, (hT5 h).2⟩), (fun _ => put_same hM.sz rfl), hBx⟩, trivial⟩
    refine dsNone (j := 8) rfl ?_ ?_
    · intro done G w ac_ hd hp hn ⟨hg, A5_, C5_, O5_, hC, hT5, hT6, hBx⟩ hM
      have hB := hBx
      have f3 : ac_.tmps[3]? = some (.pointer (some ⟨b6, 0, none⟩)) := hM.old0 rfl rfl
      have hF : Fr 33 ac_ (Env.nil.put 3 (.pointer (some ⟨b6, 0, none⟩))) := (hM.fr.add f3)
      exact OpVal.draw hF (opLoadRow (cs := low.cells) rfl (hB.range (i := 0) (m := 33) rfl (by simp [Mark.cells, Do.cells, Word.cells])) row28 (by simp [Mark.cells, Do.cells, Word.cells])) ⟨G, fun _ _ h => h, ⟨hg, A5_, C5_, O5_, hC, (fun h => ⟨(put_other rfl).trans (hT5 h).1, (hT5 h).2⟩), (fun h => (put_other rfl).trans (hT6 h)), hBx⟩, rfl⟩
    exact dsNil
  · intro done G w ac_ hall htl ⟨hg, A8, cap9, o10, hC, hT5, hT6, hB⟩ hM
    replace hs2 := hs2.mono hg
    have f2 : ac_.tmps[2]? = some (.pointer (some ⟨b5, 0, none⟩)) := hM.old0 rfl rfl
    have f21 := hT6 (hall 6 rfl)
    have f22 : ac_.tmps[22]? = some (.agg low.cells.toArray) := hM.eqv 7 rfl (hall 7 rfl) rfl rfl
    have hO7 := (hT5 (hall 5 rfl)).2
    try simp only [hall 5 rfl, cond_true] at hB
    replace hB : Bxs G w w0.heap.size ([(b6, 28, low.cells), (b5, 24, [(.int .i64 c.faults), (.slice A3 c.nodes.length cap4)])] ++ (Option.toList o10 ++ [])) := hB
    refine ⟨(((Env.nil.put 2 (.pointer (some ⟨b5, 0, none⟩))).put 21 (.agg [(.int .i64 c.faults), (.slice A8 ((([] ++ c.nodes)).length) cap9)].toArray)).put 22 (.agg low.cells.toArray)), (((hM.fr.add f2).add f21).add f22), ?_⟩
    clear hM hall htl
    refine wlVal (opBuild (ps := [(0, .tmp 21), (1, .tmp 22)]) (cs := ((.int .i64 c.faults) :: ((.slice A8 ((([] ++ c.nodes)).length) cap9) :: ((.int .i64 low.seq) :: (low.dig.cells ++ ((.slice none 0 0) :: [])))))) so70 zero70 rfl rfl (by first | (simp [buildCells, Value.cells]; done) | simp [buildCells, Value.cells, Mark.cells, Do.cells, Word.cells])) rfl ?_
    obtain ⟨G, hg13, hC, hB, hs12⟩ := Ow.freeze' (bl := [(b6, 28, low.cells), (b5, 24, [(.int .i64 c.faults), (.slice A3 c.nodes.length cap4)])]) (r := []) hO7 hC (Nat.le_refl _) hB (new_le hk1)
    replace hs2 := hs2.mono hg13
    refine wlBox (cs := ((.int .i64 c.faults) :: ((.slice A8 ((([] ++ c.nodes)).length) cap9) :: ((.int .i64 low.seq) :: (low.dig.cells ++ ((.slice none 0 0) :: [])))))) hC hB rfl rfl rfl ?_; intro b11 w hk hC hB
    obtain ⟨hC, hB⟩ := hold hC hB (i := 0) rfl
    replace hC : Cx w0 G0 G w ⟨[], [(b11, .cells ((.int .i64 c.faults) :: ((.slice A8 ((([] ++ c.nodes)).length) cap9) :: ((.int .i64 low.seq) :: (low.dig.cells ++ ((.slice none 0 0) :: []))))).toArray 70 (0, 0))]⟩ := hC
    replace hB : Bxs G w w0.heap.size [(b6, 28, low.cells), (b5, 24, [(.int .i64 c.faults), (.slice A3 c.nodes.length cap4)])] ⟨[], [(b11, .cells ((.int .i64 c.faults) :: ((.slice A8 ((([] ++ c.nodes)).length) cap9) :: ((.int .i64 low.seq) :: (low.dig.cells ++ ((.slice none 0 0) :: []))))).toArray 70 (0, 0))]⟩ := hB
    refine wlVal (opAssign rfl) rfl ?_
    refine wlThen ?_
    refine wcSeq ?_
    refine wcRegion ?_
    refine wlVal (opMove rfl) rfl ?_
    refine wlVal (opFieldAddr rfl fo24_1) rfl ?_
    refine wlVal (opLoadOne (v := (.slice A3 c.nodes.length cap4)) rfl (hB.cell (i := 1) rfl rfl) one22) rfl ?_
    refine wlVal (opLen rfl isl22) rfl ?_
    refine wlMakeOwn (α := (List Mark)) (bl := [(b6, 28, low.cells), (b5, 24, [(.int .i64 c.faults), (.slice A3 c.nodes.length cap4)])]) (r := []) (n := c.nodes.length) (z := ([] : (List Mark))) (zv := (Value.slice none 0 0)) elo68 rfl zv54 rfl (fun _ => (isL' (Sl.nil_ _))) hC hB rfl rfl (by have q := new_l6 hk1; (try simp only [List.nil_append]); omega) rfl rfl ?_; intro b14 w hC hB hO15
    refine wlVal (opNilCheck rfl) rfl ?_
    refine wlVal (opFieldAddr rfl fo70_2) rfl ?_
    obtain ⟨hC, hB⟩ := hold hC hB (i := 2) rfl
    replace hC : Cx w0 G0 G w ⟨[], [(b14, (.cells (List.toArray ((List.replicate c.nodes.length (Value.slice none 0 0)))) 54 (0, 0))), (b11, .cells ((.int .i64 c.faults) :: ((.slice A8 ((([] ++ c.nodes)).length) cap9) :: ((.int .i64 low.seq) :: (low.dig.cells ++ ((.slice none 0 0) :: []))))).toArray 70 (0, 0))]⟩ := hC
    replace hB : Bxs G w w0.heap.size [(b6, 28, low.cells), (b5, 24, [(.int .i64 c.faults), (.slice A3 c.nodes.length cap4)])] ⟨[], [(b14, (.cells (List.toArray ((List.replicate c.nodes.length (Value.slice none 0 0)))) 54 (0, 0))), (b11, .cells ((.int .i64 c.faults) :: ((.slice A8 ((([] ++ c.nodes)).length) cap9) :: ((.int .i64 low.seq) :: (low.dig.cells ++ ((.slice none 0 0) :: []))))).toArray 70 (0, 0))]⟩ := hB
    replace hC := hC.permH (List.perm_middle (l₁ := [(b11, Obj.cells ((.int .i64 c.faults) :: ((.slice A8 ((([] ++ c.nodes)).length) cap9) :: ((.int .i64 low.seq) :: (low.dig.cells ++ ((.slice none 0 0) :: []))))).toArray 70 (0, 0))]) (l₂ := [])).symm
    replace hB := hB.permH (List.perm_middle (l₁ := [(b11, Obj.cells ((.int .i64 c.faults) :: ((.slice A8 ((([] ++ c.nodes)).length) cap9) :: ((.int .i64 low.seq) :: (low.dig.cells ++ ((.slice none 0 0) :: []))))).toArray 70 (0, 0))]) (l₂ := [])).symm
    replace hC : Cx w0 G0 G w ⟨[], [(b11, .cells ((.int .i64 c.faults) :: ((.slice A8 ((([] ++ c.nodes)).length) cap9) :: ((.int .i64 low.seq) :: (low.dig.cells ++ ((.slice none 0 0) :: []))))).toArray 70 (0, 0)), (b14, (.cells (List.toArray ((List.replicate c.nodes.length (Value.slice none 0 0)))) 54 (0, 0)))]⟩ := hC
    replace hB : Bxs G w w0.heap.size [(b6, 28, low.cells), (b5, 24, [(.int .i64 c.faults), (.slice A3 c.nodes.length cap4)])] ⟨[], [(b11, .cells ((.int .i64 c.faults) :: ((.slice A8 ((([] ++ c.nodes)).length) cap9) :: ((.int .i64 low.seq) :: (low.dig.cells ++ ((.slice none 0 0) :: []))))).toArray 70 (0, 0)), (b14, (.cells (List.toArray ((List.replicate c.nodes.length (Value.slice none 0 0)))) 54 (0, 0)))]⟩ := hB
    obtain ⟨hC, hB⟩ := unhold hC hB (i := 0) rfl
    refine wlStore 0 (vs := [(.slice (some ⟨b14, 0, none⟩) c.nodes.length c.nodes.length)]) (cs := ((.int .i64 c.faults) :: ((.slice A8 ((([] ++ c.nodes)).length) cap9) :: ((.int .i64 low.seq) :: (low.dig.cells ++ ((.slice none 0 0) :: [])))))) (cs' := ((.int .i64 c.faults) :: ((.slice A8 ((([] ++ c.nodes)).length) cap9) :: ((.int .i64 low.seq) :: (low.dig.cells ++ ((.slice (some ⟨b14, 0, none⟩) c.nodes.length c.nodes.length) :: [])))))) hC hB rfl rfl rfl sz68 rfl rfl rfl (by simp [Mark.cells, Do.cells, Word.cells]) (by simp [Mark.cells, Do.cells, Word.cells]) rfl ?_; intro w hC hB
    obtain ⟨hC, hB⟩ := hold hC hB (i := 0) rfl
    replace hC : Cx w0 G0 G w ⟨[], [(b11, .cells ((.int .i64 c.faults) :: ((.slice A8 ((([] ++ c.nodes)).length) cap9) :: ((.int .i64 low.seq) :: (low.dig.cells ++ ((.slice (some ⟨b14, 0, none⟩) c.nodes.length c.nodes.length) :: []))))).toArray 70 (0, 0)), (b14, (.cells (List.toArray ((List.replicate c.nodes.length (Value.slice none 0 0)))) 54 (0, 0)))]⟩ := hC
    replace hB : Bxs G w w0.heap.size [(b6, 28, low.cells), (b5, 24, [(.int .i64 c.faults), (.slice A3 c.nodes.length cap4)])] ⟨[], [(b11, .cells ((.int .i64 c.faults) :: ((.slice A8 ((([] ++ c.nodes)).length) cap9) :: ((.int .i64 low.seq) :: (low.dig.cells ++ ((.slice (some ⟨b14, 0, none⟩) c.nodes.length c.nodes.length) :: []))))).toArray 70 (0, 0)), (b14, (.cells (List.toArray ((List.replicate c.nodes.length (Value.slice none 0 0)))) 54 (0, 0)))]⟩ := hB
    refine wlThen ?_
    refine wcSeq ?_
    refine wcRegion ?_
    refine wlVal (opMove rfl) rfl ?_
    refine wlVal (opAssign rfl) rfl ?_
    refine wlVal (opAssign rfl) rfl ?_
    refine wlThen ?_
    refine wcRet ?_
    exact fun ac_ ha => hQ _ _ _ (results2 ha rfl rfl rfl) ha.df (endN hC [(b11, .cells ((.int .i64 c.faults) :: ((.slice A8 ((([] ++ c.nodes)).length) cap9) :: ((.int .i64 low.seq) :: (low.dig.cells ++ ((.slice (some ⟨b14, 0, none⟩) c.nodes.length c.nodes.length) :: []))))).toArray 70 (0, 0)), (b14, (.cells (List.toArray ((List.replicate c.nodes.length (Value.slice none 0 0)))) 54 (0, 0)))] (.cons₂ _ (.cons₂ _ .slnil)) ⟨_, _, _, _, rfl, (by have e_ : (RSt.mk c low (List.replicate c.nodes.length [])) = (RSt.mk ((Crew.mk c.faults (([] ++ c.nodes)))) low ((List.replicate c.nodes.length ([] : (List Mark))))) := rfl; rw [e_]; exact ⟨_, _, _, rfl, hs12, rfl, hO15, (rnewinv hk1)⟩), rfl⟩)

theorem rnew_no (G0 : Gh) (w0 : World) (hw : Holds G0 w0) (csc : List Value) (c : Crew) (hc : Rp.Is G0 csc c) (low : Mark) (hok : newOk c low = false) :
    RetG Try.prog 10 #[.agg csc.toArray, .agg low.cells.toArray] G0 w0 (fun _ v => v = .tuple #[.pointer none, .int .i64 (newE c low)]) := by
  have hC := Cx.refl hw
  have hB : Bxs G0 w0 w0.heap.size [] := Bxs.nil _ _ _
  obtain ⟨v1, rfl, hs2⟩ := Crew.opIs hc
  obtain ⟨A3, cap4, rfl⟩ := hs2.form
  refine callsOf Try.func10 rfl _ Try.ntmps10 rfl _ (argsCons (argsCons argsNil (t := 0) rfl) (t := 1) rfl) ?_; intro Q0 hQ
  refine wcSeq ?_
  refine wcRegion ?_
  refine wlBox (cs := [(.int .i64 c.faults), (.slice A3 c.nodes.length cap4)]) hC hB rfl rfl rfl ?_; intro b5 w hk hC hB
  refine wlBox (cs := low.cells) hC hB rfl rfl rfl ?_; intro b6 w hk hC hB
  refine wlVal (opAssign rfl) rfl ?_
  refine wlVal (opAssign rfl) rfl ?_
  refine wlThen ?_
  refine wcSeq ?_
  refine wcSeq ?_
  refine wcRegion ?_
  refine wlVal (opLoadRow (cs := [(.int .i64 c.faults), (.slice A3 c.nodes.length cap4)]) rfl (hB.range (i := 1) (m := 2) rfl rfl) row24 rfl) rfl ?_
  refine wlCallS hC hB rfl co30 rfl rfl (rcheck_ret _ _ hC.holds _ c (Crew.mkIs (x := c) hs2)) ?_; intro w hk hC hB
  refine wlVal (opNeq rfl rfl) rfl ?_
  refine wlThen ?_
  cases h7 : ((check c)) != 0
  · skip
    refine wcCondF rfl ?_
    refine wcSkip ?_
    refine wcOf ?_
    refine wcSeq ?_
    refine wcSeq ?_
    refine wcRegion ?_
    refine wlVal (opFieldAddr rfl fo28_0) rfl ?_
    refine wlVal (opLoadOne (v := (.int .i64 low.seq)) rfl (hB.cell (i := 0) rfl (by simp [Mark.cells, Do.cells, Word.cells])) one3) rfl ?_
    refine wlCallS hC hB rfl co31 rfl rfl (rmay_ret _ _ hC.holds low.seq) ?_; intro w hk hC hB
    refine wlVal (opNot rfl) rfl ?_
    refine wlThen ?_
    cases h8 : (mayB low.seq)
    · skip
      refine wcCondT rfl ?_
      refine wcSeq ?_
      refine wcRegion ?_
      refine wlVal (opAssign rfl) rfl ?_
      refine wlVal (opAssign rfl) rfl ?_
      refine wlThen ?_
      refine wcRet ?_
      exact fun ac_ ha => hQ _ _ _ (results2 ha rfl rfl rfl) ha.df (endG hC (by simp only [newE, h7, h8, cond_true, cond_false, Bool.not_true, Bool.not_false]))
    · skip
      exact (newOk_dead hok h7 h8).elim
  · skip
    refine wcCondT rfl ?_
    refine wcSeq ?_
    refine wcRegion ?_
    refine wlVal (opAssign rfl) rfl ?_
    refine wlVal (opAssign rfl) rfl ?_
    refine wlThen ?_
    refine wcRet ?_
    exact fun ac_ ha => hQ _ _ _ (results2 ha rfl rfl rfl) ha.df (endG hC (by simp only [newE, h7, cond_true, cond_false, Bool.not_true, Bool.not_false]))

end Go.Proofs.Ytbmanooiphghmaa
