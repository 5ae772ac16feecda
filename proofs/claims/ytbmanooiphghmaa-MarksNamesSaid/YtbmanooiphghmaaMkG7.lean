/- What functions of the marks seat return, part 7. No condition. -/
import Derived.Test.YtbmanooiphghmaaMkG6
set_option linter.all false
namespace Go.Proofs.Ytbmanooiphghmaa
open Go Go.Gx Go.RowKit
theorem bfGo_le (p : Mark → Bool) (xs : List Mark) : ∀ (f i j : Nat), i ≤ j → bfGo p xs f i j ≤ j
  | 0, i, j, h => h
  | f + 1, i, j, h => by
    simp only [bfGo]
    cases h1 : decide (i < j) with
    | false => exact h
    | true =>
      have h1 := of_decide_eq_true h1
      cases p (xs.getD ((i + j) / 2) default) with
      | true => exact bfGo_le p xs f _ j (by omega)
      | false => exact Nat.le_trans (bfGo_le p xs f i _ (by omega)) (by omega)
theorem bfI_le (p : Mark → Bool) (xs : List Mark) : bfI p xs ≤ xs.length := bfGo_le p xs _ 0 _ (Nat.zero_le _)
theorem bfF_lt {g : Mark → Int → Int} {xs : List Mark} {t : Int} (h : bfF g xs t = true) : bfI (fun a => decide (g a t < 0)) xs < xs.length := by
  simp only [bfF, Bool.and_eq_true, decide_eq_true_eq] at h
  exact h.1
theorem insA_len {s : List Mark} {i : Nat} {z : Mark} : (insA s i z).length = s.length + 1 := by
  simp only [insA, List.length_append, List.length_take, List.length_drop, List.length_cons, List.length_nil]; omega
theorem max4 {n : Nat} (h : n ≤ 1000000) : max (IntKind.wrap .i64 (((n : Nat) : Int) - 4)) 0 = (((n - 4 : Nat)) : Int) := by
  rw [IntWalk.i64_in _ (by omega)]; omega
def cut4 (l : List Mark) : List Mark := l.drop (l.length - 4)
theorem cut4_le (l : List Mark) : (cut4 l).length ≤ 4 := by unfold cut4; rw [List.length_drop]; omega
theorem getD_at {α : Type} {l : List α} {i : Nat} {x d : α} (h : l[i]? = some x) : l.getD i d = x := by simp [List.getD_eq_getElem?_getD, h]
def voteM (m : MSt) (n : Int) (x : Mark) : MSt × Int :=
  bif !has m.crew n then (m, 110) else bif decide (x.seq ≤ m.low.seq) then (m, 9) else bif !mayB x.seq then (m, 9) else
  bif bfF (fun g_x0 g_x1 => cmpI g_x0.seq g_x1) ((mget m.list n).getD []) x.seq then
    (m, bif !decide (((mget m.list n).getD []).getD (bfI (fun a => decide (cmpI a.seq x.seq < 0)) ((mget m.list n).getD [])) default = x) then 151 else 0)
  else (⟨m.crew, m.low, mput m.list n (cut4 (insA ((mget m.list n).getD []) (bfI (fun a => decide (cmpI a.seq x.seq < 0)) ((mget m.list n).getD [])) x))⟩, 0)
theorem mput_mem {κ : Type} [DecidableEq κ] {β : Type} {k : κ} {y : β} : ∀ {l : List (κ × β)} {p : κ × β}, p ∈ mput l k y → p ∈ l ∨ p = (k, y)
  | [], p, h => .inr (by simpa [mput] using h)
  | q :: r, p, h => by
    by_cases hq : q.1 = k
    · simp only [mput, if_pos hq, List.mem_cons] at h
      rcases h with h | h
      · exact .inr (by rw [h])
      · exact .inl (List.mem_cons_of_mem _ h)
    · simp only [mput, if_neg hq, List.mem_cons] at h
      rcases h with h | h
      · exact .inl (by rw [h]; simp)
      · exact (mput_mem h).elim (fun h => .inl (List.mem_cons_of_mem _ h)) .inr
theorem has_mem {c : Crew} {n : Int} (h : has c n = true) : n ∈ c.nodes := by
  simp only [has, bsF, Bool.and_eq_true, decide_eq_true_eq, beq_iff_eq] at h
  obtain ⟨_, h1, h2⟩ := h
  rw [← h2, List.getD_eq_getElem?_getD, List.getElem?_eq_getElem h1]
  exact List.getElem_mem h1
theorem minv_put {m : MSt} {n : Int} {y : List Mark} (him : MInv m) (hh : has m.crew n = true) (hy : y.length ≤ 4) : MInv ⟨m.crew, m.low, mput m.list n y⟩ := by
  intro p hp
  rcases mput_mem hp with hp | rfl
  · exact him p hp
  · exact ⟨hy, has_mem hh⟩
def filt (x : Mark) (l : List Mark) : List Mark := l.filter (fun a => !decide (a.seq ≤ x.seq))
def raiseM (m : MSt) (x : Mark) : MSt × Int :=
  bif decide (x.seq < m.low.seq) then (m, 9) else bif !mayB x.seq then (m, 9) else (⟨m.crew, x, m.list.map (fun p => (p.1, filt x p.2))⟩, 0)
theorem MarksO.keysNodup {G : Gh} {o q : Obj} {l : Nat} {s : MSt} (h : MarksO G o q l s) : (s.list.map (·.1)).Nodup := by
  obtain ⟨v, _, _, h3, _⟩ := h; exact h3.nodup
theorem rz_start (l : List (Int × List Mark)) (x : Mark) : l = l.map (fun p => (p.1, bif (l.map (·.1)).any (fun y => y == p.1) then p.2 else filt x p.2)) := by
  have : l.map (fun p => (p.1, bif (l.map (·.1)).any (fun y => y == p.1) then p.2 else filt x p.2)) = l.map id := by
    apply List.map_congr_left
    intro p hp
    have : (l.map (·.1)).any (fun y => y == p.1) = true := by rw [List.any_eq_true]; exact ⟨p.1, List.mem_map.2 ⟨p, hp, rfl⟩, by simp⟩
    simp only [this, cond_true]; rfl
  rw [this, List.map_id]
theorem rz_nd {lf la lb : List Int} {k : Int} (h : lf.Nodup) (e : lf = la ++ k :: lb) : (la ++ lb).Nodup := by
  subst e
  exact ((List.sublist_cons_self k lb).append_left la).nodup h
theorem rz_get {l D : List (Int × List Mark)} {lf : List Int} {x : Mark} {k : Int} {y : List Mark} (hD : D = l.map (fun p => (p.1, bif lf.any (fun y => y == p.1) then p.2 else filt x p.2))) (hy : mget D k = some y) :
    ∃ z, (k, z) ∈ l ∧ y = bif lf.any (fun y => y == k) then z else filt x z := by
  have := mget_mem hy
  rw [hD] at this
  obtain ⟨p, hp, he⟩ := List.mem_map.1 this
  injection he with e1 e2
  subst e1
  exact ⟨p.2, hp, e2.symm⟩
theorem rz_len {m : MSt} {D : List (Int × List Mark)} {lf : List Int} {x : Mark} {k : Int} {y : List Mark} (him : MInv m) (hD : D = m.list.map (fun p => (p.1, bif lf.any (fun y => y == p.1) then p.2 else filt x p.2))) (hy : mget D k = some y) : y.length ≤ 4 := by
  obtain ⟨z, h1, h2⟩ := rz_get hD hy
  have h3 : z.length ≤ 4 := (him _ h1).1
  have h4 : (filt x z).length ≤ z.length := List.length_filter_le _ _
  rw [h2]; cases lf.any (fun y => y == k) <;> simp only [cond_true, cond_false] <;> omega
theorem rz_mem {D : List (Int × List Mark)} {k : Int} {y : List Mark} (hy : mget D k = some y) : k ∈ D.map (·.1) := List.mem_map.2 ⟨_, mget_mem hy, rfl⟩
theorem mput_map {l : List (Int × List Mark)} {f : Int × List Mark → List Mark} {k : Int} {y : List Mark} (hn : (l.map (·.1)).Nodup) (hk : k ∈ l.map (·.1)) : mput (l.map (fun p => (p.1, f p))) k y = l.map (fun p => (p.1, if p.1 = k then y else f p)) := by
  induction l with
  | nil => simp at hk
  | cons p r ih =>
    rw [List.map_cons, List.nodup_cons] at hn
    rw [List.map_cons, List.map_cons]
    by_cases hp : p.1 = k
    · simp only [mput, if_pos hp]
      congr 1
      · rw [hp]
      · apply List.map_congr_left
        intro q hq
        have : q.1 ≠ k := fun e => hn.1 (by rw [hp, ← e]; exact List.mem_map.2 ⟨q, hq, rfl⟩)
        simp [this]
    · simp only [mput, if_neg hp]
      congr 1
      refine ih hn.2 ?_
      rw [List.map_cons, List.mem_cons] at hk
      exact hk.resolve_left (fun e => hp e.symm)
theorem rz_step {l D : List (Int × List Mark)} {lf la lb : List Int} {x : Mark} {k : Int} {y : List Mark} (hn : (l.map (·.1)).Nodup) (hnd : lf.Nodup) (hD : D = l.map (fun p => (p.1, bif lf.any (fun y => y == p.1) then p.2 else filt x p.2))) (e : lf = la ++ k :: lb) (hy : mget D k = some y) :
    mput D k (y.filter (fun a => !decide (a.seq ≤ x.seq))) = l.map (fun p => (p.1, bif (la ++ lb).any (fun y => y == p.1) then p.2 else filt x p.2)) := by
  obtain ⟨z, h1, h2⟩ := rz_get hD hy
  have hk : lf.any (fun y => y == k) = true := by rw [e]; simp
  rw [hk, cond_true] at h2
  subst h2
  rw [hD, mput_map hn (List.mem_map.2 ⟨_, h1, rfl⟩)]
  apply List.map_congr_left
  intro p hp
  have hnk : (la ++ lb).any (fun y => y == k) = false := by
    rw [Bool.eq_false_iff, Ne, List.any_eq_true]
    rintro ⟨a, ha, hb⟩
    have : a = k := by simpa using hb
    subst this
    subst e
    rw [List.nodup_append] at hnd
    obtain ⟨_, h2, h3⟩ := hnd
    rw [List.nodup_cons] at h2
    rcases List.mem_append.1 ha with h | h
    · exact h3 _ h _ (by simp) rfl
    · exact h2.1 h
  by_cases hpk : p.1 = k
  · simp only [if_pos hpk]
    have hz : p.2 = y := by
      have g1 := mget_nodup hn (List.getElem?_of_mem hp).choose_spec
      have g2 := mget_nodup hn (List.getElem?_of_mem h1).choose_spec
      rw [hpk] at g1
      rw [g1] at g2
      simpa using g2
    rw [hpk, hnk, hz]; rfl
  · simp only [if_neg hpk]
    have : lf.any (fun y => y == p.1) = (la ++ lb).any (fun y => y == p.1) := by
      rw [e, List.any_append, List.any_append, List.any_cons]
      have : (k == p.1) = false := by simpa using fun h => hpk h.symm
      rw [this, Bool.false_or]
    rw [this]
theorem minv_raise {m : MSt} {D : List (Int × List Mark)} {lf : List Int} {x : Mark} (him : MInv m) (hD : D = m.list.map (fun p => (p.1, bif lf.any (fun y => y == p.1) then p.2 else filt x p.2))) : MInv ⟨m.crew, x, D⟩ := by
  intro p hp
  simp only [hD] at hp
  obtain ⟨q, hq, rfl⟩ := List.mem_map.1 hp
  have h4 : (filt x q.2).length ≤ q.2.length := List.length_filter_le _ _
  have h3 := him _ hq
  refine ⟨?_, h3.2⟩
  cases lf.any (fun y => y == q.1) <;> simp only [cond_true, cond_false] <;> omega
theorem co33 : callOk Try.prog 33 = true := by kernel_rfl
theorem co28 : callOk Try.prog 28 = true := by kernel_rfl
theorem co35 : callOk Try.prog 35 = true := by kernel_rfl
theorem co34 : callOk Try.prog 34 = true := by kernel_rfl
theorem co37 : callOk Try.prog 37 = true := by kernel_rfl
theorem co41 : callOk Try.prog 41 = true := by kernel_rfl
theorem co40 : callOk Try.prog 40 = true := by kernel_rfl
theorem vote_ret (G0 : Gh) (w0 : World) (hw : Holds G0 w0) (bm lm : Nat) (om qm : Obj) (m : MSt) (hbm : w0.heap[bm]? = some om ∧ G0 bm = none) (hlm : w0.heap[lm]? = some qm ∧ G0 lm = none) (hnem : bm ≠ lm) (hm : MarksO G0 om qm lm m) (n : Int) (x : Mark) :
    RetM Try.prog 12 #[.pointer (some ⟨bm, 0, none⟩), .int .i64 n, .agg x.cells.toArray] G0 w0 [bm, lm] (fun G L v => ∃ o q, L = [(bm, o), (lm, q)] ∧ MarksO G o q lm ((voteM m n x).1) ∧ v = (.int .i64 ((voteM m n x).2))) := by
  obtain ⟨v1, rfl, hs3, hM4, hi5⟩ := hm
  have him := hi5
  obtain ⟨A6, cap7, rfl⟩ := hs3.form
  have hC := Cx.reflH [(bm, .cells ((.int .i64 m.crew.faults) :: ((.slice A6 m.crew.nodes.length cap7) :: ((.int .i64 m.low.seq) :: (m.low.dig.cells ++ ((.map (some lm)) :: []))))).toArray 64 (0, 0)), (lm, qm)] [bm, lm] hw (by simp [hbm, hlm]) (by simp [hnem])
  have hB : Bxs G0 w0 w0.heap.size [] ⟨[bm, lm], [(bm, .cells ((.int .i64 m.crew.faults) :: ((.slice A6 m.crew.nodes.length cap7) :: ((.int .i64 m.low.seq) :: (m.low.dig.cells ++ ((.map (some lm)) :: []))))).toArray 64 (0, 0)), (lm, qm)]⟩ := Bxs.nil _ _ _
  refine callsOf Try.func12 rfl _ Try.ntmps12 rfl _ (argsCons (argsCons (argsCons argsNil (t := 0) rfl) (t := 1) rfl) (t := 2) rfl) ?_; intro Q0 hQ
  refine wcSeq ?_
  refine wcRegion ?_
  refine wlBox (cs := x.cells) hC hB rfl rfl rfl ?_; intro b8 w hk hC hB
  refine wlVal (opAssign rfl) rfl ?_
  refine wlThen ?_
  refine wcSeq ?_
  refine wcBlock ?_
  refine wcSeq ?_
  refine wcRegion ?_
  refine wlVal (opMove rfl) rfl ?_
  refine wlCallS hC hB rfl co32 rfl rfl (RetS.lend hC (fun G_ hg_ hh_ hL_ => none_ret _ _ hh_ bm lm _ _ m (hL_ (bm, .cells ((.int .i64 m.crew.faults) :: ((.slice A6 m.crew.nodes.length cap7) :: ((.int .i64 m.low.seq) :: (m.low.dig.cells ++ ((.map (some lm)) :: []))))).toArray 64 (0, 0)) (by simp)) (hL_ (lm, qm) (by simp)) (show MarksO G_ (.cells ((.int .i64 m.crew.faults) :: ((.slice A6 m.crew.nodes.length cap7) :: ((.int .i64 m.low.seq) :: (m.low.dig.cells ++ ((.map (some lm)) :: []))))).toArray 64 (0, 0)) qm lm m from ⟨_, rfl, (hs3.mono hg_), (hM4.mono hg_), him⟩))) ?_; intro w hk hC hB
  refine wlVal (opAssign rfl) rfl ?_
  refine wlThen ?_
  refine wcCondF rfl ?_
  refine wcSeq ?_
  refine wcRegion ?_
  refine wlVal (opMove rfl) rfl ?_
  refine wlVal (opNilCheck rfl) rfl ?_
  refine wlVal (opFieldAddr rfl fo64_0) rfl ?_
  refine wlVal (opLoadRow (cs := [(.int .i64 m.crew.faults), (.slice A6 m.crew.nodes.length cap7)]) rfl (hC.hrange 0 rfl (o := 0) (m := 2) (by simp [Mark.cells, Do.cells, Word.cells])) row24 rfl) rfl ?_
  refine wlVal (opMove rfl) rfl ?_
  refine wlCallS hC hB rfl co33 rfl rfl (has_ret _ _ hC.holds _ m.crew (Crew.mkIs (x := m.crew) hs3) n) ?_; intro w hk hC hB
  refine wlVal (opNot rfl) rfl ?_
  refine wlVal (opAssign rfl) rfl ?_
  refine wlThen ?_
  cases h9 : (has m.crew n)
  · skip
    refine wcCondT rfl ?_
    refine wcSeq ?_
    refine wcRegion ?_
    refine wlVal (opAssign rfl) rfl ?_
    refine wlThen ?_
    refine wcRet ?_
    exact fun ac_ ha => hQ _ _ _ (results1 ha rfl rfl) ha.df (endM hC [(bm, .cells ((.int .i64 m.crew.faults) :: ((.slice A6 m.crew.nodes.length cap7) :: ((.int .i64 m.low.seq) :: (m.low.dig.cells ++ ((.map (some lm)) :: []))))).toArray 64 (0, 0)), (lm, qm)] (.cons₂ _ (.cons₂ _ .slnil)) rfl ⟨_, _, rfl, (by have e_ : (voteM m n x).1 = m := (by simp only [voteM, h9, cond_true, cond_false, Bool.not_true, Bool.not_false]; try rfl); rw [e_]; exact ⟨_, rfl, hs3, hM4, him⟩), (by simp only [voteM, h9, cond_true, cond_false, Bool.not_true, Bool.not_false])⟩)
  · skip
    refine wcCondF rfl ?_
    refine wcSeq ?_
    refine wcDrawT 7 fmix (by kernel_rfl) (by kernel_rfl) (by kernel_rfl) (by kernel_rfl) (vAt [(fun _ v_ => v_ = (.pointer (some ⟨b8, 0, none⟩))), (fun _ v_ => v_ = (.int .i64 x.seq)), (fun _ v_ => v_ = (.pointer (some ⟨bm, 0, none⟩))), (fun _ v_ => v_ = (.pointer (some ⟨bm, 0, none⟩))), (fun _ v_ => v_ = (.pointer (some ⟨bm, 2, none⟩))), (fun _ v_ => v_ = (.pointer (some ⟨bm, 2, none⟩))), (fun _ v_ => v_ = (.int .i64 m.low.seq))]) (fun _ _ G' w => Cx w0 G0 G' w ⟨[bm, lm], [(bm, .cells ((.int .i64 m.crew.faults) :: ((.slice A6 m.crew.nodes.length cap7) :: ((.int .i64 m.low.seq) :: (m.low.dig.cells ++ ((.map (some lm)) :: []))))).toArray 64 (0, 0)), (lm, qm)]⟩ ∧ Bxs G' w w0.heap.size [(b8, 28, x.cells)] ⟨[bm, lm], [(bm, .cells ((.int .i64 m.crew.faults) :: ((.slice A6 m.crew.nodes.length cap7) :: ((.int .i64 m.low.seq) :: (m.low.dig.cells ++ ((.map (some lm)) :: []))))).toArray 64 (0, 0)), (lm, qm)]⟩ ∧ GLe G0 G') G0 (vAt_mono ⟨fun _ _ _ _ h => h, fun _ _ _ _ h => h, fun _ _ _ _ h => h, fun _ _ _ _ h => h, fun _ _ _ _ h => h, fun _ _ _ _ h => h, fun _ _ _ _ h => h, trivial⟩) (fun _ _ => ⟨hC.drew, hB.drew, fun _ _ h => h⟩) ?_ ?_
    · refine dsNone (j := 1) rfl ?_ ?_
      · intro done G w ac_ hd hp hn ⟨hC, hB, hg⟩ hM
        have f5 : ac_.tmps[5]? = some (.pointer (some ⟨b8, 0, none⟩)) := hM.old0 rfl rfl
        have hF : Fr 73 ac_ (Env.nil.put 5 (.pointer (some ⟨b8, 0, none⟩))) := (hM.fr.add f5)
        exact OpVal.draw hF (opFieldAddr rfl fo28_0) ⟨G, fun _ _ h => h, ⟨hC, hB, hg⟩, rfl⟩
      refine dsNone (j := 2) rfl ?_ ?_
      · intro done G w ac_ hd hp hn ⟨hC, hB, hg⟩ hM
        have f22 : ac_.tmps[22]? = some (.pointer (some ⟨b8, 0, none⟩)) := hM.eqv 0 rfl (hp 0 rfl) rfl rfl
        have hF : Fr 73 ac_ (Env.nil.put 22 (.pointer (some ⟨b8, 0, none⟩))) := (hM.fr.add f22)
        exact OpVal.draw hF (opLoadOne (v := (.int .i64 x.seq)) rfl (hB.cell (i := 0) rfl (by simp [Mark.cells, Do.cells, Word.cells])) one3) ⟨G, fun _ _ h => h, ⟨hC, hB, hg⟩, rfl⟩
      refine dsNone (j := 3) rfl ?_ ?_
      · intro done G w ac_ hd hp hn ⟨hC, hB, hg⟩ hM
        have f0 : ac_.tmps[0]? = some (.pointer (some ⟨bm, 0, none⟩)) := hM.old0 rfl rfl
        have hF : Fr 73 ac_ (Env.nil.put 0 (.pointer (some ⟨bm, 0, none⟩))) := (hM.fr.add f0)
        exact OpVal.draw hF (opMove rfl) ⟨G, fun _ _ h => h, ⟨hC, hB, hg⟩, rfl⟩
      refine dsNone (j := 4) rfl ?_ ?_
      · intro done G w ac_ hd hp hn ⟨hC, hB, hg⟩ hM
        have f24 : ac_.tmps[24]? = some (.pointer (some ⟨bm, 0, none⟩)) := hM.eqv 2 rfl (hp 2 rfl) rfl rfl
        have hF : Fr 73 ac_ (Env.nil.put 24 (.pointer (some ⟨bm, 0, none⟩))) := (hM.fr.add f24)
        exact OpVal.draw hF (opNilCheck rfl) ⟨G, fun _ _ h => h, ⟨hC, hB, hg⟩, rfl⟩
      refine dsNone (j := 5) rfl ?_ ?_
      · intro done G w ac_ hd hp hn ⟨hC, hB, hg⟩ hM
        have f25 : ac_.tmps[25]? = some (.pointer (some ⟨bm, 0, none⟩)) := hM.eqv 3 rfl (hp 3 rfl) rfl rfl
        have hF : Fr 73 ac_ (Env.nil.put 25 (.pointer (some ⟨bm, 0, none⟩))) := (hM.fr.add f25)
        exact OpVal.draw hF (opFieldAddr rfl fo64_1) ⟨G, fun _ _ h => h, ⟨hC, hB, hg⟩, rfl⟩
      refine dsNone (j := 6) rfl ?_ ?_
      · intro done G w ac_ hd hp hn ⟨hC, hB, hg⟩ hM
        have f26 : ac_.tmps[26]? = some (.pointer (some ⟨bm, 2, none⟩)) := hM.eqv 4 rfl (hp 4 rfl) rfl rfl
        have hF : Fr 73 ac_ (Env.nil.put 26 (.pointer (some ⟨bm, 2, none⟩))) := (hM.fr.add f26)
        exact OpVal.draw hF (opFieldAddr rfl fo28_0) ⟨G, fun _ _ h => h, ⟨hC, hB, hg⟩, rfl⟩
      refine dsNone (j := 7) rfl ?_ ?_
      · intro done G w ac_ hd hp hn ⟨hC, hB, hg⟩ hM
        have f27 : ac_.tmps[27]? = some (.pointer (some ⟨bm, 2, none⟩)) := hM.eqv 5 rfl (hp 5 rfl) rfl rfl
        have hF : Fr 73 ac_ (Env.nil.put 27 (.pointer (some ⟨bm, 2, none⟩))) := (hM.fr.add f27)
        exact OpVal.draw hF (opLoadOne (v := (.int .i64 m.low.seq)) rfl (hC.hcell 0 rfl (o := 2) (by simp [Mark.cells, Do.cells, Word.cells])) one3) ⟨G, fun _ _ h => h, ⟨hC, hB, hg⟩, rfl⟩
      exact dsNil
    · intro done G w ac_ hall htl ⟨hC, hB, hg⟩ hM
      replace hs3 := hs3.mono hg
      replace hM4 := hM4.mono hg
      have f0 : ac_.tmps[0]? = some (.pointer (some ⟨bm, 0, none⟩)) := hM.old0 rfl rfl
      have f1 : ac_.tmps[1]? = some (.int .i64 n) := hM.old0 rfl rfl
      have f5 : ac_.tmps[5]? = some (.pointer (some ⟨b8, 0, none⟩)) := hM.old0 rfl rfl
      have f23 : ac_.tmps[23]? = some (.int .i64 x.seq) := hM.eqv 1 rfl (hall 1 rfl) rfl rfl
      have f28 : ac_.tmps[28]? = some (.int .i64 m.low.seq) := hM.eqv 6 rfl (hall 6 rfl) rfl rfl
      refine ⟨(((((Env.nil.put 0 (.pointer (some ⟨bm, 0, none⟩))).put 1 (.int .i64 n)).put 5 (.pointer (some ⟨b8, 0, none⟩))).put 23 (.int .i64 x.seq)).put 28 (.int .i64 m.low.seq)), (((((hM.fr.add f0).add f1).add f5).add f23).add f28), ?_⟩
      clear hM hall htl
      refine wlVal (opLeq rfl rfl) rfl ?_
      refine wlVal (opMove rfl) rfl ?_
      cases h10 : decide (x.seq ≤ m.low.seq)
      · skip
        refine wlOn rfl rfl ?_
        refine wlVal (opFieldAddr rfl fo28_0) rfl ?_
        refine wlOn rfl rfl ?_
        refine wlVal (opLoadOne (v := (.int .i64 x.seq)) rfl (hB.cell (i := 0) rfl (by simp [Mark.cells, Do.cells, Word.cells])) one3) rfl ?_
        refine wlOn rfl rfl ?_
        refine wlCallS hC hB rfl co28 rfl rfl (may_ret _ _ hC.holds x.seq) ?_; intro w hk hC hB
        refine wlOn rfl rfl ?_
        refine wlVal (opNot rfl) rfl ?_
        refine wlVal (opPickF rfl rfl) rfl ?_
        refine wlVal (opAssign rfl) rfl ?_
        refine wlThen ?_
        cases h11 : (mayB x.seq)
        · skip
          refine wcCondT rfl ?_
          refine wcSeq ?_
          refine wcRegion ?_
          refine wlVal (opAssign rfl) rfl ?_
          refine wlThen ?_
          refine wcRet ?_
          exact fun ac_ ha => hQ _ _ _ (results1 ha rfl rfl) ha.df (endM hC [(bm, .cells ((.int .i64 m.crew.faults) :: ((.slice A6 m.crew.nodes.length cap7) :: ((.int .i64 m.low.seq) :: (m.low.dig.cells ++ ((.map (some lm)) :: []))))).toArray 64 (0, 0)), (lm, qm)] (.cons₂ _ (.cons₂ _ .slnil)) rfl ⟨_, _, rfl, (by have e_ : (voteM m n x).1 = m := (by simp only [voteM, h9, h10, h11, cond_true, cond_false, Bool.not_true, Bool.not_false]; try rfl); rw [e_]; exact ⟨_, rfl, hs3, hM4, him⟩), (by simp only [voteM, h9, h10, h11, cond_true, cond_false, Bool.not_true, Bool.not_false])⟩)
        · skip
          refine wcCondF rfl ?_
          refine wcSkip ?_
          refine wcOf ?_
          refine wcSeq ?_
          refine wcRegion ?_
          refine wlVal (opMove rfl) rfl ?_
          refine wlVal (opNilCheck rfl) rfl ?_
          refine wlVal (opFieldAddr rfl fo64_2) rfl ?_
          refine wlVal (opLoadOne (v := (.map (some lm))) rfl (hC.hcell 0 rfl (o := 35) (by simp [Mark.cells, Do.cells, Word.cells])) one62) rfl ?_
          refine wlVal (opMove rfl) rfl ?_
          obtain ⟨v12, hv13, hr14⟩ := hM4.lookup (keyL_int ui3) mk62 zv54 (isL' (Sl.nil_ _)) n
          have hs15 := isL hv13
          obtain ⟨A16, cap17, rfl⟩ := hs15.form
          refine wlVal (opLookupH rfl rfl (hr14 _ _ (hC.heldAt 1 rfl))) rfl ?_
          refine wlVal (opAssign rfl) rfl ?_
          refine wlThen ?_
          refine wcSeq ?_
          refine wcRegion ?_
          refine wlVal (opMove rfl) rfl ?_
          refine wlVal (opFieldAddr rfl fo28_0) rfl ?_
          refine wlVal (opLoadOne (v := (.int .i64 x.seq)) rfl (hB.cell (i := 0) rfl (by simp [Mark.cells, Do.cells, Word.cells])) one3) rfl ?_
          refine wlCallS hC hB rfl co34 rfl rfl (bsf_ret _ _ hC.holds _ (((mget m.list n).getD [])) hs15 x.seq 35 [] (fun g_x0 g_x1 => cmpI g_x0.seq g_x1) co35 (fun G w g_x0 g_x1 hg hw  => vote1_ret G w hw g_x0 g_x1  )) ?_; intro w hk hC hB
          refine wlVal (opMove rfl) rfl ?_
          refine wlVal (opExtract rfl rfl) rfl ?_
          refine wlVal (opExtract rfl rfl) rfl ?_
          refine wlVal (opAssign rfl) rfl ?_
          refine wlVal (opAssign rfl) rfl ?_
          refine wlThen ?_
          refine wcSeq ?_
          refine wcSeq ?_
          refine wcRegion ?_
          refine wlVal (opMove rfl) rfl ?_
          refine wlThen ?_
          cases h18 : (bfF (fun g_x0 g_x1 => cmpI g_x0.seq g_x1) (((mget m.list n).getD [])) x.seq)
          · skip
            refine wcCondF rfl ?_
            refine wcSkip ?_
            refine wcOf ?_
            refine wcSeq ?_
            refine wcDrawT 5 fmix (by kernel_rfl) (by kernel_rfl) (by kernel_rfl) (by kernel_rfl) (vAt [(fun _ v_ => v_ = (.slice A16 ((((mget m.list n).getD [])).length) cap17)), (fun _ _ => True), (fun _ v_ => v_ = (.int .i64 ((((bfI (fun a => decide ((fun g_x0 g_x1 => cmpI g_x0.seq g_x1) a x.seq < 0)) (((mget m.list n).getD []))) : Nat) : Int)))), (fun _ v_ => v_ = (.agg x.cells.toArray)), (fun G v => ∃ bb_, v = .slice (some ⟨bb_, 0, none⟩) 1 1 ∧ Sl G v ([x] : List Mark))]) (fun done ac_ G' w => GLe G G' ∧ ∃ (A1_ : Option Addr) (C1_ : Nat) (O1_ : Option Bx), Cx w0 G0 G' w ⟨[bm, lm], [(bm, .cells ((.int .i64 m.crew.faults) :: ((.slice A6 m.crew.nodes.length cap7) :: ((.int .i64 m.low.seq) :: (m.low.dig.cells ++ ((.map (some lm)) :: []))))).toArray 64 (0, 0)), (lm, qm)]⟩ ∧ (done 1 = true → ac_.tmps[57]? = some (.slice A1_ ((((((mget m.list n).getD [])))).length) C1_) ∧ Ow G' O1_ 28 (.slice A1_ ((((((mget m.list n).getD [])))).length) C1_) (((((mget m.list n).getD []))) : List Mark)) ∧ Bxs G' w w0.heap.size (([(b8, 28, x.cells)] ++ (Option.toList (bif done 1 then O1_ else none) ++ []))) ⟨[bm, lm], [(bm, .cells ((.int .i64 m.crew.faults) :: ((.slice A6 m.crew.nodes.length cap7) :: ((.int .i64 m.low.seq) :: (m.low.dig.cells ++ ((.map (some lm)) :: []))))).toArray 64 (0, 0)), (lm, qm)]⟩) G (vAt_mono ⟨fun _ _ _ _ h => h, fun _ _ _ _ h => h, fun _ _ _ _ h => h, fun _ _ _ _ h => h, fun _ _ _ hg => fun ⟨b, h1, h2⟩ => ⟨b, h1, h2.mono hg⟩, trivial⟩) (fun _ _ => ⟨fun _ _ h => h, none, 0, none, hC.drew, (fun h => by cases h), (by first | exact hB.drew | simpa using hB.drew)⟩) ?_ ?_
            · refine dsNone (j := 1) rfl ?_ ?_
              · intro done G w ac_ hd hp hn ⟨hg, A1_, C1_, O1_, hC, hT1, hBx⟩ hM
                have hB := hBx
                have f7 : ac_.tmps[7]? = some (.slice A16 ((((mget m.list n).getD [])).length) cap17) := hM.oldK rfl (k := 6) rfl rfl (hn 6 _ rfl rfl)
                have hF : Fr 73 ac_ (Env.nil.put 7 (.slice A16 ((((mget m.list n).getD [])).length) cap17)) := (hM.fr.add f7)
                exact OpVal.draw hF (opMove rfl) ⟨G, fun _ _ h => h, ⟨hg, A1_, C1_, O1_, hC, (fun h => ⟨(put_other rfl).trans (hT1 h).1, (hT1 h).2⟩), hBx⟩, rfl⟩
              refine dsNone (j := 2) rfl ?_ ?_
              · intro done G w ac_ hd hp hn ⟨hg, A1_, C1_, O1_, hC, hT1, hBx⟩ hM
                have hB := hBx
                replace hs15 := hs15.mono hg
                have f56 : ac_.tmps[56]? = some (.slice A16 ((((mget m.list n).getD [])).length) cap17) := hM.eqv 0 rfl (hp 0 rfl) rfl rfl
                have hF : Fr 73 ac_ (Env.nil.put 56 (.slice A16 ((((mget m.list n).getD [])).length) cap17)) := (hM.fr.add f56)
                simp only [hd, cond_false] at hBx
                exact drawCallO (bl := [(b8, 28, x.cells)]) (r := []) hF hC hBx rfl co38 rfl (clone_ret _ _ hC.holds _ (((mget m.list n).getD [])) hs15 (Nat.le_trans (him.get n) (by decide))) (fun v G' o_ w' hg2 hC hB hr => by obtain ⟨A_, cap_, rfl, hO_⟩ := hr; exact ⟨G', hg2, ⟨fun b o h => hg2 b o (hg b o h), A_, cap_, o_, hC, (fun _ => ⟨put_same hM.sz rfl, hO_⟩), by simpa [Done.set] using hB⟩, trivial⟩)
              refine dsNone (j := 3) rfl ?_ ?_
              · intro done G w ac_ hd hp hn ⟨hg, A1_, C1_, O1_, hC, hT1, hBx⟩ hM
                have hB := hBx
                have f8 : ac_.tmps[8]? = some (.int .i64 ((((bfI (fun a => decide ((fun g_x0 g_x1 => cmpI g_x0.seq g_x1) a x.seq < 0)) (((mget m.list n).getD []))) : Nat) : Int))) := hM.old0 rfl rfl
                have hF : Fr 73 ac_ (Env.nil.put 8 (.int .i64 ((((bfI (fun a => decide ((fun g_x0 g_x1 => cmpI g_x0.seq g_x1) a x.seq < 0)) (((mget m.list n).getD []))) : Nat) : Int)))) := (hM.fr.add f8)
                exact OpVal.draw hF (opMove rfl) ⟨G, fun _ _ h => h, ⟨hg, A1_, C1_, O1_, hC, (fun h => ⟨(put_other rfl).trans (hT1 h).1, (hT1 h).2⟩), hBx⟩, rfl⟩
              refine dsNone (j := 4) rfl ?_ ?_
              · intro done G w ac_ hd hp hn ⟨hg, A1_, C1_, O1_, hC, hT1, hBx⟩ hM
                have hB := hBx
                have f5 : ac_.tmps[5]? = some (.pointer (some ⟨b8, 0, none⟩)) := hM.old0 rfl rfl
                have hF : Fr 73 ac_ (Env.nil.put 5 (.pointer (some ⟨b8, 0, none⟩))) := (hM.fr.add f5)
                exact OpVal.draw hF (opLoadRow (cs := x.cells) rfl (hB.range (i := 0) (m := 33) rfl (by simp [Mark.cells, Do.cells, Word.cells])) row28 (by simp [Mark.cells, Do.cells, Word.cells])) ⟨G, fun _ _ h => h, ⟨hg, A1_, C1_, O1_, hC, (fun h => ⟨(put_other rfl).trans (hT1 h).1, (hT1 h).2⟩), hBx⟩, rfl⟩
              refine dsNone (j := 5) rfl ?_ ?_
              · intro done G w ac_ hd hp hn ⟨hg, A1_, C1_, O1_, hC, hT1, hBx⟩ hM
                have hB := hBx
                have f59 : ac_.tmps[59]? = some (.agg x.cells.toArray) := hM.eqv 3 rfl (hp 3 rfl) rfl rfl
                have hF : Fr 73 ac_ (Env.nil.put 59 (.agg x.cells.toArray)) := (hM.fr.add f59)
                exact drawBsl hF (α := Mark) (ps := [(0, .tmp 59)]) (xs := [x]) (rows := [x.cells]) elo54 rfl rfl hC.holds rfl rfl rfl ⟨rfl, trivial⟩ (fun b G' w' hk hr => ⟨G', hk.gle, ⟨fun b o h => hk.gle b o (hg b o h), A1_, C1_, O1_, hC.trans hk, (fun h => ⟨(put_other rfl).trans (hT1 h).1, (hT1 h).2.mono hk.gle⟩), hBx.ext hk⟩, ⟨b, rfl, hr⟩⟩)
              exact dsNil
            · intro done G w ac_ hall htl ⟨hg, A22, cap23, o24, hC, hT1, hB⟩ hM
              replace hs3 := hs3.mono hg
              replace hM4 := hM4.mono hg
              replace hs15 := hs15.mono hg
              have f0 : ac_.tmps[0]? = some (.pointer (some ⟨bm, 0, none⟩)) := hM.old0 rfl rfl
              have f1 : ac_.tmps[1]? = some (.int .i64 n) := hM.old0 rfl rfl
              have f57 := (hT1 (hall 1 rfl)).1
              have f58 : ac_.tmps[58]? = some (.int .i64 ((((bfI (fun a => decide ((fun g_x0 g_x1 => cmpI g_x0.seq g_x1) a x.seq < 0)) (((mget m.list n).getD []))) : Nat) : Int))) := hM.eqv 2 rfl (hall 2 rfl) rfl rfl
              obtain ⟨v_, f60, ⟨b20, rfl, hs21⟩⟩ := hM.new 4 _ _ rfl (hall 4 rfl) rfl
              have hO19 := (hT1 (hall 1 rfl)).2
              try simp only [hall 1 rfl, cond_true] at hB
              replace hB : Bxs G w w0.heap.size ([(b8, 28, x.cells)] ++ (Option.toList o24 ++ [])) ⟨[bm, lm], [(bm, .cells ((.int .i64 m.crew.faults) :: ((.slice A6 m.crew.nodes.length cap7) :: ((.int .i64 m.low.seq) :: (m.low.dig.cells ++ ((.map (some lm)) :: []))))).toArray 64 (0, 0)), (lm, qm)]⟩ := hB
              refine ⟨(((((Env.nil.put 0 (.pointer (some ⟨bm, 0, none⟩))).put 1 (.int .i64 n)).put 57 (.slice A22 ((((((mget m.list n).getD [])))).length) cap23)).put 58 (.int .i64 ((((bfI (fun a => decide ((fun g_x0 g_x1 => cmpI g_x0.seq g_x1) a x.seq < 0)) (((mget m.list n).getD []))) : Nat) : Int)))).put 60 (.slice (some ⟨b20, 0, none⟩) 1 1)), (((((hM.fr.add f0).add f1).add f57).add f58).add f60), ?_⟩
              clear hM hall htl
              refine wlCallP (bl := [(b8, 28, x.cells)]) (o := o24) (r := []) hC hB rfl co37 rfl rfl (ins_ret _ _ hC.holds _ (((((mget m.list n).getD [])))) _ hO19 (Bxs.mine (bl := [(b8, 28, x.cells)]) (r := []) hB) ((bfI (fun a => decide ((fun g_x0 g_x1 => cmpI g_x0.seq g_x1) a x.seq < 0)) (((mget m.list n).getD [])))) _ x hs21 (Nat.le_trans (him.get n) (by decide)) (bfI_le _ _)) ?_; rintro v30 G o27 w hg29 hk hC hB ⟨A25, cap26, rfl, hO28⟩
              replace hs3 := hs3.mono hg29; replace hM4 := hM4.mono hg29; replace hs15 := hs15.mono hg29; replace hs21 := hs21.mono hg29
              replace hB : Bxs G w w0.heap.size ([(b8, 28, x.cells)] ++ (Option.toList o27 ++ [])) ⟨[bm, lm], [(bm, .cells ((.int .i64 m.crew.faults) :: ((.slice A6 m.crew.nodes.length cap7) :: ((.int .i64 m.low.seq) :: (m.low.dig.cells ++ ((.map (some lm)) :: []))))).toArray 64 (0, 0)), (lm, qm)]⟩ := hB
              refine wlVal (opAssign rfl) rfl ?_
              refine wlThen ?_
              refine wcSeq ?_
              obtain ⟨G, hg32, hC, hB, hs31⟩ := Ow.freeze' (bl := [(b8, 28, x.cells)]) (r := []) hO28 hC (Nat.le_refl _) hB (by rw [insA_len]; have := him.get n; unfold maxL; omega)
              replace hs3 := hs3.mono hg32; replace hM4 := hM4.mono hg32; replace hs15 := hs15.mono hg32; replace hs21 := hs21.mono hg32
              replace hB : Bxs G w w0.heap.size [(b8, 28, x.cells)] ⟨[bm, lm], [(bm, .cells ((.int .i64 m.crew.faults) :: ((.slice A6 m.crew.nodes.length cap7) :: ((.int .i64 m.low.seq) :: (m.low.dig.cells ++ ((.map (some lm)) :: []))))).toArray 64 (0, 0)), (lm, qm)]⟩ := hB
              refine wcDrawT 11 fmix (by kernel_rfl) (by kernel_rfl) (by kernel_rfl) (by kernel_rfl) (vAt [(fun _ v_ => v_ = (.pointer (some ⟨bm, 0, none⟩))), (fun _ v_ => v_ = (.pointer (some ⟨bm, 0, none⟩))), (fun _ v_ => v_ = (.pointer (some ⟨bm, 35, none⟩))), (fun _ v_ => v_ = (.map (some lm))), (fun _ v_ => v_ = (.int .i64 n)), (fun _ v_ => v_ = (.slice A25 ((((insA (((((mget m.list n).getD [])))) ((bfI (fun a => decide ((fun g_x0 g_x1 => cmpI g_x0.seq g_x1) a x.seq < 0)) (((mget m.list n).getD [])))) x))).length) cap26)), (fun _ v_ => v_ = (.slice A25 ((((insA (((((mget m.list n).getD [])))) ((bfI (fun a => decide ((fun g_x0 g_x1 => cmpI g_x0.seq g_x1) a x.seq < 0)) (((mget m.list n).getD [])))) x))).length) cap26)), (fun _ v_ => v_ = (.int .i64 ((((((insA (((((mget m.list n).getD [])))) ((bfI (fun a => decide ((fun g_x0 g_x1 => cmpI g_x0.seq g_x1) a x.seq < 0)) (((mget m.list n).getD [])))) x))).length : Nat) : Int)))), (fun _ v_ => v_ = (.int .i64 (IntKind.wrap .i64 ((((((insA (((((mget m.list n).getD [])))) ((bfI (fun a => decide ((fun g_x0 g_x1 => cmpI g_x0.seq g_x1) a x.seq < 0)) (((mget m.list n).getD [])))) x))).length : Nat) : Int) - 4)))), (fun _ v_ => v_ = (.int .i64 (((((((insA (((((mget m.list n).getD [])))) ((bfI (fun a => decide ((fun g_x0 g_x1 => cmpI g_x0.seq g_x1) a x.seq < 0)) (((mget m.list n).getD [])))) x))).length - 4) : Nat) : Int)))), (fun _ v_ => v_ = (.slice (if cap26 = (((((insA (((((mget m.list n).getD [])))) ((bfI (fun a => decide ((fun g_x0 g_x1 => cmpI g_x0.seq g_x1) a x.seq < 0)) (((mget m.list n).getD [])))) x))).length - 4)) then A25 else Option.map (fun a => a.add ((((((insA (((((mget m.list n).getD [])))) ((bfI (fun a => decide ((fun g_x0 g_x1 => cmpI g_x0.seq g_x1) a x.seq < 0)) (((mget m.list n).getD [])))) x))).length - 4)) * 33)) A25) (((((insA (((((mget m.list n).getD [])))) ((bfI (fun a => decide ((fun g_x0 g_x1 => cmpI g_x0.seq g_x1) a x.seq < 0)) (((mget m.list n).getD [])))) x))).length - (((((insA (((((mget m.list n).getD [])))) ((bfI (fun a => decide ((fun g_x0 g_x1 => cmpI g_x0.seq g_x1) a x.seq < 0)) (((mget m.list n).getD [])))) x))).length - 4)))) ((cap26 - (((((insA (((((mget m.list n).getD [])))) ((bfI (fun a => decide ((fun g_x0 g_x1 => cmpI g_x0.seq g_x1) a x.seq < 0)) (((mget m.list n).getD [])))) x))).length - 4))))))]) (fun _ _ G' w => Cx w0 G0 G' w ⟨[bm, lm], [(bm, .cells ((.int .i64 m.crew.faults) :: ((.slice A6 m.crew.nodes.length cap7) :: ((.int .i64 m.low.seq) :: (m.low.dig.cells ++ ((.map (some lm)) :: []))))).toArray 64 (0, 0)), (lm, qm)]⟩ ∧ Bxs G' w w0.heap.size [(b8, 28, x.cells)] ⟨[bm, lm], [(bm, .cells ((.int .i64 m.crew.faults) :: ((.slice A6 m.crew.nodes.length cap7) :: ((.int .i64 m.low.seq) :: (m.low.dig.cells ++ ((.map (some lm)) :: []))))).toArray 64 (0, 0)), (lm, qm)]⟩ ∧ GLe G G') G (vAt_mono ⟨fun _ _ _ _ h => h, fun _ _ _ _ h => h, fun _ _ _ _ h => h, fun _ _ _ _ h => h, fun _ _ _ _ h => h, fun _ _ _ _ h => h, fun _ _ _ _ h => h, fun _ _ _ _ h => h, fun _ _ _ _ h => h, fun _ _ _ _ h => h, fun _ _ _ _ h => h, trivial⟩) (fun _ _ => ⟨hC.drew, hB.drew, fun _ _ h => h⟩) ?_ ?_
              · refine dsNone (j := 1) rfl ?_ ?_
                · intro done G w ac_ hd hp hn ⟨hC, hB, hg⟩ hM
                  have f0 : ac_.tmps[0]? = some (.pointer (some ⟨bm, 0, none⟩)) := hM.old0 rfl rfl
                  have hF : Fr 73 ac_ (Env.nil.put 0 (.pointer (some ⟨bm, 0, none⟩))) := (hM.fr.add f0)
                  exact OpVal.draw hF (opMove rfl) ⟨G, fun _ _ h => h, ⟨hC, hB, hg⟩, rfl⟩
                refine dsNone (j := 2) rfl ?_ ?_
                · intro done G w ac_ hd hp hn ⟨hC, hB, hg⟩ hM
                  have f62 : ac_.tmps[62]? = some (.pointer (some ⟨bm, 0, none⟩)) := hM.eqv 0 rfl (hp 0 rfl) rfl rfl
                  have hF : Fr 73 ac_ (Env.nil.put 62 (.pointer (some ⟨bm, 0, none⟩))) := (hM.fr.add f62)
                  exact OpVal.draw hF (opNilCheck rfl) ⟨G, fun _ _ h => h, ⟨hC, hB, hg⟩, rfl⟩
                refine dsNone (j := 3) rfl ?_ ?_
                · intro done G w ac_ hd hp hn ⟨hC, hB, hg⟩ hM
                  have f63 : ac_.tmps[63]? = some (.pointer (some ⟨bm, 0, none⟩)) := hM.eqv 1 rfl (hp 1 rfl) rfl rfl
                  have hF : Fr 73 ac_ (Env.nil.put 63 (.pointer (some ⟨bm, 0, none⟩))) := (hM.fr.add f63)
                  exact OpVal.draw hF (opFieldAddr rfl fo64_2) ⟨G, fun _ _ h => h, ⟨hC, hB, hg⟩, rfl⟩
                refine dsNone (j := 4) rfl ?_ ?_
                · intro done G w ac_ hd hp hn ⟨hC, hB, hg⟩ hM
                  have f64 : ac_.tmps[64]? = some (.pointer (some ⟨bm, 35, none⟩)) := hM.eqv 2 rfl (hp 2 rfl) rfl rfl
                  have hF : Fr 73 ac_ (Env.nil.put 64 (.pointer (some ⟨bm, 35, none⟩))) := (hM.fr.add f64)
                  exact OpVal.draw hF (opLoadOne (v := (.map (some lm))) rfl (hC.hcell 0 rfl (o := 35) (by simp [Mark.cells, Do.cells, Word.cells])) one62) ⟨G, fun _ _ h => h, ⟨hC, hB, hg⟩, rfl⟩
                refine dsNone (j := 5) rfl ?_ ?_
                · intro done G w ac_ hd hp hn ⟨hC, hB, hg⟩ hM
                  have f1 : ac_.tmps[1]? = some (.int .i64 n) := hM.old0 rfl rfl
                  have hF : Fr 73 ac_ (Env.nil.put 1 (.int .i64 n)) := (hM.fr.add f1)
                  exact OpVal.draw hF (opMove rfl) ⟨G, fun _ _ h => h, ⟨hC, hB, hg⟩, rfl⟩
                refine dsNone (j := 6) rfl ?_ ?_
                · intro done G w ac_ hd hp hn ⟨hC, hB, hg⟩ hM
                  have f7 : ac_.tmps[7]? = some (.slice A25 ((((insA (((((mget m.list n).getD [])))) ((bfI (fun a => decide ((fun g_x0 g_x1 => cmpI g_x0.seq g_x1) a x.seq < 0)) (((mget m.list n).getD [])))) x))).length) cap26) := hM.old0 rfl rfl
                  have hF : Fr 73 ac_ (Env.nil.put 7 (.slice A25 ((((insA (((((mget m.list n).getD [])))) ((bfI (fun a => decide ((fun g_x0 g_x1 => cmpI g_x0.seq g_x1) a x.seq < 0)) (((mget m.list n).getD [])))) x))).length) cap26)) := (hM.fr.add f7)
                  exact OpVal.draw hF (opMove rfl) ⟨G, fun _ _ h => h, ⟨hC, hB, hg⟩, rfl⟩
                refine dsNone (j := 7) rfl ?_ ?_
                · intro done G w ac_ hd hp hn ⟨hC, hB, hg⟩ hM
                  have f7 : ac_.tmps[7]? = some (.slice A25 ((((insA (((((mget m.list n).getD [])))) ((bfI (fun a => decide ((fun g_x0 g_x1 => cmpI g_x0.seq g_x1) a x.seq < 0)) (((mget m.list n).getD [])))) x))).length) cap26) := hM.old0 rfl rfl
                  have hF : Fr 73 ac_ (Env.nil.put 7 (.slice A25 ((((insA (((((mget m.list n).getD [])))) ((bfI (fun a => decide ((fun g_x0 g_x1 => cmpI g_x0.seq g_x1) a x.seq < 0)) (((mget m.list n).getD [])))) x))).length) cap26)) := (hM.fr.add f7)
                  exact OpVal.draw hF (opMove rfl) ⟨G, fun _ _ h => h, ⟨hC, hB, hg⟩, rfl⟩
                refine dsNone (j := 8) rfl ?_ ?_
                · intro done G w ac_ hd hp hn ⟨hC, hB, hg⟩ hM
                  have f68 : ac_.tmps[68]? = some (.slice A25 ((((insA (((((mget m.list n).getD [])))) ((bfI (fun a => decide ((fun g_x0 g_x1 => cmpI g_x0.seq g_x1) a x.seq < 0)) (((mget m.list n).getD [])))) x))).length) cap26) := hM.eqv 6 rfl (hp 6 rfl) rfl rfl
                  have hF : Fr 73 ac_ (Env.nil.put 68 (.slice A25 ((((insA (((((mget m.list n).getD [])))) ((bfI (fun a => decide ((fun g_x0 g_x1 => cmpI g_x0.seq g_x1) a x.seq < 0)) (((mget m.list n).getD [])))) x))).length) cap26)) := (hM.fr.add f68)
                  exact OpVal.draw hF (opLen rfl isl54) ⟨G, fun _ _ h => h, ⟨hC, hB, hg⟩, rfl⟩
                refine dsNone (j := 9) rfl ?_ ?_
                · intro done G w ac_ hd hp hn ⟨hC, hB, hg⟩ hM
                  have f69 : ac_.tmps[69]? = some (.int .i64 ((((((insA (((((mget m.list n).getD [])))) ((bfI (fun a => decide ((fun g_x0 g_x1 => cmpI g_x0.seq g_x1) a x.seq < 0)) (((mget m.list n).getD [])))) x))).length : Nat) : Int))) := hM.eqv 7 rfl (hp 7 rfl) rfl rfl
                  have hF : Fr 73 ac_ (Env.nil.put 69 (.int .i64 ((((((insA (((((mget m.list n).getD [])))) ((bfI (fun a => decide ((fun g_x0 g_x1 => cmpI g_x0.seq g_x1) a x.seq < 0)) (((mget m.list n).getD [])))) x))).length : Nat) : Int)))) := (hM.fr.add f69)
                  exact OpVal.draw hF (opSub rfl rfl) ⟨G, fun _ _ h => h, ⟨hC, hB, hg⟩, rfl⟩
                refine dsNone (j := 10) rfl ?_ ?_
                · intro done G w ac_ hd hp hn ⟨hC, hB, hg⟩ hM
                  have f70 : ac_.tmps[70]? = some (.int .i64 (IntKind.wrap .i64 ((((((insA (((((mget m.list n).getD [])))) ((bfI (fun a => decide ((fun g_x0 g_x1 => cmpI g_x0.seq g_x1) a x.seq < 0)) (((mget m.list n).getD [])))) x))).length : Nat) : Int) - 4))) := hM.eqv 8 rfl (hp 8 rfl) rfl rfl
                  have hF : Fr 73 ac_ (Env.nil.put 70 (.int .i64 (IntKind.wrap .i64 ((((((insA (((((mget m.list n).getD [])))) ((bfI (fun a => decide ((fun g_x0 g_x1 => cmpI g_x0.seq g_x1) a x.seq < 0)) (((mget m.list n).getD [])))) x))).length : Nat) : Int) - 4)))) := (hM.fr.add f70)
                  exact OpVal.draw hF (OpVal.cast (v' := .int .i64 ((((((insA (((((mget m.list n).getD [])))) ((bfI (fun a => decide ((fun g_x0 g_x1 => cmpI g_x0.seq g_x1) a x.seq < 0)) (((mget m.list n).getD [])))) x))).length - 4) : Nat) : Int)) (opMax rfl rfl) (congrArg (Value.int .i64) (max4 (by rw [insA_len]; have := him.get n; omega)))) ⟨G, fun _ _ h => h, ⟨hC, hB, hg⟩, rfl⟩
                refine dsNone (j := 11) rfl ?_ ?_
                · intro done G w ac_ hd hp hn ⟨hC, hB, hg⟩ hM
                  replace hs31 := hs31.mono hg
                  have f67 : ac_.tmps[67]? = some (.slice A25 ((((insA (((((mget m.list n).getD [])))) ((bfI (fun a => decide ((fun g_x0 g_x1 => cmpI g_x0.seq g_x1) a x.seq < 0)) (((mget m.list n).getD [])))) x))).length) cap26) := hM.eqv 5 rfl (hp 5 rfl) rfl rfl
                  have f71 : ac_.tmps[71]? = some (.int .i64 (((((((insA (((((mget m.list n).getD [])))) ((bfI (fun a => decide ((fun g_x0 g_x1 => cmpI g_x0.seq g_x1) a x.seq < 0)) (((mget m.list n).getD [])))) x))).length - 4) : Nat) : Int))) := hM.eqv 9 rfl (hp 9 rfl) rfl rfl
                  have hF : Fr 73 ac_ ((Env.nil.put 67 (.slice A25 ((((insA (((((mget m.list n).getD [])))) ((bfI (fun a => decide ((fun g_x0 g_x1 => cmpI g_x0.seq g_x1) a x.seq < 0)) (((mget m.list n).getD [])))) x))).length) cap26)).put 71 (.int .i64 (((((((insA (((((mget m.list n).getD [])))) ((bfI (fun a => decide ((fun g_x0 g_x1 => cmpI g_x0.seq g_x1) a x.seq < 0)) (((mget m.list n).getD [])))) x))).length - 4) : Nat) : Int)))) := ((hM.fr.add f67).add f71)
                  exact OpVal.draw hF (opSliceFrom (l := ((((insA (((((mget m.list n).getD [])))) ((bfI (fun a => decide ((fun g_x0 g_x1 => cmpI g_x0.seq g_x1) a x.seq < 0)) (((mget m.list n).getD [])))) x))).length - 4)) slo54 rfl rfl (by have q := hs31.len; rw [q]; exact (Nat.sub_le _ _))) ⟨G, fun _ _ h => h, ⟨hC, hB, hg⟩, rfl⟩
                exact dsNil
              · intro done G w ac_ hall htl ⟨hC, hB, hg⟩ hM
                replace hs3 := hs3.mono hg
                replace hM4 := hM4.mono hg
                replace hs15 := hs15.mono hg
                replace hs21 := hs21.mono hg
                replace hs31 := hs31.mono hg
                have f65 : ac_.tmps[65]? = some (.map (some lm)) := hM.eqv 3 rfl (hall 3 rfl) rfl rfl
                have f66 : ac_.tmps[66]? = some (.int .i64 n) := hM.eqv 4 rfl (hall 4 rfl) rfl rfl
                have f72 : ac_.tmps[72]? = some (.slice (if cap26 = (((((insA (((((mget m.list n).getD [])))) ((bfI (fun a => decide ((fun g_x0 g_x1 => cmpI g_x0.seq g_x1) a x.seq < 0)) (((mget m.list n).getD [])))) x))).length - 4)) then A25 else Option.map (fun a => a.add ((((((insA (((((mget m.list n).getD [])))) ((bfI (fun a => decide ((fun g_x0 g_x1 => cmpI g_x0.seq g_x1) a x.seq < 0)) (((mget m.list n).getD [])))) x))).length - 4)) * 33)) A25) (((((insA (((((mget m.list n).getD [])))) ((bfI (fun a => decide ((fun g_x0 g_x1 => cmpI g_x0.seq g_x1) a x.seq < 0)) (((mget m.list n).getD [])))) x))).length - (((((insA (((((mget m.list n).getD [])))) ((bfI (fun a => decide ((fun g_x0 g_x1 => cmpI g_x0.seq g_x1) a x.seq < 0)) (((mget m.list n).getD [])))) x))).length - 4)))) ((cap26 - (((((insA (((((mget m.list n).getD [])))) ((bfI (fun a => decide ((fun g_x0 g_x1 => cmpI g_x0.seq g_x1) a x.seq < 0)) (((mget m.list n).getD [])))) x))).length - 4))))) := hM.eqv 10 rfl (hall 10 rfl) rfl rfl
                refine ⟨(((Env.nil.put 65 (.map (some lm))).put 66 (.int .i64 n)).put 72 (.slice (if cap26 = (((((insA (((((mget m.list n).getD [])))) ((bfI (fun a => decide ((fun g_x0 g_x1 => cmpI g_x0.seq g_x1) a x.seq < 0)) (((mget m.list n).getD [])))) x))).length - 4)) then A25 else Option.map (fun a => a.add ((((((insA (((((mget m.list n).getD [])))) ((bfI (fun a => decide ((fun g_x0 g_x1 => cmpI g_x0.seq g_x1) a x.seq < 0)) (((mget m.list n).getD [])))) x))).length - 4)) * 33)) A25) (((((insA (((((mget m.list n).getD [])))) ((bfI (fun a => decide ((fun g_x0 g_x1 => cmpI g_x0.seq g_x1) a x.seq < 0)) (((mget m.list n).getD [])))) x))).length - (((((insA (((((mget m.list n).getD [])))) ((bfI (fun a => decide ((fun g_x0 g_x1 => cmpI g_x0.seq g_x1) a x.seq < 0)) (((mget m.list n).getD [])))) x))).length - 4)))) ((cap26 - (((((insA (((((mget m.list n).getD [])))) ((bfI (fun a => decide ((fun g_x0 g_x1 => cmpI g_x0.seq g_x1) a x.seq < 0)) (((mget m.list n).getD [])))) x))).length - 4)))))), (((hM.fr.add f65).add f66).add f72), ?_⟩
                clear hM hall htl
                obtain ⟨q34, hM35, hr36, hit37⟩ := hM4.put (keyL_int ui3) mk62 (isL' (Sl.drop hs31 (l := ((((insA (((((mget m.list n).getD [])))) ((bfI (fun a => decide ((fun g_x0 g_x1 => cmpI g_x0.seq g_x1) a x.seq < 0)) (((mget m.list n).getD [])))) x))).length - 4)) (Nat.sub_le _ _))) n
                refine wlMapPutH hC hB (i := 1) rfl rfl rfl rfl (hr36 _ _ (hC.heldAt 1 rfl)) rfl ?_; intro w hC hB
                replace hC : Cx w0 G0 G w ⟨[bm, lm], [(bm, .cells ((.int .i64 m.crew.faults) :: ((.slice A6 m.crew.nodes.length cap7) :: ((.int .i64 m.low.seq) :: (m.low.dig.cells ++ ((.map (some lm)) :: []))))).toArray 64 (0, 0)), (lm, q34)]⟩ := hC
                replace hB : Bxs G w w0.heap.size [(b8, 28, x.cells)] ⟨[bm, lm], [(bm, .cells ((.int .i64 m.crew.faults) :: ((.slice A6 m.crew.nodes.length cap7) :: ((.int .i64 m.low.seq) :: (m.low.dig.cells ++ ((.map (some lm)) :: []))))).toArray 64 (0, 0)), (lm, q34)]⟩ := hB
                refine wlThen ?_
                refine wcSeq ?_
                refine wcRegion ?_
                refine wlVal (opAssign rfl) rfl ?_
                refine wlThen ?_
                refine wcRet ?_
                exact fun ac_ ha => hQ _ _ _ (results1 ha rfl rfl) ha.df (endM hC [(bm, .cells ((.int .i64 m.crew.faults) :: ((.slice A6 m.crew.nodes.length cap7) :: ((.int .i64 m.low.seq) :: (m.low.dig.cells ++ ((.map (some lm)) :: []))))).toArray 64 (0, 0)), (lm, q34)] (.cons₂ _ (.cons₂ _ .slnil)) rfl ⟨_, _, rfl, (by have e_ : (voteM m n x).1 = (MSt.mk m.crew m.low ((mput m.list n ((List.drop (((((insA (((((mget m.list n).getD [])))) ((bfI (fun a => decide ((fun g_x0 g_x1 => cmpI g_x0.seq g_x1) a x.seq < 0)) (((mget m.list n).getD [])))) x))).length - 4)) (((insA (((((mget m.list n).getD [])))) ((bfI (fun a => decide ((fun g_x0 g_x1 => cmpI g_x0.seq g_x1) a x.seq < 0)) (((mget m.list n).getD [])))) x)))))))) := (by simp only [voteM, h9, h10, h11, h18, cond_true, cond_false, Bool.not_true, Bool.not_false]; try rfl); rw [e_]; exact ⟨_, rfl, hs3, hM35, (minv_put him h9 (cut4_le _))⟩), (by simp only [voteM, h9, h10, h11, h18, cond_true, cond_false, Bool.not_true, Bool.not_false])⟩)
          · skip
            refine wcCondT rfl ?_
            refine wcSeq ?_
            refine wcSeq ?_
            obtain ⟨x38, hx39⟩ : ∃ y_, (((mget m.list n).getD []))[(bfI (fun a => decide ((fun g_x0 g_x1 => cmpI g_x0.seq g_x1) a x.seq < 0)) (((mget m.list n).getD [])))]? = some y_ := ⟨_, List.getElem?_eq_getElem (bfF_lt h18)⟩
            obtain ⟨b40, o41, row42, hA45, hr43, hi44⟩ := hs15.elem hx39; subst hA45
            obtain rfl := hi44
            refine wcDrawT 5 fmix (by kernel_rfl) (by kernel_rfl) (by kernel_rfl) (by kernel_rfl) (vAt [(fun _ v_ => v_ = (.slice (some ⟨b40, o41, none⟩) ((((mget m.list n).getD [])).length) cap17)), (fun _ v_ => v_ = (.int .i64 ((((bfI (fun a => decide ((fun g_x0 g_x1 => cmpI g_x0.seq g_x1) a x.seq < 0)) (((mget m.list n).getD []))) : Nat) : Int)))), (fun _ v_ => v_ = (.pointer (some ⟨b40, o41 + ((bfI (fun a => decide ((fun g_x0 g_x1 => cmpI g_x0.seq g_x1) a x.seq < 0)) (((mget m.list n).getD [])))) * 33, none⟩))), (fun _ v_ => v_ = (.agg x38.cells.toArray)), (fun _ v_ => v_ = (.agg x.cells.toArray))]) (fun _ _ G' w => Cx w0 G0 G' w ⟨[bm, lm], [(bm, .cells ((.int .i64 m.crew.faults) :: ((.slice A6 m.crew.nodes.length cap7) :: ((.int .i64 m.low.seq) :: (m.low.dig.cells ++ ((.map (some lm)) :: []))))).toArray 64 (0, 0)), (lm, qm)]⟩ ∧ Bxs G' w w0.heap.size [(b8, 28, x.cells)] ⟨[bm, lm], [(bm, .cells ((.int .i64 m.crew.faults) :: ((.slice A6 m.crew.nodes.length cap7) :: ((.int .i64 m.low.seq) :: (m.low.dig.cells ++ ((.map (some lm)) :: []))))).toArray 64 (0, 0)), (lm, qm)]⟩ ∧ GLe G G') G (vAt_mono ⟨fun _ _ _ _ h => h, fun _ _ _ _ h => h, fun _ _ _ _ h => h, fun _ _ _ _ h => h, fun _ _ _ _ h => h, trivial⟩) (fun _ _ => ⟨hC.drew, hB.drew, fun _ _ h => h⟩) ?_ ?_
            · refine dsNone (j := 1) rfl ?_ ?_
              · intro done G w ac_ hd hp hn ⟨hC, hB, hg⟩ hM
                have f7 : ac_.tmps[7]? = some (.slice (some ⟨b40, o41, none⟩) ((((mget m.list n).getD [])).length) cap17) := hM.old0 rfl rfl
                have hF : Fr 73 ac_ (Env.nil.put 7 (.slice (some ⟨b40, o41, none⟩) ((((mget m.list n).getD [])).length) cap17)) := (hM.fr.add f7)
                exact OpVal.draw hF (opMove rfl) ⟨G, fun _ _ h => h, ⟨hC, hB, hg⟩, rfl⟩
              refine dsNone (j := 2) rfl ?_ ?_
              · intro done G w ac_ hd hp hn ⟨hC, hB, hg⟩ hM
                have f8 : ac_.tmps[8]? = some (.int .i64 ((((bfI (fun a => decide ((fun g_x0 g_x1 => cmpI g_x0.seq g_x1) a x.seq < 0)) (((mget m.list n).getD []))) : Nat) : Int))) := hM.old0 rfl rfl
                have hF : Fr 73 ac_ (Env.nil.put 8 (.int .i64 ((((bfI (fun a => decide ((fun g_x0 g_x1 => cmpI g_x0.seq g_x1) a x.seq < 0)) (((mget m.list n).getD []))) : Nat) : Int)))) := (hM.fr.add f8)
                exact OpVal.draw hF (opMove rfl) ⟨G, fun _ _ h => h, ⟨hC, hB, hg⟩, rfl⟩
              refine dsNone (j := 3) rfl ?_ ?_
              · intro done G w ac_ hd hp hn ⟨hC, hB, hg⟩ hM
                have f50 : ac_.tmps[50]? = some (.slice (some ⟨b40, o41, none⟩) ((((mget m.list n).getD [])).length) cap17) := hM.eqv 0 rfl (hp 0 rfl) rfl rfl
                have f51 : ac_.tmps[51]? = some (.int .i64 ((((bfI (fun a => decide ((fun g_x0 g_x1 => cmpI g_x0.seq g_x1) a x.seq < 0)) (((mget m.list n).getD []))) : Nat) : Int))) := hM.eqv 1 rfl (hp 1 rfl) rfl rfl
                have hF : Fr 73 ac_ ((Env.nil.put 50 (.slice (some ⟨b40, o41, none⟩) ((((mget m.list n).getD [])).length) cap17)).put 51 (.int .i64 ((((bfI (fun a => decide ((fun g_x0 g_x1 => cmpI g_x0.seq g_x1) a x.seq < 0)) (((mget m.list n).getD []))) : Nat) : Int)))) := ((hM.fr.add f50).add f51)
                exact OpVal.draw hF (opIndexAddr rfl rfl slo54 (bfF_lt h18)) ⟨G, fun _ _ h => h, ⟨hC, hB, hg⟩, rfl⟩
              refine dsNone (j := 4) rfl ?_ ?_
              · intro done G w ac_ hd hp hn ⟨hC, hB, hg⟩ hM
                replace hr43 := hr43.mono hg
                have f52 : ac_.tmps[52]? = some (.pointer (some ⟨b40, o41 + ((bfI (fun a => decide ((fun g_x0 g_x1 => cmpI g_x0.seq g_x1) a x.seq < 0)) (((mget m.list n).getD [])))) * 33, none⟩)) := hM.eqv 2 rfl (hp 2 rfl) rfl rfl
                have hF : Fr 73 ac_ (Env.nil.put 52 (.pointer (some ⟨b40, o41 + ((bfI (fun a => decide ((fun g_x0 g_x1 => cmpI g_x0.seq g_x1) a x.seq < 0)) (((mget m.list n).getD [])))) * 33, none⟩))) := (hM.fr.add f52)
                exact OpVal.draw hF (opLoadRow (cs := x38.cells) rfl (RowG.range hC.holds hr43) row28 (by simp [Mark.cells, Do.cells, Word.cells])) ⟨G, fun _ _ h => h, ⟨hC, hB, hg⟩, rfl⟩
              refine dsNone (j := 5) rfl ?_ ?_
              · intro done G w ac_ hd hp hn ⟨hC, hB, hg⟩ hM
                have f5 : ac_.tmps[5]? = some (.pointer (some ⟨b8, 0, none⟩)) := hM.old0 rfl rfl
                have hF : Fr 73 ac_ (Env.nil.put 5 (.pointer (some ⟨b8, 0, none⟩))) := (hM.fr.add f5)
                exact OpVal.draw hF (opLoadRow (cs := x.cells) rfl (hB.range (i := 0) (m := 33) rfl (by simp [Mark.cells, Do.cells, Word.cells])) row28 (by simp [Mark.cells, Do.cells, Word.cells])) ⟨G, fun _ _ h => h, ⟨hC, hB, hg⟩, rfl⟩
              exact dsNil
            · intro done G w ac_ hall htl ⟨hC, hB, hg⟩ hM
              replace hs3 := hs3.mono hg
              replace hM4 := hM4.mono hg
              replace hs15 := hs15.mono hg
              replace hr43 := hr43.mono hg
              have f53 : ac_.tmps[53]? = some (.agg x38.cells.toArray) := hM.eqv 3 rfl (hall 3 rfl) rfl rfl
              have f54 : ac_.tmps[54]? = some (.agg x.cells.toArray) := hM.eqv 4 rfl (hall 4 rfl) rfl rfl
              refine ⟨((Env.nil.put 53 (.agg x38.cells.toArray)).put 54 (.agg x.cells.toArray)), ((hM.fr.add f53).add f54), ?_⟩
              clear hM hall htl
              refine wlVal (opNeRow (eq28 _ x38 x) eg28 rfl rfl) rfl ?_
              refine wlThen ?_
              cases h46 : decide (x38 = x)
              · skip
                refine wcCondT rfl ?_
                refine wcSeq ?_
                refine wcRegion ?_
                refine wlVal (opAssign rfl) rfl ?_
                refine wlThen ?_
                refine wcRet ?_
                exact fun ac_ ha => hQ _ _ _ (results1 ha rfl rfl) ha.df (endM hC [(bm, .cells ((.int .i64 m.crew.faults) :: ((.slice A6 m.crew.nodes.length cap7) :: ((.int .i64 m.low.seq) :: (m.low.dig.cells ++ ((.map (some lm)) :: []))))).toArray 64 (0, 0)), (lm, qm)] (.cons₂ _ (.cons₂ _ .slnil)) rfl ⟨_, _, rfl, (by have e_ : (voteM m n x).1 = m := (by simp only [voteM, h9, h10, h11, h18, h46, cond_true, cond_false, Bool.not_true, Bool.not_false]; try rfl); rw [e_]; exact ⟨_, rfl, hs3, hM4, him⟩), (by simp only [voteM, h9, h10, h11, h18, h46, getD_at hx39, cond_true, cond_false, Bool.not_true, Bool.not_false])⟩)
              · skip
                refine wcCondF rfl ?_
                refine wcSkip ?_
                refine wcOf ?_
                refine wcSeq ?_
                refine wcRegion ?_
                refine wlVal (opAssign rfl) rfl ?_
                refine wlThen ?_
                refine wcRet ?_
                exact fun ac_ ha => hQ _ _ _ (results1 ha rfl rfl) ha.df (endM hC [(bm, .cells ((.int .i64 m.crew.faults) :: ((.slice A6 m.crew.nodes.length cap7) :: ((.int .i64 m.low.seq) :: (m.low.dig.cells ++ ((.map (some lm)) :: []))))).toArray 64 (0, 0)), (lm, qm)] (.cons₂ _ (.cons₂ _ .slnil)) rfl ⟨_, _, rfl, (by have e_ : (voteM m n x).1 = m := (by simp only [voteM, h9, h10, h11, h18, h46, cond_true, cond_false, Bool.not_true, Bool.not_false]; try rfl); rw [e_]; exact ⟨_, rfl, hs3, hM4, him⟩), (by simp only [voteM, h9, h10, h11, h18, h46, getD_at hx39, cond_true, cond_false, Bool.not_true, Bool.not_false])⟩)
      · skip
        refine wlOff rfl rfl rfl rfl ?_
        refine wlOff rfl rfl rfl rfl ?_
        refine wlOff rfl rfl rfl rfl ?_
        refine wlOff rfl rfl rfl rfl ?_
        refine wlVal (opPickT rfl rfl) rfl ?_
        refine wlVal (opAssign rfl) rfl ?_
        refine wlThen ?_
        refine wcCondT rfl ?_
        refine wcSeq ?_
        refine wcRegion ?_
        refine wlVal (opAssign rfl) rfl ?_
        refine wlThen ?_
        refine wcRet ?_
        exact fun ac_ ha => hQ _ _ _ (results1 ha rfl rfl) ha.df (endM hC [(bm, .cells ((.int .i64 m.crew.faults) :: ((.slice A6 m.crew.nodes.length cap7) :: ((.int .i64 m.low.seq) :: (m.low.dig.cells ++ ((.map (some lm)) :: []))))).toArray 64 (0, 0)), (lm, qm)] (.cons₂ _ (.cons₂ _ .slnil)) rfl ⟨_, _, rfl, (by have e_ : (voteM m n x).1 = m := (by simp only [voteM, h9, h10, cond_true, cond_false, Bool.not_true, Bool.not_false]; try rfl); rw [e_]; exact ⟨_, rfl, hs3, hM4, him⟩), (by simp only [voteM, h9, h10, cond_true, cond_false, Bool.not_true, Bool.not_false])⟩)

theorem raise_ret (G0 : Gh) (w0 : World) (hw : Holds G0 w0) (bm lm : Nat) (om qm : Obj) (m : MSt) (hbm : w0.heap[bm]? = some om ∧ G0 bm = none) (hlm : w0.heap[lm]? = some qm ∧ G0 lm = none) (hnem : bm ≠ lm) (hm : MarksO G0 om qm lm m) (x : Mark) :
    RetM Try.prog 14 #[.pointer (some ⟨bm, 0, none⟩), .agg x.cells.toArray] G0 w0 [bm, lm] (fun G L v => ∃ o q, L = [(bm, o), (lm, q)] ∧ MarksO G o q lm ((raiseM m x).1) ∧ v = (.int .i64 ((raiseM m x).2))) := by
  have hnodup := hm.keysNodup
  obtain ⟨v1, rfl, hs3, hM4, hi5⟩ := hm
  have him := hi5
  obtain ⟨A6, cap7, rfl⟩ := hs3.form
  have hC := Cx.reflH [(bm, .cells ((.int .i64 m.crew.faults) :: ((.slice A6 m.crew.nodes.length cap7) :: ((.int .i64 m.low.seq) :: (m.low.dig.cells ++ ((.map (some lm)) :: []))))).toArray 64 (0, 0)), (lm, qm)] [bm, lm] hw (by simp [hbm, hlm]) (by simp [hnem])
  have hB : Bxs G0 w0 w0.heap.size [] ⟨[bm, lm], [(bm, .cells ((.int .i64 m.crew.faults) :: ((.slice A6 m.crew.nodes.length cap7) :: ((.int .i64 m.low.seq) :: (m.low.dig.cells ++ ((.map (some lm)) :: []))))).toArray 64 (0, 0)), (lm, qm)]⟩ := Bxs.nil _ _ _
  refine callsOf Try.func14 rfl _ Try.ntmps14 rfl _ (argsCons (argsCons argsNil (t := 0) rfl) (t := 1) rfl) ?_; intro Q0 hQ
  refine wcSeq ?_
  refine wcRegion ?_
  refine wlBox (cs := x.cells) hC hB rfl rfl rfl ?_; intro b8 w hk hC hB
  refine wlVal (opAssign rfl) rfl ?_
  refine wlThen ?_
  refine wcSeq ?_
  refine wcBlock ?_
  refine wcSeq ?_
  refine wcRegion ?_
  refine wlVal (opMove rfl) rfl ?_
  refine wlCallS hC hB rfl co32 rfl rfl (RetS.lend hC (fun G_ hg_ hh_ hL_ => none_ret _ _ hh_ bm lm _ _ m (hL_ (bm, .cells ((.int .i64 m.crew.faults) :: ((.slice A6 m.crew.nodes.length cap7) :: ((.int .i64 m.low.seq) :: (m.low.dig.cells ++ ((.map (some lm)) :: []))))).toArray 64 (0, 0)) (by simp)) (hL_ (lm, qm) (by simp)) (show MarksO G_ (.cells ((.int .i64 m.crew.faults) :: ((.slice A6 m.crew.nodes.length cap7) :: ((.int .i64 m.low.seq) :: (m.low.dig.cells ++ ((.map (some lm)) :: []))))).toArray 64 (0, 0)) qm lm m from ⟨_, rfl, (hs3.mono hg_), (hM4.mono hg_), him⟩))) ?_; intro w hk hC hB
  refine wlVal (opAssign rfl) rfl ?_
  refine wlThen ?_
  refine wcCondF rfl ?_
  refine wcSeq ?_
  refine wcDrawT 7 fmix (by kernel_rfl) (by kernel_rfl) (by kernel_rfl) (by kernel_rfl) (vAt [(fun _ v_ => v_ = (.pointer (some ⟨b8, 0, none⟩))), (fun _ v_ => v_ = (.int .i64 x.seq)), (fun _ v_ => v_ = (.pointer (some ⟨bm, 0, none⟩))), (fun _ v_ => v_ = (.pointer (some ⟨bm, 0, none⟩))), (fun _ v_ => v_ = (.pointer (some ⟨bm, 2, none⟩))), (fun _ v_ => v_ = (.pointer (some ⟨bm, 2, none⟩))), (fun _ v_ => v_ = (.int .i64 m.low.seq))]) (fun _ _ G' w => Cx w0 G0 G' w ⟨[bm, lm], [(bm, .cells ((.int .i64 m.crew.faults) :: ((.slice A6 m.crew.nodes.length cap7) :: ((.int .i64 m.low.seq) :: (m.low.dig.cells ++ ((.map (some lm)) :: []))))).toArray 64 (0, 0)), (lm, qm)]⟩ ∧ Bxs G' w w0.heap.size [(b8, 28, x.cells)] ⟨[bm, lm], [(bm, .cells ((.int .i64 m.crew.faults) :: ((.slice A6 m.crew.nodes.length cap7) :: ((.int .i64 m.low.seq) :: (m.low.dig.cells ++ ((.map (some lm)) :: []))))).toArray 64 (0, 0)), (lm, qm)]⟩ ∧ GLe G0 G') G0 (vAt_mono ⟨fun _ _ _ _ h => h, fun _ _ _ _ h => h, fun _ _ _ _ h => h, fun _ _ _ _ h => h, fun _ _ _ _ h => h, fun _ _ _ _ h => h, fun _ _ _ _ h => h, trivial⟩) (fun _ _ => ⟨hC.drew, hB.drew, fun _ _ h => h⟩) ?_ ?_
  · refine dsNone (j := 1) rfl ?_ ?_
    · intro done G w ac_ hd hp hn ⟨hC, hB, hg⟩ hM
      have f3 : ac_.tmps[3]? = some (.pointer (some ⟨b8, 0, none⟩)) := hM.old0 rfl rfl
      have hF : Fr 48 ac_ (Env.nil.put 3 (.pointer (some ⟨b8, 0, none⟩))) := (hM.fr.add f3)
      exact OpVal.draw hF (opFieldAddr rfl fo28_0) ⟨G, fun _ _ h => h, ⟨hC, hB, hg⟩, rfl⟩
    refine dsNone (j := 2) rfl ?_ ?_
    · intro done G w ac_ hd hp hn ⟨hC, hB, hg⟩ hM
      have f11 : ac_.tmps[11]? = some (.pointer (some ⟨b8, 0, none⟩)) := hM.eqv 0 rfl (hp 0 rfl) rfl rfl
      have hF : Fr 48 ac_ (Env.nil.put 11 (.pointer (some ⟨b8, 0, none⟩))) := (hM.fr.add f11)
      exact OpVal.draw hF (opLoadOne (v := (.int .i64 x.seq)) rfl (hB.cell (i := 0) rfl (by simp [Mark.cells, Do.cells, Word.cells])) one3) ⟨G, fun _ _ h => h, ⟨hC, hB, hg⟩, rfl⟩
    refine dsNone (j := 3) rfl ?_ ?_
    · intro done G w ac_ hd hp hn ⟨hC, hB, hg⟩ hM
      have f0 : ac_.tmps[0]? = some (.pointer (some ⟨bm, 0, none⟩)) := hM.old0 rfl rfl
      have hF : Fr 48 ac_ (Env.nil.put 0 (.pointer (some ⟨bm, 0, none⟩))) := (hM.fr.add f0)
      exact OpVal.draw hF (opMove rfl) ⟨G, fun _ _ h => h, ⟨hC, hB, hg⟩, rfl⟩
    refine dsNone (j := 4) rfl ?_ ?_
    · intro done G w ac_ hd hp hn ⟨hC, hB, hg⟩ hM
      have f13 : ac_.tmps[13]? = some (.pointer (some ⟨bm, 0, none⟩)) := hM.eqv 2 rfl (hp 2 rfl) rfl rfl
      have hF : Fr 48 ac_ (Env.nil.put 13 (.pointer (some ⟨bm, 0, none⟩))) := (hM.fr.add f13)
      exact OpVal.draw hF (opNilCheck rfl) ⟨G, fun _ _ h => h, ⟨hC, hB, hg⟩, rfl⟩
    refine dsNone (j := 5) rfl ?_ ?_
    · intro done G w ac_ hd hp hn ⟨hC, hB, hg⟩ hM
      have f14 : ac_.tmps[14]? = some (.pointer (some ⟨bm, 0, none⟩)) := hM.eqv 3 rfl (hp 3 rfl) rfl rfl
      have hF : Fr 48 ac_ (Env.nil.put 14 (.pointer (some ⟨bm, 0, none⟩))) := (hM.fr.add f14)
      exact OpVal.draw hF (opFieldAddr rfl fo64_1) ⟨G, fun _ _ h => h, ⟨hC, hB, hg⟩, rfl⟩
    refine dsNone (j := 6) rfl ?_ ?_
    · intro done G w ac_ hd hp hn ⟨hC, hB, hg⟩ hM
      have f15 : ac_.tmps[15]? = some (.pointer (some ⟨bm, 2, none⟩)) := hM.eqv 4 rfl (hp 4 rfl) rfl rfl
      have hF : Fr 48 ac_ (Env.nil.put 15 (.pointer (some ⟨bm, 2, none⟩))) := (hM.fr.add f15)
      exact OpVal.draw hF (opFieldAddr rfl fo28_0) ⟨G, fun _ _ h => h, ⟨hC, hB, hg⟩, rfl⟩
    refine dsNone (j := 7) rfl ?_ ?_
    · intro done G w ac_ hd hp hn ⟨hC, hB, hg⟩ hM
      have f16 : ac_.tmps[16]? = some (.pointer (some ⟨bm, 2, none⟩)) := hM.eqv 5 rfl (hp 5 rfl) rfl rfl
      have hF : Fr 48 ac_ (Env.nil.put 16 (.pointer (some ⟨bm, 2, none⟩))) := (hM.fr.add f16)
      exact OpVal.draw hF (opLoadOne (v := (.int .i64 m.low.seq)) rfl (hC.hcell 0 rfl (o := 2) (by simp [Mark.cells, Do.cells, Word.cells])) one3) ⟨G, fun _ _ h => h, ⟨hC, hB, hg⟩, rfl⟩
    exact dsNil
  · intro done G w ac_ hall htl ⟨hC, hB, hg⟩ hM
    replace hs3 := hs3.mono hg
    replace hM4 := hM4.mono hg
    have f0 : ac_.tmps[0]? = some (.pointer (some ⟨bm, 0, none⟩)) := hM.old0 rfl rfl
    have f3 : ac_.tmps[3]? = some (.pointer (some ⟨b8, 0, none⟩)) := hM.old0 rfl rfl
    have f12 : ac_.tmps[12]? = some (.int .i64 x.seq) := hM.eqv 1 rfl (hall 1 rfl) rfl rfl
    have f17 : ac_.tmps[17]? = some (.int .i64 m.low.seq) := hM.eqv 6 rfl (hall 6 rfl) rfl rfl
    refine ⟨((((Env.nil.put 0 (.pointer (some ⟨bm, 0, none⟩))).put 3 (.pointer (some ⟨b8, 0, none⟩))).put 12 (.int .i64 x.seq)).put 17 (.int .i64 m.low.seq)), ((((hM.fr.add f0).add f3).add f12).add f17), ?_⟩
    clear hM hall htl
    refine wlVal (opLss rfl rfl) rfl ?_
    refine wlVal (opMove rfl) rfl ?_
    cases h9 : decide (x.seq < m.low.seq)
    · skip
      refine wlOn rfl rfl ?_
      refine wlVal (opFieldAddr rfl fo28_0) rfl ?_
      refine wlOn rfl rfl ?_
      refine wlVal (opLoadOne (v := (.int .i64 x.seq)) rfl (hB.cell (i := 0) rfl (by simp [Mark.cells, Do.cells, Word.cells])) one3) rfl ?_
      refine wlOn rfl rfl ?_
      refine wlCallS hC hB rfl co28 rfl rfl (may_ret _ _ hC.holds x.seq) ?_; intro w hk hC hB
      refine wlOn rfl rfl ?_
      refine wlVal (opNot rfl) rfl ?_
      refine wlVal (opPickF rfl rfl) rfl ?_
      refine wlVal (opAssign rfl) rfl ?_
      refine wlThen ?_
      cases h10 : (mayB x.seq)
      · skip
        refine wcCondT rfl ?_
        refine wcSeq ?_
        refine wcRegion ?_
        refine wlVal (opAssign rfl) rfl ?_
        refine wlThen ?_
        refine wcRet ?_
        exact fun ac_ ha => hQ _ _ _ (results1 ha rfl rfl) ha.df (endM hC [(bm, .cells ((.int .i64 m.crew.faults) :: ((.slice A6 m.crew.nodes.length cap7) :: ((.int .i64 m.low.seq) :: (m.low.dig.cells ++ ((.map (some lm)) :: []))))).toArray 64 (0, 0)), (lm, qm)] (.cons₂ _ (.cons₂ _ .slnil)) rfl ⟨_, _, rfl, (by have e_ : (raiseM m x).1 = m := (by simp only [raiseM, h9, h10, cond_true, cond_false, Bool.not_true, Bool.not_false]; try rfl); rw [e_]; exact ⟨_, rfl, hs3, hM4, him⟩), (by simp only [raiseM, h9, h10, cond_true, cond_false, Bool.not_true, Bool.not_false])⟩)
      · skip
        refine wcCondF rfl ?_
        refine wcSkip ?_
        refine wcOf ?_
        refine wcSeq ?_
        refine wcRegion ?_
        refine wlVal (opMove rfl) rfl ?_
        refine wlVal (opLoadRow (cs := x.cells) rfl (hB.range (i := 0) (m := 33) rfl (by simp [Mark.cells, Do.cells, Word.cells])) row28 (by simp [Mark.cells, Do.cells, Word.cells])) rfl ?_
        refine wlVal (opNilCheck rfl) rfl ?_
        refine wlVal (opFieldAddr rfl fo64_1) rfl ?_
        obtain ⟨hC, hB⟩ := unhold hC hB (i := 0) rfl
        refine wlStore 0 (vs := x.cells) (cs := ((.int .i64 m.crew.faults) :: ((.slice A6 m.crew.nodes.length cap7) :: ((.int .i64 m.low.seq) :: (m.low.dig.cells ++ ((.map (some lm)) :: [])))))) (cs' := ((.int .i64 m.crew.faults) :: ((.slice A6 m.crew.nodes.length cap7) :: ((.int .i64 x.seq) :: (x.dig.cells ++ ((.map (some lm)) :: [])))))) hC hB rfl rfl rfl sz28 rfl (by simp [Mark.cells, Do.cells, Word.cells]) (by simp [Mark.cells, Do.cells, Word.cells, Value.oneCell']) (by simp [Mark.cells, Do.cells, Word.cells]) (by simp [Mark.cells, Do.cells, Word.cells]) rfl ?_; intro w hC hB
        obtain ⟨hC, hB⟩ := hold hC hB (i := 0) rfl
        replace hC : Cx w0 G0 G w ⟨[bm, lm], [(bm, .cells ((.int .i64 m.crew.faults) :: ((.slice A6 m.crew.nodes.length cap7) :: ((.int .i64 x.seq) :: (x.dig.cells ++ ((.map (some lm)) :: []))))).toArray 64 (0, 0)), (lm, qm)]⟩ := hC
        replace hB : Bxs G w w0.heap.size [(b8, 28, x.cells)] ⟨[bm, lm], [(bm, .cells ((.int .i64 m.crew.faults) :: ((.slice A6 m.crew.nodes.length cap7) :: ((.int .i64 x.seq) :: (x.dig.cells ++ ((.map (some lm)) :: []))))).toArray 64 (0, 0)), (lm, qm)]⟩ := hB
        refine wlThen ?_
        refine wcSeq ?_
        refine wcSeq ?_
        refine wcRegion ?_
        refine wlVal (opMove rfl) rfl ?_
        refine wlVal (opNilCheck rfl) rfl ?_
        refine wlVal (opFieldAddr rfl fo64_2) rfl ?_
        refine wlVal (opLoadOne (v := (.map (some lm))) rfl (hC.hcell 0 rfl (o := 35) (by simp [Mark.cells, Do.cells, Word.cells])) one62) rfl ?_
        refine wlRange hM4 (hC.heldAt 1 rfl) hC hB rfl mk62 rfl ?_; intro r11 it12 w hC hB hI13
        replace hC : Cx w0 G0 G w ⟨[bm, lm], [(r11, it12), (bm, .cells ((.int .i64 m.crew.faults) :: ((.slice A6 m.crew.nodes.length cap7) :: ((.int .i64 x.seq) :: (x.dig.cells ++ ((.map (some lm)) :: []))))).toArray 64 (0, 0)), (lm, qm)]⟩ := hC
        replace hB : Bxs G w w0.heap.size [(b8, 28, x.cells)] ⟨[bm, lm], [(r11, it12), (bm, .cells ((.int .i64 m.crew.faults) :: ((.slice A6 m.crew.nodes.length cap7) :: ((.int .i64 x.seq) :: (x.dig.cells ++ ((.map (some lm)) :: []))))).toArray 64 (0, 0)), (lm, qm)]⟩ := hB
        refine wlThen ?_
        refine wcBlock ?_
        obtain ⟨G, hg15, hC, hB, hF14⟩ := freezeBox (cs := x.cells) hC (Nat.le_refl _) hB (i := 0) rfl
        replace hs3 := hs3.mono hg15; replace hM4 := hM4.mono hg15; replace hI13 := hI13.mono hg15
        refine WC.sub (wrInd (ι := Obj × (List Int) × Obj × (List (Int × (List Mark)))) (fun i => match i with | (it0, lf0, q0, D0) => lf0.length) (fun i G w => match i with | (it0, lf0, q0, D0) => Cx w0 G0 G w ⟨[bm, lm], [(r11, it0), (bm, .cells ((.int .i64 m.crew.faults) :: ((.slice A6 m.crew.nodes.length cap7) :: ((.int .i64 x.seq) :: (x.dig.cells ++ ((.map (some lm)) :: []))))).toArray 64 (0, 0)), (lm, q0)]⟩ ∧ Bxs G w w0.heap.size [] ⟨[bm, lm], [(r11, it0), (bm, .cells ((.int .i64 m.crew.faults) :: ((.slice A6 m.crew.nodes.length cap7) :: ((.int .i64 x.seq) :: (x.dig.cells ++ ((.map (some lm)) :: []))))).toArray 64 (0, 0)), (lm, q0)]⟩ ∧ Sl G (.slice A6 m.crew.nodes.length cap7) m.crew.nodes ∧ RowG G b8 0 x.cells ∧ MpO kI G q0 D0 ∧ ItO kI q0 it0 lm lf0 ∧ lf0.Nodup ∧ D0 = m.list.map (fun p => (p.1, bif lf0.any (fun y => y == p.1) then p.2 else filt x p.2))) (fun i => match i with | (it0, lf0, q0, D0) => (((Env.nil.put 0 (.pointer (some ⟨bm, 0, none⟩))).put 3 (.pointer (some ⟨b8, 0, none⟩))).put 33 (.pointer (some ⟨r11, 0, none⟩)))) ?_ (it12, (List.map (fun x => x.1) m.list), qm, m.list) _ _ ⟨hC, hB, hs3, hF14, hM4, hI13, hM4.nodup, (rz_start m.list x)⟩) (fun _ ha => (((ha.start.cons ha (t := 0) rfl).cons ha (t := 3) rfl).cons ha (t := 33) rfl))
        rintro ⟨it0, lf0, q0, D0⟩ G w N0 IH0 ⟨hC, hB, hs3, hF14, hMq0, hIit0, hnd, hD⟩
        show WC _ _ _ _ (((Env.nil.put 0 (.pointer (some ⟨bm, 0, none⟩))).put 3 (.pointer (some ⟨b8, 0, none⟩))).put 33 (.pointer (some ⟨r11, 0, none⟩))) w
        refine wcSeq ?_
        refine wcRegion ?_
        rcases ItO.next (P := Try.prog) (ty := _) hMq0 hIit0 (hC.heldAt 0 rfl) (hC.heldAt 2 rfl) with ⟨hle16, hr17⟩ | ⟨la18, k19, lb20, v21, it22, w23, hle16, hw24, hr17, hI25, hc26⟩
        · skip
          refine wlNext0 rfl hr17 rfl ?_
          refine wlVal (opExtract rfl rfl) rfl ?_
          refine wlThen ?_
          refine wcSeq ?_
          refine wcCondF rfl ?_
          refine wcExit ?_
          refine wcOf ?_
          refine wcSeq ?_
          refine wcRegion ?_
          refine wlVal (opAssign rfl) rfl ?_
          refine wlThen ?_
          refine wcRet ?_
          exact fun ac_ ha => hQ _ _ _ (results1 ha rfl rfl) ha.df (endM hC [(bm, .cells ((.int .i64 m.crew.faults) :: ((.slice A6 m.crew.nodes.length cap7) :: ((.int .i64 x.seq) :: (x.dig.cells ++ ((.map (some lm)) :: []))))).toArray 64 (0, 0)), (lm, q0)] (.cons _ (.cons₂ _ (.cons₂ _ .slnil))) rfl ⟨_, _, rfl, (by have e_ : (raiseM m x).1 = (MSt.mk m.crew x D0) := (by simp only [raiseM, h9, h10, cond_true, cond_false, Bool.not_true, Bool.not_false]; rw [hD, hle16]; rfl); rw [e_]; exact ⟨_, rfl, hs3, hMq0, (minv_raise him hD)⟩), (by simp only [raiseM, h9, h10, cond_true, cond_false, Bool.not_true, Bool.not_false])⟩)
        · skip
          refine wlNext1 hC hB (i := 0) rfl rfl hw24 hr17 rfl ?_; intro w hC hB
          replace hC : Cx w0 G0 G w ⟨[bm, lm], [(r11, it22), (bm, .cells ((.int .i64 m.crew.faults) :: ((.slice A6 m.crew.nodes.length cap7) :: ((.int .i64 x.seq) :: (x.dig.cells ++ ((.map (some lm)) :: []))))).toArray 64 (0, 0)), (lm, q0)]⟩ := hC
          replace hB : Bxs G w w0.heap.size [] ⟨[bm, lm], [(r11, it22), (bm, .cells ((.int .i64 m.crew.faults) :: ((.slice A6 m.crew.nodes.length cap7) :: ((.int .i64 x.seq) :: (x.dig.cells ++ ((.map (some lm)) :: []))))).toArray 64 (0, 0)), (lm, q0)]⟩ := hB
          refine wlVal (opExtract rfl rfl) rfl ?_
          refine wlThen ?_
          refine wcSeq ?_
          refine wcCondT rfl ?_
          refine wcSkip ?_
          refine wcOf ?_
          refine wcBlock ?_
          refine wcSeq ?_
          refine wcRegion ?_
          obtain ⟨v27, y28, hy29, hv30, hr31⟩ := hc26.entry (keyL_int ui3).inj hMq0
          have hs32 := isL hv30
          obtain ⟨A33, cap34, rfl⟩ := hs32.form
          refine wlVal (opEntryH rfl (hr31 _ _ (hC.heldAt 0 rfl) (hC.heldAt 2 rfl))) rfl ?_
          refine wlVal (opExtract rfl rfl) rfl ?_
          refine wlVal (opExtract rfl rfl) rfl ?_
          refine wlVal (opAssign rfl) rfl ?_
          refine wlVal (opAssign rfl) rfl ?_
          refine wlThen ?_
          refine wcDrawT 9 fmix (by kernel_rfl) (by kernel_rfl) (by kernel_rfl) (by kernel_rfl) (vAt [(fun _ v_ => v_ = (.pointer (some ⟨bm, 0, none⟩))), (fun _ v_ => v_ = (.pointer (some ⟨bm, 0, none⟩))), (fun _ v_ => v_ = (.pointer (some ⟨bm, 35, none⟩))), (fun _ v_ => v_ = (.map (some lm))), (fun _ v_ => v_ = (.int .i64 k19)), (fun _ v_ => v_ = (.slice A33 y28.length cap34)), (fun _ _ => True), (fun _ v_ => v_ = (.func (.func 41) #[] #[(.pointer (some ⟨b8, 0, none⟩))])), (fun _ _ => True)]) (fun done ac_ G' w => GLe G G' ∧ ∃ (A6_ : Option Addr) (C6_ : Nat) (O6_ : Option Bx) (A8_ : Option Addr) (C8_ : Nat) (O8_ : Option Bx), Cx w0 G0 G' w ⟨[bm, lm], [(r11, it22), (bm, .cells ((.int .i64 m.crew.faults) :: ((.slice A6 m.crew.nodes.length cap7) :: ((.int .i64 x.seq) :: (x.dig.cells ++ ((.map (some lm)) :: []))))).toArray 64 (0, 0)), (lm, q0)]⟩ ∧ (done 6 = true → ac_.tmps[45]? = some (.slice A6_ y28.length C6_) ∧ Ow G' O6_ 28 (.slice A6_ y28.length C6_) (y28 : List Mark)) ∧ (done 8 = true → ac_.tmps[47]? = some (.slice A8_ ((((y28.filter (fun dz_ => !(fun f_x0 => decide (f_x0.seq ≤ x.seq)) dz_)))).length) C8_) ∧ Ow G' O8_ 28 (.slice A8_ ((((y28.filter (fun dz_ => !(fun f_x0 => decide (f_x0.seq ≤ x.seq)) dz_)))).length) C8_) (((y28.filter (fun dz_ => !(fun f_x0 => decide (f_x0.seq ≤ x.seq)) dz_))) : List Mark)) ∧ Bxs G' w w0.heap.size (([] ++ (Option.toList (bif done 8 then O8_ else (bif done 6 then O6_ else none)) ++ []))) ⟨[bm, lm], [(r11, it22), (bm, .cells ((.int .i64 m.crew.faults) :: ((.slice A6 m.crew.nodes.length cap7) :: ((.int .i64 x.seq) :: (x.dig.cells ++ ((.map (some lm)) :: []))))).toArray 64 (0, 0)), (lm, q0)]⟩) G (vAt_mono ⟨fun _ _ _ _ h => h, fun _ _ _ _ h => h, fun _ _ _ _ h => h, fun _ _ _ _ h => h, fun _ _ _ _ h => h, fun _ _ _ _ h => h, fun _ _ _ _ h => h, fun _ _ _ _ h => h, fun _ _ _ _ h => h, trivial⟩) (fun _ _ => ⟨fun _ _ h => h, none, 0, none, none, 0, none, hC.drew, (fun h => by cases h), (fun h => by cases h), (by first | exact hB.drew | simpa using hB.drew)⟩) ?_ ?_
          · refine dsNone (j := 1) rfl ?_ ?_
            · intro done G w ac_ hd hp hn ⟨hg, A6_, C6_, O6_, A8_, C8_, O8_, hC, hT6, hT8, hBx⟩ hM
              have hB := hBx
              have f0 : ac_.tmps[0]? = some (.pointer (some ⟨bm, 0, none⟩)) := hM.old0 rfl rfl
              have hF : Fr 48 ac_ (Env.nil.put 0 (.pointer (some ⟨bm, 0, none⟩))) := (hM.fr.add f0)
              exact OpVal.draw hF (opMove rfl) ⟨G, fun _ _ h => h, ⟨hg, A6_, C6_, O6_, A8_, C8_, O8_, hC, (fun h => ⟨(put_other rfl).trans (hT6 h).1, (hT6 h).2⟩), (fun h => ⟨(put_other rfl).trans (hT8 h).1, (hT8 h).2⟩), hBx⟩, rfl⟩
            refine dsNone (j := 2) rfl ?_ ?_
            · intro done G w ac_ hd hp hn ⟨hg, A6_, C6_, O6_, A8_, C8_, O8_, hC, hT6, hT8, hBx⟩ hM
              have hB := hBx
              have f39 : ac_.tmps[39]? = some (.pointer (some ⟨bm, 0, none⟩)) := hM.eqv 0 rfl (hp 0 rfl) rfl rfl
              have hF : Fr 48 ac_ (Env.nil.put 39 (.pointer (some ⟨bm, 0, none⟩))) := (hM.fr.add f39)
              exact OpVal.draw hF (opNilCheck rfl) ⟨G, fun _ _ h => h, ⟨hg, A6_, C6_, O6_, A8_, C8_, O8_, hC, (fun h => ⟨(put_other rfl).trans (hT6 h).1, (hT6 h).2⟩), (fun h => ⟨(put_other rfl).trans (hT8 h).1, (hT8 h).2⟩), hBx⟩, rfl⟩
            refine dsNone (j := 3) rfl ?_ ?_
            · intro done G w ac_ hd hp hn ⟨hg, A6_, C6_, O6_, A8_, C8_, O8_, hC, hT6, hT8, hBx⟩ hM
              have hB := hBx
              have f40 : ac_.tmps[40]? = some (.pointer (some ⟨bm, 0, none⟩)) := hM.eqv 1 rfl (hp 1 rfl) rfl rfl
              have hF : Fr 48 ac_ (Env.nil.put 40 (.pointer (some ⟨bm, 0, none⟩))) := (hM.fr.add f40)
              exact OpVal.draw hF (opFieldAddr rfl fo64_2) ⟨G, fun _ _ h => h, ⟨hg, A6_, C6_, O6_, A8_, C8_, O8_, hC, (fun h => ⟨(put_other rfl).trans (hT6 h).1, (hT6 h).2⟩), (fun h => ⟨(put_other rfl).trans (hT8 h).1, (hT8 h).2⟩), hBx⟩, rfl⟩
            refine dsNone (j := 4) rfl ?_ ?_
            · intro done G w ac_ hd hp hn ⟨hg, A6_, C6_, O6_, A8_, C8_, O8_, hC, hT6, hT8, hBx⟩ hM
              have hB := hBx
              have f41 : ac_.tmps[41]? = some (.pointer (some ⟨bm, 35, none⟩)) := hM.eqv 2 rfl (hp 2 rfl) rfl rfl
              have hF : Fr 48 ac_ (Env.nil.put 41 (.pointer (some ⟨bm, 35, none⟩))) := (hM.fr.add f41)
              exact OpVal.draw hF (opLoadOne (v := (.map (some lm))) rfl (hC.hcell 1 rfl (o := 35) (by simp [Mark.cells, Do.cells, Word.cells])) one62) ⟨G, fun _ _ h => h, ⟨hg, A6_, C6_, O6_, A8_, C8_, O8_, hC, (fun h => ⟨(put_other rfl).trans (hT6 h).1, (hT6 h).2⟩), (fun h => ⟨(put_other rfl).trans (hT8 h).1, (hT8 h).2⟩), hBx⟩, rfl⟩
            refine dsNone (j := 5) rfl ?_ ?_
            · intro done G w ac_ hd hp hn ⟨hg, A6_, C6_, O6_, A8_, C8_, O8_, hC, hT6, hT8, hBx⟩ hM
              have hB := hBx
              have f5 : ac_.tmps[5]? = some (.int .i64 k19) := hM.old0 rfl rfl
              have hF : Fr 48 ac_ (Env.nil.put 5 (.int .i64 k19)) := (hM.fr.add f5)
              exact OpVal.draw hF (opMove rfl) ⟨G, fun _ _ h => h, ⟨hg, A6_, C6_, O6_, A8_, C8_, O8_, hC, (fun h => ⟨(put_other rfl).trans (hT6 h).1, (hT6 h).2⟩), (fun h => ⟨(put_other rfl).trans (hT8 h).1, (hT8 h).2⟩), hBx⟩, rfl⟩
            refine dsNone (j := 6) rfl ?_ ?_
            · intro done G w ac_ hd hp hn ⟨hg, A6_, C6_, O6_, A8_, C8_, O8_, hC, hT6, hT8, hBx⟩ hM
              have hB := hBx
              have f6 : ac_.tmps[6]? = some (.slice A33 y28.length cap34) := hM.old0 rfl rfl
              have hF : Fr 48 ac_ (Env.nil.put 6 (.slice A33 y28.length cap34)) := (hM.fr.add f6)
              exact OpVal.draw hF (opMove rfl) ⟨G, fun _ _ h => h, ⟨hg, A6_, C6_, O6_, A8_, C8_, O8_, hC, (fun h => ⟨(put_other rfl).trans (hT6 h).1, (hT6 h).2⟩), (fun h => ⟨(put_other rfl).trans (hT8 h).1, (hT8 h).2⟩), hBx⟩, rfl⟩
            refine dsNone (j := 7) rfl ?_ ?_
            · intro done G w ac_ hd hp hn ⟨hg, A6_, C6_, O6_, A8_, C8_, O8_, hC, hT6, hT8, hBx⟩ hM
              have hB := hBx
              replace hs32 := hs32.mono hg
              have f44 : ac_.tmps[44]? = some (.slice A33 y28.length cap34) := hM.eqv 5 rfl (hp 5 rfl) rfl rfl
              have hF : Fr 48 ac_ (Env.nil.put 44 (.slice A33 y28.length cap34)) := (hM.fr.add f44)
              simp only [hd, hn 8 _ rfl rfl, cond_false] at hBx
              exact drawCallO (bl := []) (r := []) hF hC hBx rfl co38 rfl (clone_ret _ _ hC.holds _ y28 hs32 (Nat.le_trans (rz_len him hD hy29) (by decide))) (fun v G' o_ w' hg2 hC hB hr => by obtain ⟨A_, cap_, rfl, hO_⟩ := hr; exact ⟨G', hg2, ⟨fun b o h => hg2 b o (hg b o h), A_, cap_, o_, A8_, C8_, O8_, hC, (fun _ => ⟨put_same hM.sz rfl, hO_⟩), (fun h => ⟨(put_other rfl).trans (hT8 h).1, (hT8 h).2.mono hg2⟩), by simpa [Done.set, hn 8 _ rfl rfl] using hB⟩, trivial⟩)
            refine dsNone (j := 8) rfl ?_ ?_
            · intro done G w ac_ hd hp hn ⟨hg, A6_, C6_, O6_, A8_, C8_, O8_, hC, hT6, hT8, hBx⟩ hM
              have hB := hBx
              have f3 : ac_.tmps[3]? = some (.pointer (some ⟨b8, 0, none⟩)) := hM.old0 rfl rfl
              have hF : Fr 48 ac_ (Env.nil.put 3 (.pointer (some ⟨b8, 0, none⟩))) := (hM.fr.add f3)
              exact OpVal.draw hF (opMakeFunc (fun a ha => ha.evals (xs := []) rfl) (fun a ha => ha.evals (xs := [.tmp 3]) rfl)) ⟨G, fun _ _ h => h, ⟨hg, A6_, C6_, O6_, A8_, C8_, O8_, hC, (fun h => ⟨(put_other rfl).trans (hT6 h).1, (hT6 h).2⟩), (fun h => ⟨(put_other rfl).trans (hT8 h).1, (hT8 h).2⟩), hBx⟩, rfl⟩
            refine dsNone (j := 9) rfl ?_ ?_
            · intro done G w ac_ hd hp hn ⟨hg, A6_, C6_, O6_, A8_, C8_, O8_, hC, hT6, hT8, hBx⟩ hM
              have hB := hBx
              replace hF14 := hF14.mono hg
              have f45 := (hT6 (hp 6 rfl)).1
              have f46 : ac_.tmps[46]? = some (.func (.func 41) #[] #[(.pointer (some ⟨b8, 0, none⟩))]) := hM.eqv 7 rfl (hp 7 rfl) rfl rfl
              have hF : Fr 48 ac_ ((Env.nil.put 45 (.slice A6_ y28.length C6_)).put 46 (.func (.func 41) #[] #[(.pointer (some ⟨b8, 0, none⟩))])) := ((hM.fr.add f45).add f46)
              simp only [hd, hp 6 rfl, cond_true, cond_false] at hBx
              replace hB := hBx
              have hO35 := (hT6 (hp 6 rfl)).2
              exact drawCallP (bl := []) (o := O6_) (r := []) hF hC hBx rfl co40 rfl (delf_ret _ _ hC.holds _ y28 _ hO35 (Bxs.mine (bl := []) (r := []) hB) 41 [(.pointer (some ⟨b8, 0, none⟩))] (fun f_x0 => decide (f_x0.seq ≤ x.seq)) co41 (fun G w f_x0 hg hw  => raise1_ret G w hw f_x0 _ x (hF14.mono hg) ) (Nat.le_trans (rz_len him hD hy29) (by decide))) (fun v G' o_ w' hg2 hC hB hr => by obtain ⟨A_, cap_, rfl, hO_⟩ := hr; exact ⟨G', hg2, ⟨fun b o h => hg2 b o (hg b o h), A6_, C6_, O6_, A_, cap_, o_, hC, (fun h => ⟨(put_other rfl).trans (hT6 h).1, (hT6 h).2.mono hg2⟩), (fun _ => ⟨put_same hM.sz rfl, hO_⟩), by simpa [Done.set] using hB⟩, trivial⟩)
            exact dsNil
          · intro done G w ac_ hall htl ⟨hg, A37, cap38, o39, A40, cap41, o42, hC, hT6, hT8, hB⟩ hM
            replace hs3 := hs3.mono hg
            replace hMq0 := hMq0.mono hg
            replace hI25 := hI25.mono hg
            replace hs32 := hs32.mono hg
            replace hF14 := hF14.mono hg
            have f0 : ac_.tmps[0]? = some (.pointer (some ⟨bm, 0, none⟩)) := hM.old0 rfl rfl
            have f3 : ac_.tmps[3]? = some (.pointer (some ⟨b8, 0, none⟩)) := hM.old0 rfl rfl
            have f33 : ac_.tmps[33]? = some (.pointer (some ⟨r11, 0, none⟩)) := hM.old0 rfl rfl
            have f42 : ac_.tmps[42]? = some (.map (some lm)) := hM.eqv 3 rfl (hall 3 rfl) rfl rfl
            have f43 : ac_.tmps[43]? = some (.int .i64 k19) := hM.eqv 4 rfl (hall 4 rfl) rfl rfl
            have f47 := (hT8 (hall 8 rfl)).1
            have hO36 := (hT8 (hall 8 rfl)).2
            try simp only [hall 6 rfl, hall 8 rfl, cond_true] at hB
            replace hB : Bxs G w w0.heap.size ([] ++ (Option.toList o42 ++ [])) ⟨[bm, lm], [(r11, it22), (bm, .cells ((.int .i64 m.crew.faults) :: ((.slice A6 m.crew.nodes.length cap7) :: ((.int .i64 x.seq) :: (x.dig.cells ++ ((.map (some lm)) :: []))))).toArray 64 (0, 0)), (lm, q0)]⟩ := hB
            refine ⟨((((((Env.nil.put 0 (.pointer (some ⟨bm, 0, none⟩))).put 3 (.pointer (some ⟨b8, 0, none⟩))).put 33 (.pointer (some ⟨r11, 0, none⟩))).put 42 (.map (some lm))).put 43 (.int .i64 k19)).put 47 (.slice A40 ((((y28.filter (fun dz_ => !(fun f_x0 => decide (f_x0.seq ≤ x.seq)) dz_)))).length) cap41)), ((((((hM.fr.add f0).add f3).add f33).add f42).add f43).add f47), ?_⟩
            clear hM hall htl
            obtain ⟨G, hg44, hC, hB, hs43⟩ := Ow.freeze' (bl := []) (r := []) hO36 hC (Nat.le_refl _) hB (by have q := rz_len him hD hy29; have q2 := List.length_filter_le (fun y => !decide (y.seq ≤ x.seq)) y28; unfold maxL; simp only []; omega)
            replace hs3 := hs3.mono hg44; replace hMq0 := hMq0.mono hg44; replace hI25 := hI25.mono hg44; replace hs32 := hs32.mono hg44
            replace hF14 := hF14.mono hg44
            replace hB : Bxs G w w0.heap.size [] ⟨[bm, lm], [(r11, it22), (bm, .cells ((.int .i64 m.crew.faults) :: ((.slice A6 m.crew.nodes.length cap7) :: ((.int .i64 x.seq) :: (x.dig.cells ++ ((.map (some lm)) :: []))))).toArray 64 (0, 0)), (lm, q0)]⟩ := hB
            obtain ⟨q45, hM46, hr47, hit48⟩ := hMq0.put (keyL_int ui3) mk62 (isL' hs43) k19
            refine wlMapPutH hC hB (i := 2) rfl rfl rfl rfl (hr47 _ _ (hC.heldAt 2 rfl)) rfl ?_; intro w hC hB
            replace hI25 := hit48 (rz_mem hy29) _ _ _ hI25
            replace hC : Cx w0 G0 G w ⟨[bm, lm], [(r11, it22), (bm, .cells ((.int .i64 m.crew.faults) :: ((.slice A6 m.crew.nodes.length cap7) :: ((.int .i64 x.seq) :: (x.dig.cells ++ ((.map (some lm)) :: []))))).toArray 64 (0, 0)), (lm, q45)]⟩ := hC
            replace hB : Bxs G w w0.heap.size [] ⟨[bm, lm], [(r11, it22), (bm, .cells ((.int .i64 m.crew.faults) :: ((.slice A6 m.crew.nodes.length cap7) :: ((.int .i64 x.seq) :: (x.dig.cells ++ ((.map (some lm)) :: []))))).toArray 64 (0, 0)), (lm, q45)]⟩ := hB
            refine wlNil ?_
            refine wrOf ?_
            exact (IH0 (it22, (la18 ++ lb20), q45, (mput D0 k19 (((y28.filter (fun dz_ => !(fun f_x0 => decide (f_x0.seq ≤ x.seq)) dz_)))))) _ _ ⟨hC, hB, hs3, hF14, hM46, hI25, (rz_nd hnd hle16), (rz_step hnodup hnd hD hle16 hy29)⟩ (by rw [hle16]; simp)).sub (fun _ ha => (((ha.start.cons ha (t := 0) rfl).cons ha (t := 3) rfl).cons ha (t := 33) rfl))
    · skip
      refine wlOff rfl rfl rfl rfl ?_
      refine wlOff rfl rfl rfl rfl ?_
      refine wlOff rfl rfl rfl rfl ?_
      refine wlOff rfl rfl rfl rfl ?_
      refine wlVal (opPickT rfl rfl) rfl ?_
      refine wlVal (opAssign rfl) rfl ?_
      refine wlThen ?_
      refine wcCondT rfl ?_
      refine wcSeq ?_
      refine wcRegion ?_
      refine wlVal (opAssign rfl) rfl ?_
      refine wlThen ?_
      refine wcRet ?_
      exact fun ac_ ha => hQ _ _ _ (results1 ha rfl rfl) ha.df (endM hC [(bm, .cells ((.int .i64 m.crew.faults) :: ((.slice A6 m.crew.nodes.length cap7) :: ((.int .i64 m.low.seq) :: (m.low.dig.cells ++ ((.map (some lm)) :: []))))).toArray 64 (0, 0)), (lm, qm)] (.cons₂ _ (.cons₂ _ .slnil)) rfl ⟨_, _, rfl, (by have e_ : (raiseM m x).1 = m := (by simp only [raiseM, h9, cond_true, cond_false, Bool.not_true, Bool.not_false]; try rfl); rw [e_]; exact ⟨_, rfl, hs3, hM4, him⟩), (by simp only [raiseM, h9, cond_true, cond_false, Bool.not_true, Bool.not_false])⟩)

end Go.Proofs.Ytbmanooiphghmaa
