/- The document's slots: a row is stored whole. No condition. -/
import Derived.Test.YtljcgggflgbenaaGreatDoorZlG8
set_option linter.all false
namespace Go.Proofs.YtljcgggflgbenaaGreatDoor
open Go Go.Gx Go.RowKit
section
variable {G G' : Gh} {b : Nat} {O : List (Nat × Obj)} {m : RfS} {vn : Value} {lb so cap : Nat} {lc : List Value} {R : List RowR} {H H2 X : List (Nat × Obj)} {l : List RSlot} {i : Nat} {t t' : RSlot}
theorem RfL.setAll {x : Rw} (h : RfL G R H l) (hi : l[i]? = some t) (hx : RwO G x t') : RfL G (R.set i x.r) (x.blocks ++ H) (l.set i t') := by
  obtain ⟨rs, J, h1, rfl, rfl, h4⟩ := h
  rw [List.getElem?_map] at hi
  cases hr : rs[i]? with
  | none => rw [hr] at hi; cases hi
  | some y =>
    obtain ⟨hlt, hy⟩ := List.getElem?_eq_some_iff.1 hr
    have hsp : rs = rs.take i ++ y :: rs.drop (i + 1) := by rw [← hy]; simp
    refine ⟨rs.set i (x, t'), y.1.blocks ++ J, ?_, by rw [List.map_set], by rw [List.map_set], fun z hz => ?_⟩
    · rw [List.set_eq_take_append_cons_drop, if_pos hlt]
      refine (h1.append_left x.blocks).trans ?_
      conv => lhs; rw [hsp]
      simp only [List.flatMap_append, List.flatMap_cons, List.append_assoc]
      refine (List.perm_append_comm_assoc _ _ _).trans (List.Perm.append_left _ (List.Perm.append_left _ ?_))
      exact List.perm_append_comm_assoc _ _ _
    · rcases List.mem_or_eq_of_mem_set hz with hz | rfl
      · exact h4 z hz
      · exact hx
end
section
variable {P : Program} {ops : Array Oper} {Q : Exit → Act → World → Prop} {N : Nat} {e : Env} {w w0 : World} {G0 G : Gh} {rest : List Oper} {d : Option Tmp} {ty : TypeId} {pos : String} {af : Array Edge} {bl : List Bx}
  {K : List Nat} {B O H : List (Nat × Obj)} {b lb so cap i ad ty2 kz : Nat} {m : RfS} {vn : Value} {lc : List Value} {R : List RowR} {x y0 : Operand} {v : Value} {t t' : RSlot}
/-- L[i] = a new row -/
theorem wlRfRow {xr : Rw} (hN : RfN G b O m vn lb so cap lc R H) (hC : Cx w0 G0 G w ⟨K, xr.blocks ++ (O ++ B)⟩) (hB : Bxs G w w0.heap.size bl ⟨K, xr.blocks ++ (O ++ B)⟩) (hi : m.l[i]? = some t) (hX : RwO G xr t')
    (h1 : t'.pre.length = t.pre.length) (h2 : t'.com.length = t.com.length) (h3 : t'.q.length ≤ 4)
    (hx : opv e x = some (.pointer (some ⟨lb, ad, none⟩))) (had : ad = so + i * 71) (hy : opv e y0 = some (.agg xr.r.cells.toArray)) (ht : (P.info? ty2).map (·.size) = some 71) (hd : okD N d = true)
    (h : ∀ O' lc' R' H' w', Cx w0 G0 G w' ⟨K, O' ++ B⟩ → Bxs G w' w0.heap.size bl ⟨K, O' ++ B⟩ → RfN G b O' (setL m i t') vn lb so cap lc' R' H' → (∀ k ∈ O.map (·.1), k ∈ O'.map (·.1)) → WL P ops Q N rest (e.putO d undef) w') :
    WL P ops Q N (⟨d, .store ty2 x y0, ty, pos, af, none⟩ :: rest) e w := by
  obtain ⟨ok, rfl, hn_, ho, hl⟩ := hN
  have hp : (xr.blocks ++ ((b, rootR m vn (.slice (some ⟨lb, so, none⟩) 8 cap)) :: (lb, .cells (List.toArray lc) 69 (0, 0)) :: H ++ B)).Perm ((b, rootR m vn (.slice (some ⟨lb, so, none⟩) 8 cap)) :: (lb, .cells (List.toArray lc) 69 (0, 0)) :: (xr.blocks ++ H) ++ B) := by
    refine (List.perm_middle).trans (List.Perm.cons _ ((List.perm_middle).trans (List.Perm.cons _ ?_)))
    show (xr.blocks ++ (H ++ B)).Perm ((xr.blocks ++ H) ++ B)
    rw [List.append_assoc]
  have hN2 : RfN G b ((b, rootR m vn (.slice (some ⟨lb, so, none⟩) 8 cap)) :: (lb, .cells (List.toArray lc) 69 (0, 0)) :: (xr.blocks ++ H)) m vn lb so cap lc R (xr.blocks ++ H) := ⟨ok, rfl, hn_, ho, hl.junk0⟩
  obtain ⟨r, h4, _, _, _⟩ := hl.setRow hi
  have hI : Rp.Is G xr.r.cells xr.r := rfl
  have h71 : xr.r.cells.length = 71 := Rp.len hI
  refine wlStR (off := 0) (vs := xr.r.cells) (r := r) (r' := xr.r) hN2 (hC.permH hp) (hB.permH hp) h4 hx (by omega) hy ht rfl h71 (List.all_eq_true.2 (Rp.one hI)) (by omega) (fun row hr => by
    rw [show List.take 0 row ++ xr.r.cells ++ List.drop (0 + 71) row = xr.r.cells from by rw [List.drop_of_length_le (by rw [Rp.len hr]; exact Nat.le_refl _)]; simp]; exact hI) hd fun lc' w' k1 k2 k3 => ?_
  refine h _ lc' _ (xr.blocks ++ H) w' k1 k2 ⟨ok.set hi h1 h2 h3, rfl, hn_, k3, hl.setAll hi hX⟩ fun k hk => ?_
  simp only [List.map_cons, List.map_append, List.mem_cons, List.mem_append] at hk ⊢
  rcases hk with hk | hk | hk
  · exact .inl hk
  · exact .inr (.inl hk)
  · exact .inr (.inr (.inr hk))
end
/-- The first k rows are empty. -/
def clrR (m : RfS) : Nat → RfS
  | 0 => m
  | k + 1 => setL (clrR m k) k (emptyR (clrR m k).crew.nodes.length)
def rpR (m : RfS) (l : List Stand) : Nat → RfS
  | 0 => m
  | k + 1 => setL (rpR m l k) (ixR (rpR m l k) (l.getD k default).seq) (RSlot.mk (slR (rpR m l k) (ixR (rpR m l k) (l.getD k default).seq)).last (slR (rpR m l k) (ixR (rpR m l k) (l.getD k default).seq)).pre (slR (rpR m l k) (ixR (rpR m l k) (l.getD k default).seq)).com
      (RVt.mk true (l.getD k default).view (l.getD k default).dig) (slR (rpR m l k) (ixR (rpR m l k) (l.getD k default).seq)).q)
def rq1 (m : RfS) (a : Stand) : RfS := setL m (ixR m a.seq) (RSlot.mk (slR m (ixR m a.seq)).last (slR m (ixR m a.seq)).pre (slR m (ixR m a.seq)).com (slR m (ixR m a.seq)).p ((slR m (ixR m a.seq)).q ++ [a]))
def rq2 (m : RfS) (i : Nat) (a : Stand) : RfS := setL m i (RSlot.mk (RVt.mk true a.view a.dig) (slR m i).pre (slR m i).com (slR m i).p (slR m i).q)
def rqR (m : RfS) (l : List Stand) : Nat → RfS
  | 0 => m
  | k + 1 => rq2 (rq1 (rqR m l k) (l.getD k default)) (ixR (rqR m l k) (l.getD k default).seq) (l.getD k default)
def restR (m : RfS) (p q : List Stand) : RfS × Int :=
  bif !(pRestG m none p && qRestG m none [] q) then (m, 2) else (rqR (rpR (clrR m 8) p p.length) q q.length, 0)
theorem clrR_low (m : RfS) : ∀ k, (clrR m k).low = m.low
  | 0 => rfl
  | k + 1 => clrR_low m k
theorem rpR_low (m : RfS) (l : List Stand) : ∀ k, (rpR m l k).low = m.low
  | 0 => rfl
  | k + 1 => rpR_low m l k
theorem rqR_low (m : RfS) (l : List Stand) : ∀ k, (rqR m l k).low = m.low
  | 0 => rfl
  | k + 1 => rqR_low m l k
theorem inR_low {m m' : RfS} (h : m'.low = m.low) (k : Int) : inR m' k = inR m k := by unfold inR; rw [h]
theorem pRest_mem {m : RfS} : ∀ {l : List Stand} {p : Option Stand}, pRestG m p l = true → ∀ a ∈ l, inR m a.seq = true
  | [], _, _ => fun a h => (List.not_mem_nil h).elim
  | x :: r, p, h => by
    unfold pRestG at h
    cases hc : (!inR m x.seq || lePrev p x || !viewB x.view) with
    | true => rw [hc] at h; cases h
    | false =>
      rw [hc] at h
      intro a ha
      rcases List.mem_cons.1 ha with rfl | ha
      · simp at hc; exact hc.1.1
      · exact pRest_mem h a ha
theorem qRest_mem {m : RfS} : ∀ {l : List Stand} {p : Option Stand} {run : List Stand}, qRestG m p run l = true → ∀ a ∈ l, inR m a.seq = true
  | [], _, _, _ => fun a h => (List.not_mem_nil h).elim
  | x :: r, p, run, h => by
    unfold qRestG at h
    cases hc : (!inR m x.seq || !viewB x.view || ltPrev p x) with
    | true => rw [hc] at h; cases h
    | false =>
      rw [hc] at h
      cases h2 : badPrev p x with
      | true => rw [h2] at h; cases h
      | false =>
        rw [h2] at h
        cases h3 : decide ((4 : Int) < (((runOf p run x).length + 1 : Nat) : Int)) with
        | true => rw [h3] at h; cases h
        | false =>
          rw [h3] at h
          cases h4 : (runOf p run x).any (fun y => decide (y.dig = x.dig)) with
          | true => rw [h4] at h; cases h
          | false =>
            rw [h4] at h
            intro a ha
            rcases List.mem_cons.1 ha with rfl | ha
            · simp at hc; exact hc.1.1
            · exact qRest_mem h a ha
theorem qRest_cons {m : RfS} {p : Option Stand} {run r : List Stand} {x : Stand} (h : qRestG m p run (x :: r) = true) :
    ltPrev p x = false ∧ (runOf p run x).length + 1 ≤ 4 ∧ qRestG m (some x) (runOf p run x ++ [x]) r = true := by
  unfold qRestG at h
  cases hc : (!inR m x.seq || !viewB x.view || ltPrev p x) with
  | true => rw [hc] at h; cases h
  | false =>
    rw [hc] at h
    cases h2 : badPrev p x with
    | true => rw [h2] at h; cases h
    | false =>
      rw [h2] at h
      cases h3 : decide ((4 : Int) < (((runOf p run x).length + 1 : Nat) : Int)) with
      | true => rw [h3] at h; cases h
      | false =>
        rw [h3] at h
        cases h4 : (runOf p run x).any (fun y => decide (y.dig = x.dig)) with
        | true => rw [h4] at h; cases h
        | false =>
          rw [h4] at h
          have := of_decide_eq_false h3
          refine ⟨?_, by omega, h⟩
          cases hl : ltPrev p x with
          | false => rfl
          | true => rw [hl] at hc; simp at hc
theorem qRest_ge {m : RfS} : ∀ {r : List Stand} {a : Stand} {run : List Stand}, qRestG m (some a) run r = true → ∀ y ∈ r, a.seq ≤ y.seq
  | [], _, _, _ => fun y h => (List.not_mem_nil h).elim
  | x :: r, a, run, h => by
    obtain ⟨h1, h2, h3⟩ := qRest_cons h
    have h1 : ¬ x.seq < a.seq := of_decide_eq_false h1
    intro y hy
    rcases List.mem_cons.1 hy with rfl | hy
    · omega
    · have := qRest_ge h3 y hy; omega
def onP (p : Option Stand) (run : List Stand) (s : Int) : Nat := match p with | none => 0 | some q => if q.seq = s then run.length else 0
theorem qRest_cnt {m : RfS} (s : Int) : ∀ {l : List Stand} {p : Option Stand} {run : List Stand}, run.length ≤ 4 → qRestG m p run l = true → onP p run s + (l.filter (fun y => decide (y.seq = s))).length ≤ 4
  | [], p, run, hr, _ => by
    simp only [List.filter_nil, List.length_nil]
    unfold onP; split
    · omega
    · split <;> omega
  | x :: r, p, run, hr, h => by
    obtain ⟨h1, h2, h3⟩ := qRest_cons h
    have ih := qRest_cnt s (l := r) (p := some x) (run := runOf p run x ++ [x]) (by simp; omega) h3
    simp only [onP, List.length_append, List.length_singleton] at ih
    by_cases hs : x.seq = s
    · rw [List.filter_cons_of_pos (by simp [hs])]
      rw [if_pos hs] at ih
      simp only [List.length_cons]
      have : onP p run s ≤ (runOf p run x).length := by
        cases p with
        | none => exact Nat.zero_le _
        | some q =>
          have h1 : ¬ x.seq < q.seq := of_decide_eq_false h1
          simp only [onP, runOf]
          split
          · rename_i hq
            rw [show decide (q.seq < x.seq) = false from decide_eq_false (by omega)]; exact Nat.le_refl _
          · exact Nat.zero_le _
      omega
    · rw [List.filter_cons_of_neg (by simp [hs])]
      rw [if_neg hs] at ih
      cases p with
      | none => simp only [onP]; omega
      | some q =>
        have h1 : ¬ x.seq < q.seq := of_decide_eq_false h1
        simp only [onP]
        split
        · rename_i hq
          have h0 : r.filter (fun y => decide (y.seq = s)) = [] := by
            rw [List.filter_eq_nil_iff]; intro y hy
            have := qRest_ge h3 y hy
            simp; omega
          rw [h0]; simpa using hr
        · omega
end Go.Proofs.YtljcgggflgbenaaGreatDoor
