/- The document's slots: what is stored. No condition. -/
import Derived.Test.YtljcgggflgbenaaGreatDoorZlG5
set_option linter.all false
namespace Go.Proofs.YtljcgggflgbenaaGreatDoor
open Go Go.Gx Go.RowKit
section
variable {G G' : Gh} {b : Nat} {O : List (Nat × Obj)} {m : RfS} {vn : Value} {lb so cap : Nat} {lc : List Value} {R : List RowR} {H H2 : List (Nat × Obj)} {l : List RSlot} {i : Nat} {t : RSlot}
theorem RfL.perm (h : RfL G R H l) (hp : H.Perm H2) : RfL G R H2 l := by
  obtain ⟨rs, J, h1, h2, h3, h4⟩ := h
  exact ⟨rs, J, hp.symm.trans h1, h2, h3, h4⟩
theorem RfL.setRow (h : RfL G R H l) (hi : l[i]? = some t) : ∃ r, R[i]? = some r ∧ r.last = t.last ∧ r.p = t.p ∧
    ∀ (r' : RowR) (t' : RSlot), r'.pv = r.pv → r'.cv = r.cv → r'.qv = r.qv → r'.last = t'.last → r'.p = t'.p → t'.q = t.q → t'.pre = t.pre → t'.com = t.com → RfL G (R.set i r') H (l.set i t') := by
  obtain ⟨x, H', e1, e2, e3, e4⟩ := h.at_ hi
  refine ⟨x.r, e1, e2.last, e2.p, fun r' t' h1 h2 h0 h3 h4 h5 h6 h7 => ?_⟩
  have := e4 G ⟨r', x.c1, x.c2, x.oq⟩ t' (fun _ _ h => h) h1 h2 ⟨h3, h4, by rw [h0, h5]; exact e2.q, by rw [h1, h6]; exact e2.pre, by rw [h2, h7]; exact e2.com⟩
  refine RfL.perm this ?_
  simp only [Rw.blocks, h1, h2]
  exact e3.symm
theorem RfL.junk0 {X : List (Nat × Obj)} (h : RfL G R H l) : RfL G R (X ++ H) l := by
  obtain ⟨rs, J, h1, h2, h3, h4⟩ := h
  refine ⟨rs, X ++ J, ?_, h2, h3, h4⟩
  exact (h1.append_left X).trans (List.perm_append_comm_assoc _ _ _)
/-- The row's Q: its block apart. -/
theorem RfL.setQ (h : RfL G R H l) (hi : l[i]? = some t) : ∃ r oq H', R[i]? = some r ∧ r.last = t.last ∧ r.p = t.p ∧ H.Perm (ob oq ++ H') ∧ Ow G oq 44 r.qv.v t.q ∧
    (∀ o2, Ow G o2 44 r.qv.v t.q → RfL G R (ob o2 ++ H') l) ∧
    ∀ o2 qv2 q2, Ow G o2 44 (Qv.v qv2) q2 → RfL G (R.set i (RowR.mk r.last r.pv r.cv r.p qv2)) (ob o2 ++ H') (l.set i (RSlot.mk t.last t.pre t.com t.p q2)) := by
  obtain ⟨x, H', e1, e2, e3, e4⟩ := h.at_ hi
  have hp : ∀ o : Option Bx, ((x.r.pv.b, Obj.cells x.c1.toArray 66 (0, 0)) :: (x.r.cv.b, .cells x.c2.toArray 66 (0, 0)) :: ob o ++ H').Perm (ob o ++ ((x.r.pv.b, .cells x.c1.toArray 66 (0, 0)) :: (x.r.cv.b, .cells x.c2.toArray 66 (0, 0)) :: H')) := fun o =>
    ((List.perm_middle (l₁ := ob o)).trans (List.Perm.cons _ List.perm_middle)).symm
  refine ⟨x.r, x.oq, (x.r.pv.b, .cells x.c1.toArray 66 (0, 0)) :: (x.r.cv.b, .cells x.c2.toArray 66 (0, 0)) :: H', e1, e2.last, e2.p, e3.trans (hp _), e2.q, fun o2 ho => ?_, fun o2 qv2 q2 ho => ?_⟩
  · have := e4 G ⟨x.r, x.c1, x.c2, o2⟩ t (fun _ _ h => h) rfl rfl ⟨e2.last, e2.p, ho, e2.pre, e2.com⟩
    rw [show R.set i x.r = R from by
      obtain ⟨hl, he⟩ := List.getElem?_eq_some_iff.1 e1
      rw [← he]; exact List.set_getElem_self ..] at this
    rw [show l.set i t = l from by
      obtain ⟨hl, he⟩ := List.getElem?_eq_some_iff.1 hi
      rw [← he]; exact List.set_getElem_self ..] at this
    exact RfL.perm this (hp _)
  · exact RfL.perm (e4 G ⟨RowR.mk x.r.last x.r.pv x.r.cv x.r.p qv2, x.c1, x.c2, o2⟩ (RSlot.mk t.last t.pre t.com t.p q2) (fun _ _ h => h) rfl rfl ⟨e2.last, e2.p, ho, e2.pre, e2.com⟩) (hp _)
theorem RfL.setPre (h : RfL G R H l) (hi : l[i]? = some t) : ∃ r c1 H', R[i]? = some r ∧ H.Perm ((r.pv.b, .cells c1.toArray 66 (0, 0)) :: H') ∧ Ow G (some (r.pv.b, 66, c1)) 66 r.pv.v t.pre ∧
    ∀ c1' pre', Ow G (some (r.pv.b, 66, c1')) 66 r.pv.v pre' → RfL G R ((r.pv.b, .cells c1'.toArray 66 (0, 0)) :: H') (l.set i (RSlot.mk t.last pre' t.com t.p t.q)) := by
  obtain ⟨x, H', e1, e2, e3, e4⟩ := h.at_ hi
  refine ⟨x.r, x.c1, (x.r.cv.b, .cells x.c2.toArray 66 (0, 0)) :: (ob x.oq ++ H'), e1, e3, e2.pre, fun c1' pre' ho => ?_⟩
  have := e4 G ⟨x.r, c1', x.c2, x.oq⟩ (RSlot.mk t.last pre' t.com t.p t.q) (fun _ _ h => h) rfl rfl ⟨e2.last, e2.p, e2.q, ho, e2.com⟩
  rw [show R.set i x.r = R from by
    obtain ⟨hl, he⟩ := List.getElem?_eq_some_iff.1 e1
    rw [← he]; exact List.set_getElem_self ..] at this
  exact this
theorem RfL.setCom (h : RfL G R H l) (hi : l[i]? = some t) : ∃ r c2 H', R[i]? = some r ∧ H.Perm ((r.cv.b, .cells c2.toArray 66 (0, 0)) :: H') ∧ Ow G (some (r.cv.b, 66, c2)) 66 r.cv.v t.com ∧
    ∀ c2' com', Ow G (some (r.cv.b, 66, c2')) 66 r.cv.v com' → RfL G R ((r.cv.b, .cells c2'.toArray 66 (0, 0)) :: H') (l.set i (RSlot.mk t.last t.pre com' t.p t.q)) := by
  obtain ⟨x, H', e1, e2, e3, e4⟩ := h.at_ hi
  refine ⟨x.r, x.c2, (x.r.pv.b, .cells x.c1.toArray 66 (0, 0)) :: (ob x.oq ++ H'), e1, e3.trans (List.Perm.swap _ _ _), e2.com, fun c2' com' ho => ?_⟩
  have := e4 G ⟨x.r, x.c1, c2', x.oq⟩ (RSlot.mk t.last t.pre com' t.p t.q) (fun _ _ h => h) rfl rfl ⟨e2.last, e2.p, e2.q, e2.pre, ho⟩
  rw [show R.set i x.r = R from by
    obtain ⟨hl, he⟩ := List.getElem?_eq_some_iff.1 e1
    rw [← he]; exact List.set_getElem_self ..] at this
  exact RfL.perm this (List.Perm.swap _ _ _)
theorem RfOk.set (h : RfOk m) {t' : RSlot} (hi : m.l[i]? = some t) (h1 : t'.pre.length = t.pre.length) (h2 : t'.com.length = t.com.length) (h3 : t'.q.length ≤ 4) : RfOk (RfS.mk m.crew m.self m.low (m.l.set i t')) := by
  refine ⟨h.crew, h.low, by simp [h.len], fun j u hj => ?_, fun j u hj => ?_, fun j u hj => ?_⟩ <;> simp only [] at hj <;> rw [List.getElem?_set] at hj <;> split at hj <;> rename_i hij
  · split at hj
    · injection hj with hj; subst hj; rw [h1]; exact h.pre i t hi
    · cases hj
  · exact h.pre j u hj
  · split at hj
    · injection hj with hj; subst hj; rw [h2]; exact h.com i t hi
    · cases hj
  · exact h.com j u hj
  · split at hj
    · injection hj with hj; subst hj; exact h3
    · cases hj
  · exact h.q4 j u hj
theorem RowR.cells_eq (r : RowR) : r.cells = r.last.cells ++ (r.pv.v :: r.cv.v :: (r.p.cells ++ [r.qv.v])) := by simp [RowR.cells, RVt.cells]
theorem row_last {r : RowR} (y : RVt) {row : List Value} (h : Rp.Is G row r) : Rp.Is G (row.take 0 ++ y.cells ++ row.drop (0 + 34)) (RowR.mk y r.pv r.cv r.p r.qv) := by
  obtain rfl : row = r.cells := h
  show _ = RowR.cells _
  rw [RowR.cells_eq, RowR.cells_eq, Nat.zero_add, List.drop_left' (RVt.length_cells _)]; simp
theorem row_p {r : RowR} (y : RVt) {row : List Value} (h : Rp.Is G row r) : Rp.Is G (row.take 36 ++ y.cells ++ row.drop (36 + 34)) (RowR.mk r.last r.pv r.cv y r.qv) := by
  obtain rfl : row = r.cells := h
  show _ = RowR.cells _
  rw [RowR.cells_eq, RowR.cells_eq, show r.last.cells ++ (r.pv.v :: r.cv.v :: (r.p.cells ++ [r.qv.v])) = (r.last.cells ++ [r.pv.v, r.cv.v]) ++ (r.p.cells ++ [r.qv.v]) from by simp,
    List.take_left' (by simp), show 36 + 34 = (r.last.cells ++ [r.pv.v, r.cv.v]).length + 34 from by simp, ← List.drop_drop, List.drop_left, List.drop_left' (RVt.length_cells _)]
  simp
theorem row_q {r : RowR} {q' : Qv} {row : List Value} (h : Rp.Is G row r) : Rp.Is G (row.take 70 ++ [q'.v] ++ row.drop (70 + 1)) (RowR.mk r.last r.pv r.cv r.p q') := by
  obtain rfl : row = r.cells := h
  show _ = RowR.cells _
  rw [RowR.cells_eq, RowR.cells_eq, show r.last.cells ++ (r.pv.v :: r.cv.v :: (r.p.cells ++ [r.qv.v])) = (r.last.cells ++ (r.pv.v :: r.cv.v :: r.p.cells)) ++ [r.qv.v] from by simp,
    List.take_left' (by simp), List.drop_of_length_le (by simp)]
  simp
end
section
variable {P : Program} {ops : Array Oper} {Q : Exit → Act → World → Prop} {N : Nat} {e : Env} {w w0 : World} {G0 G : Gh} {rest : List Oper} {d : Option Tmp} {ty : TypeId} {pos : String} {af : Array Edge} {bl : List Bx}
  {K : List Nat} {B O H : List (Nat × Obj)} {b lb so cap i ad ty2 kz : Nat} {m : RfS} {vn : Value} {lc : List Value} {R : List RowR} {x y0 : Operand} {v : Value} {t : RSlot}
theorem wlStR {off : Nat} {vs : List Value} {r r' : RowR} (hN : RfN G b O m vn lb so cap lc R H) (hC : Cx w0 G0 G w ⟨K, O ++ B⟩) (hB : Bxs G w w0.heap.size bl ⟨K, O ++ B⟩) (hi : R[i]? = some r)
    (hx : opv e x = some (.pointer (some ⟨lb, ad, none⟩))) (had : ad = so + i * 71 + off) (hy : opv e y0 = some v) (ht : (P.info? ty2).map (·.size) = some kz) (hv : v.cells = vs.toArray) (hn : vs.length = kz) (hone : vs.all Value.oneCell' = true) (hle : off + kz ≤ 71)
    (hnew : ∀ row, Rp.Is G row r → Rp.Is G (row.take off ++ vs ++ row.drop (off + kz)) r') (hd : okD N d = true)
    (h : ∀ lc' w', Cx w0 G0 G w' ⟨K, ((b, rootR m vn (.slice (some ⟨lb, so, none⟩) 8 cap)) :: (lb, .cells (List.toArray lc') 69 (0, 0)) :: H) ++ B⟩ → Bxs G w' w0.heap.size bl ⟨K, ((b, rootR m vn (.slice (some ⟨lb, so, none⟩) 8 cap)) :: (lb, .cells (List.toArray lc') 69 (0, 0)) :: H) ++ B⟩ →
      Ow G (some (lb, 69, lc')) 69 (.slice (some ⟨lb, so, none⟩) 8 cap) (R.set i r') → WL P ops Q N rest (e.putO d undef) w') :
    WL P ops Q N (⟨d, .store ty2 x y0, ty, pos, af, none⟩ :: rest) e w := by
  obtain ⟨ok, rfl, hn_, ho, hl⟩ := hN
  obtain ⟨hC2, hB2⟩ := unhold hC hB (i := 1) rfl
  refine wlStoreOw (α := RowR) (bl := []) (r := bl) hC2 hB2 ho hi hx had hy ht hv hn hone hle hnew hd fun cs' w' k1 k2 k3 => ?_
  obtain ⟨hC3, hB3⟩ := hold k1 k2 (i := 0) rfl
  exact h cs' w' (hC3.permH (List.Perm.swap _ _ _)) (hB3.permH (List.Perm.swap _ _ _)) k3
abbrev setL (m : RfS) (i : Nat) (t : RSlot) : RfS := RfS.mk m.crew m.self m.low (m.l.set i t)
/-- L[i].Last = y -/
theorem wlRfLast {y : RVt} (hN : RfN G b O m vn lb so cap lc R H) (hC : Cx w0 G0 G w ⟨K, O ++ B⟩) (hB : Bxs G w w0.heap.size bl ⟨K, O ++ B⟩) (hi : m.l[i]? = some t)
    (hx : opv e x = some (.pointer (some ⟨lb, ad, none⟩))) (had : ad = so + i * 71) (hy : opv e y0 = some v) (ht : (P.info? ty2).map (·.size) = some 34) (hv : v.cells = y.cells.toArray) (hd : okD N d = true)
    (h : ∀ O' lc' R' w', Cx w0 G0 G w' ⟨K, O' ++ B⟩ → Bxs G w' w0.heap.size bl ⟨K, O' ++ B⟩ → RfN G b O' (setL m i (RSlot.mk y t.pre t.com t.p t.q)) vn lb so cap lc' R' H → (∀ k ∈ O.map (·.1), k ∈ O'.map (·.1)) → WL P ops Q N rest (e.putO d undef) w') :
    WL P ops Q N (⟨d, .store ty2 x y0, ty, pos, af, none⟩ :: rest) e w := by
  obtain ⟨r, h1, h2, h3, h5⟩ := hN.l.setRow hi
  refine wlStR (off := 0) (r' := RowR.mk y r.pv r.cv r.p r.qv) hN hC hB h1 hx (by omega) hy ht hv (RVt.length_cells _) (List.all_eq_true.2 (Rp.one (α := RVt) (G := G) rfl)) (by omega) (fun row hr => row_last y hr) hd fun lc' w' k1 k2 k3 => ?_
  exact h _ lc' _ w' k1 k2 ⟨hN.ok.set hi rfl rfl (hN.ok.q4 i t hi), rfl, hN.n, k3, h5 _ _ rfl rfl rfl rfl h3 rfl rfl rfl⟩ (fun k hk => by rw [hN.e] at hk; exact hk)
/-- L[i].P = y -/
theorem wlRfP {y : RVt} (hN : RfN G b O m vn lb so cap lc R H) (hC : Cx w0 G0 G w ⟨K, O ++ B⟩) (hB : Bxs G w w0.heap.size bl ⟨K, O ++ B⟩) (hi : m.l[i]? = some t)
    (hx : opv e x = some (.pointer (some ⟨lb, ad, none⟩))) (had : ad = so + i * 71 + 36) (hy : opv e y0 = some v) (ht : (P.info? ty2).map (·.size) = some 34) (hv : v.cells = y.cells.toArray) (hd : okD N d = true)
    (h : ∀ O' lc' R' w', Cx w0 G0 G w' ⟨K, O' ++ B⟩ → Bxs G w' w0.heap.size bl ⟨K, O' ++ B⟩ → RfN G b O' (setL m i (RSlot.mk t.last t.pre t.com y t.q)) vn lb so cap lc' R' H → (∀ k ∈ O.map (·.1), k ∈ O'.map (·.1)) → WL P ops Q N rest (e.putO d undef) w') :
    WL P ops Q N (⟨d, .store ty2 x y0, ty, pos, af, none⟩ :: rest) e w := by
  obtain ⟨r, h1, h2, h3, h5⟩ := hN.l.setRow hi
  refine wlStR (off := 36) (r' := RowR.mk r.last r.pv r.cv y r.qv) hN hC hB h1 hx had hy ht hv (RVt.length_cells _) (List.all_eq_true.2 (Rp.one (α := RVt) (G := G) rfl)) (by omega) (fun row hr => row_p y hr) hd fun lc' w' k1 k2 k3 => ?_
  exact h _ lc' _ w' k1 k2 ⟨hN.ok.set hi rfl rfl (hN.ok.q4 i t hi), rfl, hN.n, k3, h5 _ _ rfl rfl rfl h2 rfl rfl rfl rfl⟩ (fun k hk => by rw [hN.e] at hk; exact hk)
/-- What was appended to a row's Q may be stored there. -/
def RfA (G : Gh) (R : List RowR) (H : List (Nat × Obj)) (l : List RSlot) (i : Nat) (qv : Qv) (q : List Stand) : Prop :=
  ∀ r t, R[i]? = some r → l[i]? = some t → RfL G (R.set i (RowR.mk r.last r.pv r.cv r.p qv)) H (l.set i (RSlot.mk t.last t.pre t.com t.p q))
theorem RfA.mono {G G' : Gh} {qv : Qv} {q : List Stand} {l : List RSlot} (hg : GLe G G') (h : RfA G R H l i qv q) : RfA G' R H l i qv q := fun r t h1 h2 => (h r t h1 h2).mono hg
/-- L[i].Q = what was appended to it -/
theorem wlRfQA {q : List Stand} {A : Option Addr} {n c : Nat} (hN : RfN G b O m vn lb so cap lc R H) (hC : Cx w0 G0 G w ⟨K, O ++ B⟩) (hB : Bxs G w w0.heap.size bl ⟨K, O ++ B⟩) (hi : m.l[i]? = some t) (hq : RfA G R H m.l i ⟨A, n, c⟩ q) (hq4 : q.length ≤ 4)
    (hx : opv e x = some (.pointer (some ⟨lb, ad, none⟩))) (had : ad = so + i * 71 + 70) (hy : opv e y0 = some (.slice A n c)) (ht : (P.info? ty2).map (·.size) = some 1) (hd : okD N d = true)
    (h : ∀ O' lc' R' w', Cx w0 G0 G w' ⟨K, O' ++ B⟩ → Bxs G w' w0.heap.size bl ⟨K, O' ++ B⟩ → RfN G b O' (setL m i (RSlot.mk t.last t.pre t.com t.p q)) vn lb so cap lc' R' H → (∀ k ∈ O.map (·.1), k ∈ O'.map (·.1)) → WL P ops Q N rest (e.putO d undef) w') :
    WL P ops Q N (⟨d, .store ty2 x y0, ty, pos, af, none⟩ :: rest) e w := by
  obtain ⟨r, h1, h2, h3, h5⟩ := hN.l.setRow hi
  refine wlStR (off := 70) (vs := [.slice A n c]) (r' := RowR.mk r.last r.pv r.cv r.p ⟨A, n, c⟩) hN hC hB h1 hx had hy ht rfl rfl rfl (by omega) (fun row hr => row_q (q' := ⟨A, n, c⟩) hr) hd fun lc' w' k1 k2 k3 => ?_
  refine h _ lc' _ w' k1 k2 ⟨hN.ok.set hi rfl rfl hq4, rfl, hN.n, k3, hq r t h1 hi⟩ fun k hk => ?_
  rw [hN.e] at hk
  exact hk
/-- The call's own slice comes to the blocks. -/
theorem RfN.take {o : Option Bx} {r : List Bx} {A : Option Addr} {n c : Nat} {q : List Stand} (hN : RfN G b O m vn lb so cap lc R H) (hC : Cx w0 G0 G w ⟨K, O ++ B⟩) (hB : Bxs G w w0.heap.size (bl ++ (o.toList ++ r)) ⟨K, O ++ B⟩) (hi : m.l[i]? = some t) (hO : Ow G o 44 (.slice A n c) q) :
    ∃ O' H', Cx w0 G0 G w ⟨K, O' ++ B⟩ ∧ Bxs G w w0.heap.size (bl ++ r) ⟨K, O' ++ B⟩ ∧ RfN G b O' m vn lb so cap lc R H' ∧ RfA G R H' m.l i ⟨A, n, c⟩ q ∧ (∀ k ∈ O.map (·.1), k ∈ O'.map (·.1)) := by
  obtain ⟨hC2, hB2⟩ := holdO hC hB
  obtain ⟨ok, rfl, hn_, ho, hl⟩ := hN
  have hp : (ob o ++ ((b, rootR m vn (.slice (some ⟨lb, so, none⟩) 8 cap)) :: (lb, .cells (List.toArray lc) 69 (0, 0)) :: H ++ B)).Perm ((b, rootR m vn (.slice (some ⟨lb, so, none⟩) 8 cap)) :: (lb, .cells (List.toArray lc) 69 (0, 0)) :: (ob o ++ H) ++ B) := by
    refine (List.perm_middle).trans (List.Perm.cons _ ((List.perm_middle).trans (List.Perm.cons _ ?_)))
    show (ob o ++ (H ++ B)).Perm ((ob o ++ H) ++ B)
    rw [List.append_assoc]
  refine ⟨_, ob o ++ H, hC2.permH hp, hB2.permH hp, ⟨ok, rfl, hn_, ho, hl.junk0⟩, fun r' t' h1 h2 => ?_, fun k hk => ?_⟩
  · rw [hi] at h2; injection h2 with h2; subst h2
    obtain ⟨r2, oq, H2, e1, _, _, e4, _, _, e7⟩ := hl.setQ hi
    rw [e1] at h1; injection h1 with h1; subst h1
    refine RfL.perm (RfL.junk0 (X := ob oq) (e7 o ⟨A, n, c⟩ q hO)) ?_
    exact (List.perm_append_comm_assoc _ _ _).trans (e4.symm.append_left (ob o))
  · simp only [List.map_cons, List.map_append, List.mem_cons, List.mem_append] at hk ⊢
    rcases hk with hk | hk | hk
    · exact .inl hk
    · exact .inr (.inl hk)
    · exact .inr (.inr (.inr hk))
/-- append(L[i].Q, ..) -/
theorem wlRfApp {ys : List Stand} {v2 : Value} {xo yo : Operand} {ta bytes : Nat} {rt : TypeId} {pv cv : Vs} {qv : Qv} (hN : RfN G b O m vn lb so cap lc R H) (hC : Cx w0 G0 G w ⟨K, O ++ B⟩) (hB : Bxs G w w0.heap.size bl ⟨K, O ++ B⟩) (hi : m.l[i]? = some t) (hE : RfE G O R lb so i t pv cv qv)
    (he : elemOk P ta 44 (Rp.sz Stand) bytes = true) (hx : opv e xo = some (.slice qv.A qv.n qv.cap)) (hy : opv e yo = some v2) (hS : Sl G v2 ys) (hb : t.q.length + ys.length ≤ 1073741824) (hby : Nat.ble bytes 131072 = true) (hd : okD N d = true)
    (h : ∀ A c O' H' w', Cx w0 G0 G w' ⟨K, O' ++ B⟩ → Bxs G w' w0.heap.size bl ⟨K, O' ++ B⟩ → RfN G b O' m vn lb so cap lc R H' → RfE G O' R lb so i t pv cv qv → RfA G R H' m.l i ⟨A, (t.q ++ ys).length, c⟩ (t.q ++ ys) → (∀ k ∈ O.map (·.1), k ∈ O'.map (·.1)) → WL P ops Q N rest (e.putO d (.slice A (t.q ++ ys).length c)) w') :
    WL P ops Q N (⟨d, .call ⟨.builtin .append, #[xo, yo], #[ta, ta]⟩, rt, pos, af, none⟩ :: rest) e w := by
  have hN0 := hN
  obtain ⟨ok, rfl, hn_, ho, hl⟩ := hN
  obtain ⟨r2, oq, H2, e1, _, _, e4, e5, e6, e7⟩ := hl.setQ hi
  obtain ⟨hr1, hr2, hr3⟩ := hE.rv r2 e1
  subst hr3
  have hp : ∀ (X : List (Nat × Obj)), ((b, rootR m vn (.slice (some ⟨lb, so, none⟩) 8 cap)) :: (lb, .cells (List.toArray lc) 69 (0, 0)) :: (X ++ H2) ++ B).Perm (X ++ ((b, rootR m vn (.slice (some ⟨lb, so, none⟩) 8 cap)) :: (lb, .cells (List.toArray lc) 69 (0, 0)) :: (H2 ++ B))) := fun X => by
    refine ((List.perm_middle).trans (List.Perm.cons _ ((List.perm_middle).trans (List.Perm.cons _ ?_)))).symm
    show (X ++ (H2 ++ B)).Perm ((X ++ H2) ++ B)
    rw [List.append_assoc]
  have hp0 : ((b, rootR m vn (.slice (some ⟨lb, so, none⟩) 8 cap)) :: (lb, .cells (List.toArray lc) 69 (0, 0)) :: H ++ B).Perm ((b, rootR m vn (.slice (some ⟨lb, so, none⟩) 8 cap)) :: (lb, .cells (List.toArray lc) 69 (0, 0)) :: (ob oq ++ H2) ++ B) := ((e4.append_right B).cons _).cons _
  refine wlAppendH (α := Stand) (o := oq) he (hC.permH (hp0.trans (hp _))) (hB.permH (hp0.trans (hp _))) hx hy e5 hS hb hby hd fun A c o1 o2 J w' k1 k2 ⟨J', kJ⟩ kc k3 k4 => ?_
  have hp2 : (ob o1 ++ (J ++ ((b, rootR m vn (.slice (some ⟨lb, so, none⟩) 8 cap)) :: (lb, .cells (List.toArray lc) 69 (0, 0)) :: (H2 ++ B)))).Perm ((b, rootR m vn (.slice (some ⟨lb, so, none⟩) 8 cap)) :: (lb, .cells (List.toArray lc) 69 (0, 0)) :: ((ob o1 ++ J) ++ H2) ++ B) := by
    rw [← List.append_assoc]; exact (hp _).symm
  have hj1 : RfL G R ((ob o1 ++ J) ++ H2) m.l := RfL.perm (RfL.junk0 (X := J) (e6 o1 k3)) (by rw [← List.append_assoc]; exact List.perm_append_comm.append_right _)
  have hN' : RfN G b _ m vn lb so cap lc R ((ob o1 ++ J) ++ H2) := ⟨ok, rfl, hn_, ho, hj1⟩
  have hE' : ∃ pv' cv' qv', RfE G ((b, rootR m vn (.slice (some ⟨lb, so, none⟩) 8 cap)) :: (lb, .cells (List.toArray lc) 69 (0, 0)) :: ((ob o1 ++ J) ++ H2)) R lb so i t pv' cv' qv' := hN'.row hi
  obtain ⟨pv', cv', qv', hE'⟩ := hE'
  obtain ⟨f1, f2, f3⟩ := hE'.rv r2 e1
  rw [← f1, ← f2, ← f3, hr1, hr2] at hE'
  refine h A c _ _ w' (k1.permH hp2) (k2.permH hp2) hN' hE' (fun r' t' h1 h2 => ?_) fun k hk => ?_
  · rw [hi] at h2; injection h2 with h2; subst h2
    rw [e1] at h1; injection h1 with h1; subst h1
    refine RfL.perm (RfL.junk0 (X := J') (e7 o2 _ _ k4)) ?_
    rw [← List.append_assoc]
    exact ((List.perm_append_comm.trans kJ.symm).append_right _)
  · have hk1 : k ∈ List.map (fun x => x.1) ((b, rootR m vn (.slice (some ⟨lb, so, none⟩) 8 cap)) :: (lb, .cells (List.toArray lc) 69 (0, 0)) :: (ob oq ++ H2)) := ((((e4.cons _).cons _).map (fun x : Nat × Obj => x.1)).mem_iff).1 hk
    simp only [List.map_cons, List.map_append, List.mem_cons, List.mem_append] at hk1 ⊢
    rcases hk1 with hk | hk | hk | hk
    · exact .inl hk
    · exact .inr (.inl hk)
    · exact .inr (.inr (.inl (.inl (kc k hk))))
    · exact .inr (.inr (.inr hk))
/-- L[i].Prepares[k] = y -/
theorem wlRfPre {y y1 : RVt} {k : Nat} {pv cv : Vs} {vq : Qv} (hN : RfN G b O m vn lb so cap lc R H) (hC : Cx w0 G0 G w ⟨K, O ++ B⟩) (hB : Bxs G w w0.heap.size bl ⟨K, O ++ B⟩) (hi : m.l[i]? = some t) (hk : t.pre[k]? = some y1) (hE : RfE G O R lb so i t pv cv vq)
    (hx : opv e x = some (.pointer (some ⟨pv.b, ad, none⟩))) (had : ad = 0 + k * 34) (hy : opv e y0 = some v) (ht : (P.info? ty2).map (·.size) = some 34) (hv : v.cells = y.cells.toArray) (hd : okD N d = true)
    (h : ∀ O' H' w', Cx w0 G0 G w' ⟨K, O' ++ B⟩ → Bxs G w' w0.heap.size bl ⟨K, O' ++ B⟩ → RfN G b O' (setL m i (RSlot.mk t.last (t.pre.set k y) t.com t.p t.q)) vn lb so cap lc R H' → WL P ops Q N rest (e.putO d undef) w') :
    WL P ops Q N (⟨d, .store ty2 x y0, ty, pos, af, none⟩ :: rest) e w := by
  obtain ⟨r, c1, H', h1, h2, h3, h4⟩ := hN.l.setPre hi
  obtain rfl := (hE.rv r h1).1
  obtain ⟨ok, rfl, hn_, ho, hl⟩ := hN
  have hp : ((b, rootR m vn (.slice (some ⟨lb, so, none⟩) 8 cap)) :: (lb, .cells (List.toArray lc) 69 (0, 0)) :: H ++ B).Perm ((b, rootR m vn (.slice (some ⟨lb, so, none⟩) 8 cap)) :: (lb, .cells (List.toArray lc) 69 (0, 0)) :: (r.pv.b, .cells c1.toArray 66 (0, 0)) :: (H' ++ B)) :=
    ((h2.append_right B).cons _).cons _
  obtain ⟨hC2, hB2⟩ := unhold (hC.permH hp) (hB.permH hp) (i := 2) rfl
  refine wlStoreOw (α := RVt) (bl := []) (r := bl) (off := 0) (y := y) hC2 hB2 h3 hk hx had hy ht hv (RVt.length_cells _) (List.all_eq_true.2 (Rp.one (α := RVt) (G := G) rfl)) (Nat.le_refl _) (fun row hr => by
    obtain rfl : row = y1.cells := hr
    show _ = y.cells
    rw [List.drop_of_length_le (by simp)]; simp) hd fun cs' w' k1 k2 k3 => ?_
  obtain ⟨hC3, hB3⟩ := hold k1 k2 (i := 0) rfl
  have hp2 : ((r.pv.b, Obj.cells cs'.toArray 66 (0, 0)) :: (b, rootR m vn (.slice (some ⟨lb, so, none⟩) 8 cap)) :: (lb, .cells (List.toArray lc) 69 (0, 0)) :: (H' ++ B)).Perm ((b, rootR m vn (.slice (some ⟨lb, so, none⟩) 8 cap)) :: (lb, .cells (List.toArray lc) 69 (0, 0)) :: ((r.pv.b, .cells cs'.toArray 66 (0, 0)) :: H') ++ B) :=
    (List.Perm.swap _ _ _).trans ((List.Perm.swap _ _ _).cons _)
  exact h _ _ w' (hC3.permH hp2) (hB3.permH hp2) ⟨ok.set hi (by simp) rfl (ok.q4 i t hi), rfl, hn_, ho, h4 cs' _ k3⟩
/-- L[i].Commits[k] = y -/
theorem wlRfCom {y y1 : RVt} {k : Nat} {pv cv : Vs} {vq : Qv} (hN : RfN G b O m vn lb so cap lc R H) (hC : Cx w0 G0 G w ⟨K, O ++ B⟩) (hB : Bxs G w w0.heap.size bl ⟨K, O ++ B⟩) (hi : m.l[i]? = some t) (hk : t.com[k]? = some y1) (hE : RfE G O R lb so i t pv cv vq)
    (hx : opv e x = some (.pointer (some ⟨cv.b, ad, none⟩))) (had : ad = 0 + k * 34) (hy : opv e y0 = some v) (ht : (P.info? ty2).map (·.size) = some 34) (hv : v.cells = y.cells.toArray) (hd : okD N d = true)
    (h : ∀ O' H' w', Cx w0 G0 G w' ⟨K, O' ++ B⟩ → Bxs G w' w0.heap.size bl ⟨K, O' ++ B⟩ → RfN G b O' (setL m i (RSlot.mk t.last t.pre (t.com.set k y) t.p t.q)) vn lb so cap lc R H' → WL P ops Q N rest (e.putO d undef) w') :
    WL P ops Q N (⟨d, .store ty2 x y0, ty, pos, af, none⟩ :: rest) e w := by
  obtain ⟨r, c1, H', h1, h2, h3, h4⟩ := hN.l.setCom hi
  obtain rfl := (hE.rv r h1).2.1
  obtain ⟨ok, rfl, hn_, ho, hl⟩ := hN
  have hp : ((b, rootR m vn (.slice (some ⟨lb, so, none⟩) 8 cap)) :: (lb, .cells (List.toArray lc) 69 (0, 0)) :: H ++ B).Perm ((b, rootR m vn (.slice (some ⟨lb, so, none⟩) 8 cap)) :: (lb, .cells (List.toArray lc) 69 (0, 0)) :: (r.cv.b, .cells c1.toArray 66 (0, 0)) :: (H' ++ B)) :=
    ((h2.append_right B).cons _).cons _
  obtain ⟨hC2, hB2⟩ := unhold (hC.permH hp) (hB.permH hp) (i := 2) rfl
  refine wlStoreOw (α := RVt) (bl := []) (r := bl) (off := 0) (y := y) hC2 hB2 h3 hk hx had hy ht hv (RVt.length_cells _) (List.all_eq_true.2 (Rp.one (α := RVt) (G := G) rfl)) (Nat.le_refl _) (fun row hr => by
    obtain rfl : row = y1.cells := hr
    show _ = y.cells
    rw [List.drop_of_length_le (by simp)]; simp) hd fun cs' w' k1 k2 k3 => ?_
  obtain ⟨hC3, hB3⟩ := hold k1 k2 (i := 0) rfl
  have hp2 : ((r.cv.b, Obj.cells cs'.toArray 66 (0, 0)) :: (b, rootR m vn (.slice (some ⟨lb, so, none⟩) 8 cap)) :: (lb, .cells (List.toArray lc) 69 (0, 0)) :: (H' ++ B)).Perm ((b, rootR m vn (.slice (some ⟨lb, so, none⟩) 8 cap)) :: (lb, .cells (List.toArray lc) 69 (0, 0)) :: ((r.cv.b, .cells cs'.toArray 66 (0, 0)) :: H') ++ B) :=
    (List.Perm.swap _ _ _).trans ((List.Perm.swap _ _ _).cons _)
  exact h _ _ w' (hC3.permH hp2) (hB3.permH hp2) ⟨ok.set hi rfl (by simp) (ok.q4 i t hi), rfl, hn_, ho, h4 cs' _ k3⟩
end
end Go.Proofs.YtljcgggflgbenaaGreatDoor
