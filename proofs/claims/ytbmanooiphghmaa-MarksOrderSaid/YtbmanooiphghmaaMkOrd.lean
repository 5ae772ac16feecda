/- The laws of MarksOrder. No condition. -/
import Derived.Test.YtbmanooiphghmaaMkRais
set_option linter.all false
set_option linter.unusedSimpArgs false
namespace Go.Proofs.Ytbmanooiphghmaa
open Go Go.Gx
/-! ### In which order nodes are heard -/
def ofM (m : MSt) (n : Int) : List Mark := (mget m.list n).getD []
def wM (w : Word) : Mark := markI w.seq w.b
structure OkW (w : Word) : Prop where
  n : 1 ≤ w.node ∧ w.node ≤ 4
  s : 1 ≤ w.seq ∧ w.seq ≤ 4
theorem ord_word (a c : Int) (b : UInt8) : OkW ⟨IntKind.wrap .i64 (1 + bringI a 4), IntKind.wrap .i64 (1 + bringI c 4), b⟩ := by
  have h1 : 0 ≤ bringI a 4 ∧ bringI a 4 < 4 := bring_rng a (m := 4) (by decide) (by decide)
  have h2 : 0 ≤ bringI c 4 ∧ bringI c 4 < 4 := bring_rng c (m := 4) (by decide) (by decide)
  refine ⟨?_, ?_⟩ <;> show 1 ≤ IntKind.wrap .i64 _ ∧ IntKind.wrap .i64 _ ≤ 4 <;> rw [IntWalk.i64_in _ (by omega)] <;> omega
structure OrdJ (m : MSt) (L : List Word) : Prop where
  crew : m.crew = crewI 1
  low : m.low = ⟨0, Dig.zero⟩
  good : MGood m
  ok : ∀ w ∈ L, OkW w
  of : ∀ n y, y ∈ ofM m n ↔ ∃ w ∈ L, w.node = n ∧ y = wM w
theorem ord_new : OrdJ ⟨crewI 1, ⟨0, Dig.zero⟩, []⟩ [] :=
  ⟨rfl, rfl, ⟨fun p hp => (List.not_mem_nil hp).elim, .nil, fun p hp => (List.not_mem_nil hp).elim⟩, fun w hw => (List.not_mem_nil hw).elim, fun n y => by simp [ofM, mget]⟩
theorem OrdJ.ext {m : MSt} {L L' : List Word} (h : OrdJ m L) (he : ∀ w, w ∈ L ↔ w ∈ L') : OrdJ m L' :=
  ⟨h.crew, h.low, h.good, fun w hw => h.ok w ((he w).2 hw), fun n y => by
    rw [h.of n y]
    exact ⟨fun ⟨w, hw, r⟩ => ⟨w, (he w).1 hw, r⟩, fun ⟨w, hw, r⟩ => ⟨w, (he w).2 hw, r⟩⟩⟩
theorem ris_four {l : List Mark} (h : Ris l) (hs : ∀ y ∈ l, 1 ≤ y.seq ∧ y.seq ≤ 4) : l.length ≤ 4 := by
  have hn : (l.map (·.seq)).Nodup := by
    unfold List.Nodup
    rw [List.pairwise_map]
    exact h.imp (fun h => by omega)
  have := nodup_sub (l := l.map (·.seq)) (l' := [1, 2, 3, 4]) hn (fun k hk => by
    obtain ⟨y, hy, rfl⟩ := List.mem_map.1 hk
    have := hs y hy
    simp only [List.mem_cons, List.not_mem_nil, or_false]; omega)
  simpa using this
theorem ris_same {l : List Mark} (h : Ris l) {a b : Mark} (ha : a ∈ l) (hb : b ∈ l) (hs : a.seq = b.seq) : a = b := by
  obtain ⟨i, hi, rfl⟩ := List.mem_iff_getElem.1 ha
  obtain ⟨j, hj, rfl⟩ := List.mem_iff_getElem.1 hb
  rcases Nat.lt_trichotomy i j with hij | rfl | hij
  · have := (List.pairwise_iff_getElem.1 h) i j hi hj hij; omega
  · rfl
  · have := (List.pairwise_iff_getElem.1 h) j i hj hi hij; omega
theorem ris_ext : ∀ {l l' : List Mark}, Ris l → Ris l' → (∀ y, y ∈ l ↔ y ∈ l') → l = l'
  | [], [], _, _, _ => rfl
  | [], a :: r, _, _, h => by have := (h a).2 (by simp); simp at this
  | a :: r, [], _, _, h => by have := (h a).1 (by simp); simp at this
  | a :: r, b :: s, h1, h2, h => by
    have g1 := List.pairwise_cons.1 h1
    have g2 := List.pairwise_cons.1 h2
    have hab : a = b := by
      have ha := (h a).1 (by simp)
      have hb := (h b).2 (by simp)
      rcases List.mem_cons.1 ha with e | ha
      · exact e
      · rcases List.mem_cons.1 hb with e | hb
        · exact e.symm
        · have := g1.1 b hb; have := g2.1 a ha; omega
    subst hab
    congr 1
    refine ris_ext g1.2 g2.2 (fun y => ⟨fun hy => ?_, fun hy => ?_⟩)
    · rcases List.mem_cons.1 ((h y).1 (List.mem_cons_of_mem _ hy)) with e | h3
      · have := g1.1 y hy; rw [e] at this; omega
      · exact h3
    · rcases List.mem_cons.1 ((h y).2 (List.mem_cons_of_mem _ hy)) with e | h3
      · have := g2.1 y hy; rw [e] at this; omega
      · exact h3
theorem bfF_iff {l : List Mark} (hp : Ris l) (t : Int) : bfF (fun g_x0 g_x1 => cmpI g_x0.seq g_x1) l t = true ↔ ∃ y ∈ l, y.seq = t ∧ l.getD (bI l t) default = y := by
  obtain ⟨h1, h2, h3⟩ := bI_split hp t
  have hcmp : ∀ a b : Int, cmpI a b = 0 ↔ a = b := fun a b => by unfold cmpI; (repeat split) <;> omega
  constructor
  · intro h
    have hlt := bfF_lt h
    unfold bfF at h
    rw [Bool.and_eq_true, beq_iff_eq] at h
    have h2 := (hcmp _ _).1 h.2
    refine ⟨l.getD (bI l t) default, ?_, h2, rfl⟩
    rw [List.getD_eq_getElem?_getD, List.getElem?_eq_getElem hlt]
    exact List.getElem_mem hlt
  · rintro ⟨y, hy, hs, hg⟩
    have hlt : bI l t < l.length := by
      rcases Nat.lt_or_ge (bI l t) l.length with h | h
      · exact h
      · have : y ∈ l.take (bI l t) := by rw [List.take_of_length_le h]; exact hy
        have := h1 y this; omega
    unfold bfF
    rw [Bool.and_eq_true, beq_iff_eq, hcmp]
    refine ⟨decide_eq_true hlt, ?_⟩
    show (l.getD (bI l t) default).seq = t
    rw [hg]; exact hs
/-- What a vote comes to, where nothing is cut off. -/
theorem ord_vote {m : MSt} {L : List Word} (h : OrdJ m L) {w : Word} (hw : OkW w) :
    ((∀ y ∈ ofM m w.node, y.seq = w.seq → y = wM w) → (voteM m w.node (wM w)).2 = 0) ∧ ((voteM m w.node (wM w)).2 = 0 → OrdJ (voteM m w.node (wM w)).1 (L ++ [w])) ∧ (¬ (voteM m w.node (wM w)).2 = 0 → OrdJ (voteM m w.node (wM w)).1 L) := by
  have hR : Ris (ofM m w.node) := h.good.get w.node
  have e1 : has m.crew w.node = true := by
    have hm : w.node ∈ (crewI 1).nodes := by
      obtain ⟨h1, h2⟩ := hw.n
      have : w.node = 1 ∨ w.node = 2 ∨ w.node = 3 ∨ w.node = 4 := by omega
      rcases this with e | e | e | e <;> rw [e] <;> decide
    rw [h.crew]; exact (has_iff (by decide) _).2 hm
  have e2 : decide ((wM w).seq ≤ m.low.seq) = false := by
    rw [h.low]; exact decide_eq_false (by show ¬ w.seq ≤ 0; have := hw.s; omega)
  have e3 : mayB (wM w).seq = true := by
    have hs := hw.s
    show (decide (0 ≤ w.seq) && decide (w.seq ≤ 9007199254740991)) = true
    rw [decide_eq_true (by omega : (0 : Int) ≤ w.seq), decide_eq_true (by omega : w.seq ≤ (9007199254740991 : Int))]; rfl
  have hsame : ∀ x, x ∈ L ++ [w] ↔ x ∈ L ∨ x = w := fun x => by simp
  have hv := mgood_vote h.good w.node (wM w)
  have hc := vote_crew m w.node (wM w)
  revert hv hc
  unfold voteM
  simp only [e1, e2, e3, Bool.not_true, cond_false]
  have hof : (mget m.list w.node).getD [] = ofM m w.node := rfl
  rw [hof]
  cases hb : bfF (fun g_x0 g_x1 => cmpI g_x0.seq g_x1) (ofM m w.node) (wM w).seq with
  | true =>
    intro hv hc
    simp only [cond_true]
    obtain ⟨y, hy, hys, hyg⟩ := (bfF_iff hR _).1 hb
    have hyg' : (ofM m w.node).getD (bfI (fun a => decide (cmpI a.seq (wM w).seq < 0)) (ofM m w.node)) default = y := hyg
    rw [hyg']
    refine ⟨fun hall => ?_, fun h0 => ?_, fun _ => h⟩
    · rw [hall y hy hys]; simp
    · have hyw : y = wM w := by
        cases hd : decide (y = wM w) with
        | true => exact of_decide_eq_true hd
        | false => rw [hd] at h0; simp at h0
      refine ⟨h.crew, h.low, h.good, fun x hx => ?_, fun n z => ?_⟩
      · rcases (hsame x).1 hx with hx | rfl
        · exact h.ok x hx
        · exact hw
      · rw [h.of n z]
        constructor
        · rintro ⟨x, hx, r⟩; exact ⟨x, (hsame x).2 (.inl hx), r⟩
        · rintro ⟨x, hx, r1, r2⟩
          rcases (hsame x).1 hx with hx | rfl
          · exact ⟨x, hx, r1, r2⟩
          · have := (h.of x.node y).1 hy
            obtain ⟨v, v1, v2, v3⟩ := this
            exact ⟨v, v1, v2.trans r1, by rw [r2, ← hyw, v3]⟩
  | false =>
    simp only [cond_false]
    intro hv hc
    refine ⟨fun _ => trivial, fun _ => ?_, fun hn => (hn trivial).elim⟩
    have hRi := insA_ris hR hb
    have hseq : ∀ y ∈ insA (ofM m w.node) (bI (ofM m w.node) (wM w).seq) (wM w), 1 ≤ y.seq ∧ y.seq ≤ 4 := by
      intro y hy
      rcases insA_mem.1 hy with rfl | hy
      · exact hw.s
      · obtain ⟨x, hx, _, rfl⟩ := (h.of _ _).1 hy
        exact (h.ok x hx).s
    have h4 := ris_four hRi hseq
    have hcut : cut4 (insA (ofM m w.node) (bI (ofM m w.node) (wM w).seq) (wM w)) = insA (ofM m w.node) (bI (ofM m w.node) (wM w).seq) (wM w) := by
      unfold cut4
      rw [show (insA (ofM m w.node) (bI (ofM m w.node) (wM w).seq) (wM w)).length - 4 = 0 by omega]; rfl
    refine ⟨h.crew, h.low, hv, fun x hx => ?_, fun n z => ?_⟩
    · rcases (hsame x).1 hx with hx | rfl
      · exact h.ok x hx
      · exact hw
    · show z ∈ (mget (mput m.list w.node (cut4 (insA (ofM m w.node) (bI (ofM m w.node) (wM w).seq) (wM w)))) n).getD [] ↔ _
      rw [mget_mput, hcut]
      by_cases hn : w.node = n
      · subst hn
        rw [if_pos rfl, Option.getD_some, insA_mem, h.of]
        constructor
        · rintro (rfl | ⟨x, hx, r⟩)
          · exact ⟨w, (hsame w).2 (.inr rfl), rfl, rfl⟩
          · exact ⟨x, (hsame x).2 (.inl hx), r⟩
        · rintro ⟨x, hx, r1, r2⟩
          rcases (hsame x).1 hx with hx | rfl
          · exact .inr ⟨x, hx, r1, r2⟩
          · exact .inl r2
      · rw [if_neg hn]
        show z ∈ ofM m n ↔ _
        rw [h.of]
        constructor
        · rintro ⟨x, hx, r⟩; exact ⟨x, (hsame x).2 (.inl hx), r⟩
        · rintro ⟨x, hx, r1, r2⟩
          rcases (hsame x).1 hx with hx | rfl
          · exact ⟨x, hx, r1, r2⟩
          · exact (hn r1).elim
section
variable {a b : MSt} {fit : List Word} {q : Nat} {w : Word}
/-- The second time nothing is refused. -/
theorem ord_zero (ha : OrdJ a fit) (hb : OrdJ b (fit.drop (q + 1))) (hw : fit[q]? = some w) : (voteM b w.node (markI w.seq w.b)).2 = 0 := by
  have hwm := List.mem_of_getElem? hw
  refine (ord_vote hb (ha.ok w hwm)).1 (fun y hy hs => ?_)
  obtain ⟨x, hx, h1, rfl⟩ := (hb.of _ _).1 hy
  have hxa : wM x ∈ ofM a w.node := (ha.of _ _).2 ⟨x, List.mem_of_mem_drop hx, h1, rfl⟩
  have hwa : wM w ∈ ofM a w.node := (ha.of _ _).2 ⟨w, hwm, rfl, rfl⟩
  exact ris_same (ha.good.get w.node) hxa hwa hs
theorem ord_back (ha : OrdJ a fit) (hb : OrdJ b (fit.drop (q + 1))) (hw : fit[q]? = some w) : OrdJ (voteM b w.node (markI w.seq w.b)).1 (fit.drop q) := by
  have h0 := ord_zero ha hb hw
  have := (ord_vote hb (ha.ok w (List.mem_of_getElem? hw))).2.1 h0
  refine this.ext (fun x => ?_)
  have hlt := (List.getElem?_eq_some_iff.1 hw).1
  have he : fit[q] = w := (List.getElem?_eq_some_iff.1 hw).2
  rw [List.drop_eq_getElem_cons hlt, he]
  simp only [List.mem_append, List.mem_cons, List.not_mem_nil, or_false]
  exact or_comm
theorem ord_eq (ha : OrdJ a fit) (hb : OrdJ b (fit.drop 0)) (many : Int) : gR (lists a) many = gR (lists b) many := by
  have hof : ∀ n, ofM a n = ofM b n := fun n => ris_ext (ha.good.get n) (hb.good.get n) (fun y => by rw [ha.of, hb.of]; simp)
  refine gR_cnt (fun x => ?_) many
  have s : ∀ m : MSt, MGood m → m.crew = crewI 1 → cntL (lists m) x = ((crewI 1).nodes.map (fun n => (ofM m n).countP (fun y => decide (y = x)))).sum := by
    intro m hm hc
    have e1 := sum_by (g := fun l => l.countP (fun y => decide (y = x))) rfl m.list (crewI 1).nodes hm.nd (check_nodup (by decide)) (fun p hp => by rw [← hc]; exact (hm.im p hp).2)
    unfold cntL lists
    rw [List.map_map]
    exact e1.symm
  rw [s a ha.good ha.crew, s b hb.good hb.crew]
  congr 1
  apply List.map_congr_left
  intro n _
  rw [hof n]
theorem ord_step (h : OrdJ a fit) {x y : Int} {c : UInt8} (hz : ((voteM a (IntKind.wrap .i64 (1 + bringI x 4)) (markI (IntKind.wrap .i64 (1 + bringI y 4)) c)).2 == 0) = true) :
    OrdJ (voteM a (IntKind.wrap .i64 (1 + bringI x 4)) (markI (IntKind.wrap .i64 (1 + bringI y 4)) c)).1 (fit ++ [⟨IntKind.wrap .i64 (1 + bringI x 4), IntKind.wrap .i64 (1 + bringI y 4), c⟩]) :=
  (ord_vote h (ord_word x y c)).2.1 (by have := beq_iff_eq.1 hz; exact this)
theorem ord_stay (h : OrdJ a fit) {x y : Int} {c : UInt8} (hz : ((voteM a (IntKind.wrap .i64 (1 + bringI x 4)) (markI (IntKind.wrap .i64 (1 + bringI y 4)) c)).2 == 0) = false) :
    OrdJ (voteM a (IntKind.wrap .i64 (1 + bringI x 4)) (markI (IntKind.wrap .i64 (1 + bringI y 4)) c)).1 fit :=
  (ord_vote h (ord_word x y c)).2.2 (fun h0 => by have h1 := beq_iff_eq.2 h0; rw [show (voteM a (IntKind.wrap .i64 (1 + bringI x 4)) (wM ⟨IntKind.wrap .i64 (1 + bringI x 4), IntKind.wrap .i64 (1 + bringI y 4), c⟩)) = voteM a (IntKind.wrap .i64 (1 + bringI x 4)) (markI (IntKind.wrap .i64 (1 + bringI y 4)) c) from rfl, hz] at h1; cases h1)
theorem ord_last {n : Nat} (h : n ≤ 100) : IntKind.wrap .i64 (((n : Nat) : Int) - 1) = ((n : Nat) : Int) - 1 := IntWalk.i64_in _ (by omega)
end
end Go.Proofs.Ytbmanooiphghmaa
