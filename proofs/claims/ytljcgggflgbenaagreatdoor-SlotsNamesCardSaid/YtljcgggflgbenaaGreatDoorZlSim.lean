/- Words in maps against votes in lists. No condition. -/
import Derived.Test.YtljcgggflgbenaaGreatDoorZlRef3
set_option linter.all false
namespace Go.Proofs.YtljcgggflgbenaaGreatDoor
open Go Go.Gx Go.RowKit
theorem set_get' {m : RfS} {i j : Nat} {t u : RSlot} (h : (setL m i t).l[j]? = some u) : (i = j ∧ u = t) ∨ (i ≠ j ∧ m.l[j]? = some u) := by
  have h : (m.l.set i t)[j]? = some u := h
  rw [List.getElem?_set] at h
  split at h
  · rename_i hij
    split at h
    · injection h with h; exact .inl ⟨hij, h.symm⟩
    · cases h
  · rename_i hij; exact .inr ⟨hij, h⟩
/-- A word and a vote. -/
def WV (w : Wd) (x : RVt) : Prop := (x.has = false ∧ w = silence) ∨ (x.has = true ∧ w = Wd.mk x.view x.dig ∧ 0 ≤ x.view)
theorem viewB_nn {v : Int} (h : viewB v = true) : 0 ≤ v := by
  unfold viewB at h; simp at h; exact h.1
theorem WV.goes {w : Wd} {x : RVt} {v : Int} {d : Dig} (h : WV w x) (hv : 0 ≤ v) : goesI w v d = saidI x v d := by
  rcases h with ⟨h1, rfl⟩ | ⟨h1, rfl, h3⟩
  · unfold goesI saidI
    rw [h1]
    have e1 : decide (v < silence.view) = false := decide_eq_false (by show ¬ v < -1; omega)
    have e2 : (silence.view == v) = false := by
      have : silence.view ≠ v := by show (-1 : Int) ≠ v; omega
      simpa using this
    rw [e1, e2]; rfl
  · unfold goesI saidI
    rw [h1]; simp
theorem WV.has {w : Wd} {x : RVt} (h : WV w x) : decide (w = silence) = !x.has := by
  rcases h with ⟨h1, rfl⟩ | ⟨h1, rfl, h3⟩
  · rw [h1]; rfl
  · rw [h1]
    refine decide_eq_false fun e => ?_
    have := congrArg Wd.view e
    have : x.view = -1 := this
    omega
/-- A map of words and a list of votes, by the crew's order. -/
structure MV (nodes : List Int) (m : List (Int × Wd)) (l : List RVt) : Prop where
  nd : (m.map (·.1)).Nodup
  sub : ∀ n ∈ m.map (·.1), n ∈ nodes
  len : l.length = nodes.length
  at_ : ∀ (j : Nat) (n : Int) (x : RVt), nodes[j]? = some n → l[j]? = some x → (x.has = false ∧ mget m n = none) ∨ (x.has = true ∧ mget m n = some (Wd.mk x.view x.dig) ∧ 0 ≤ x.view)
theorem MV.nil_ (nodes : List Int) : MV nodes [] (List.replicate nodes.length (RVt.mk false 0 Dig.zero)) :=
  ⟨by simp, by simp, by simp, fun j n x h1 h2 => .inl ⟨(by
    rw [List.getElem?_replicate] at h2; split at h2
    · injection h2 with h2; rw [← h2]
    · cases h2), rfl⟩⟩
theorem MV.says {nodes : List Int} {m : List (Int × Wd)} {l : List RVt} {j : Nat} {n v : Int} {x : RVt} {d : Dig} (h : MV nodes m l) (hn : nodes[j]? = some n) (hx : l[j]? = some x) (hv : 0 ≤ v) : saysI m n v d = saidI x v d := by
  rcases h.at_ j n x hn hx with ⟨h1, h2⟩ | ⟨h1, h2, h3⟩
  · unfold saysI saidI; rw [h2, h1]; rfl
  · unfold saysI wordOf; rw [h2]
    exact WV.goes (.inr ⟨h1, rfl, h3⟩) hv
theorem nodup_at {l : List Int} (h : l.Nodup) {i j : Nat} {x : Int} (hi : l[i]? = some x) (hj : l[j]? = some x) : i = j := by
  exact (List.getElem?_inj (List.getElem?_eq_some_iff.1 hi).1 h).1 (hi.trans hj.symm)
theorem MV.put {nodes : List Int} {m : List (Int × Wd)} {l : List RVt} {j : Nat} {n v : Int} {d : Dig} (h : MV nodes m l) (hnd : nodes.Nodup) (hn : nodes[j]? = some n) (hv : 0 ≤ v) : MV nodes (mput m n (Wd.mk v d)) (l.set j (RVt.mk true v d)) := by
  refine ⟨mput_nodup _ _ h.nd, fun k hk => ?_, by rw [List.length_set]; exact h.len, fun i k x hi hx => ?_⟩
  · obtain ⟨y, hy⟩ := mget_isSome.2 hk
    rw [mget_mput] at hy
    split at hy
    · rename_i e; subst e; exact List.mem_of_getElem? hn
    · exact h.sub k (mget_isSome.1 ⟨y, hy⟩)
  · rw [mget_mput]
    rw [List.getElem?_set] at hx
    split at hx
    · rename_i e; subst e
      split at hx
      · injection hx with hx; subst hx
        rw [hn] at hi; injection hi with hi
        exact .inr ⟨rfl, by rw [if_pos hi], hv⟩
      · cases hx
    · rename_i e
      rw [if_neg (fun e2 : n = k => e (nodup_at hnd hn (by rw [e2]; exact hi)))]
      exact h.at_ i k x hi hx
theorem MV.keys {nodes : List Int} {m : List (Int × Wd)} {l : List RVt} {f : Int → Bool} (h : MV nodes m l) (hnd : nodes.Nodup) (hf : ∀ k, f k = true → ∃ y, mget m k = some y) : (m.map (·.1)).countP f = nodes.countP f := by
  rw [List.countP_eq_length_filter, List.countP_eq_length_filter]
  refine List.Perm.length_eq ((List.perm_ext_iff_of_nodup (h.nd.sublist (List.filter_sublist)) (hnd.sublist (List.filter_sublist))).2 fun a => ?_)
  rw [List.mem_filter, List.mem_filter]
  exact ⟨fun ⟨h1, h2⟩ => ⟨h.sub a h1, h2⟩, fun ⟨_, h2⟩ => ⟨mget_isSome.1 (hf a h2), h2⟩⟩
theorem MV.votes {nodes : List Int} {m : List (Int × Wd)} {l : List RVt} {v wo : Int} {d : Dig} (h : MV nodes m l) : ∀ k, k ≤ nodes.length → votesR nodes l v d wo k = (nodes.take k).countP (fun n => decide (mget m n = some (Wd.mk v d)) && (n != wo))
  | 0, _ => by simp [votesR]
  | k + 1, hk => by
    have hn := List.getElem?_eq_getElem (l := nodes) (i := k) (by omega)
    have hx := List.getElem?_eq_getElem (l := l) (i := k) (by rw [h.len]; omega)
    generalize nodes[k] = n at hn
    generalize l[k]'(by rw [h.len]; omega) = x at hx
    have ih := h.votes (v := v) (wo := wo) (d := d) k (by omega)
    unfold votesR
    rw [ih, List.take_add_one, hn, List.countP_append, List.getD_eq_getElem?_getD, List.getD_eq_getElem?_getD, hn, hx]
    congr 1
    simp only [Option.getD_some, Option.toList_some, List.countP_cons, List.countP_nil, Nat.zero_add]
    rcases h.at_ k n x hn hx with ⟨h1, h2⟩ | ⟨h1, h2, h3⟩
    · rw [h1, h2]; simp
    · rw [h1, h2]
      have e : decide (some (Wd.mk x.view x.dig) = some (Wd.mk v d)) = ((x.view == v) && decide (x.dig = d)) := by
        rw [Bool.eq_iff_iff]; simp
      rw [e, Bool.true_and]
      cases (x.view == v) && decide (x.dig = d) && n != wo <;> rfl
theorem MV.count {nodes : List Int} {m : List (Int × Wd)} {l : List RVt} {v wo : Int} {d : Dig} (h : MV nodes m l) (hnd : nodes.Nodup) :
    (m.map (·.1)).countP (fun n => decide (mget m n = some (Wd.mk v d)) && (n != wo)) = votesR nodes l v d wo l.length := by
  rw [h.votes _ (by rw [h.len]; exact Nat.le_refl _), h.len, List.take_length]
  exact h.keys hnd fun k hk => by
    simp at hk; exact ⟨_, hk.1⟩
/-- A number's slot, in both. -/
structure ST (nodes : List Int) (a : SlotS) (t : RSlot) : Prop where
  last : WV a.last t.last
  prep : WV a.prep t.p
  pre : MV nodes a.pre t.pre
  com : MV nodes a.com t.com
  q : a.q = t.q
theorem ST.ready {c : Crew} {a : SlotS} {t : RSlot} (h : ST c.nodes a t) (hnd : c.nodes.Nodup) (hs : c.nodes.length ≤ 7) :
    readyI c a = (t.last.has && decide (IntKind.wrap .i64 (2 * c.faults) ≤ ((votesR c.nodes t.pre t.last.view t.last.dig (leaderI c t.last.view) t.pre.length : Nat) : Int))) := by
  unfold readyI
  rw [h.last.has]
  rcases h.last with ⟨h1, h2⟩ | ⟨h1, h2, h3⟩
  · rw [h1]; rfl
  · rw [h1, Bool.not_true, cond_false, Bool.true_and]
    have hc : cntK a (leaderI c a.last.view) (a.pre.map (·.1)) = votesR c.nodes t.pre t.last.view t.last.dig (leaderI c t.last.view) t.pre.length := by
      unfold cntK; rw [h2]; exact h.pre.count hnd
    have hle := votesR_le c.nodes t.pre t.last.view t.last.dig (leaderI c t.last.view) t.pre.length
    have hl := h.pre.len
    rw [hc, IntWalk.i64_in ((votesR c.nodes t.pre t.last.view t.last.dig (leaderI c t.last.view) t.pre.length : Nat) : Int) (by omega)]
theorem nodeB_pos' {n : Int} (h : nodeB n = true) : 1 ≤ n := by
  unfold nodeB at h; simp at h; exact h.1
/-- What slots come to, in both. -/
structure Sim (s : SlS) (m : RfS) : Prop where
  crew : m.crew = s.crew
  low : m.low = s.low
  ok : RfOk m
  nd : m.crew.nodes.Nodup
  len : m.crew.nodes.length ≤ 7
  pos : ∀ n ∈ m.crew.nodes, 1 ≤ n
  none_ : ∀ k, s.f k = none ↔ ¬ (m.low < k ∧ k ≤ m.low + 8)
  at_ : ∀ (i : Nat) (t : RSlot), m.l[i]? = some t → ∃ a, s.f (m.low + 1 + i) = some a ∧ ST m.crew.nodes a t
theorem Sim.two {s : SlS} {m : RfS} {k : Int} (h : Sim s m) (hk : I6 k) : (s.f k = none ∧ inR m k = false) ∨ ∃ a t, s.f k = some a ∧ inR m k = true ∧ m.l[ixR m k]? = some t ∧ slR m (ixR m k) = t ∧ ST m.crew.nodes a t ∧ k = m.low + 1 + ((ixR m k : Nat) : Int) := by
  cases hi : inR m k with
  | false =>
    refine .inl ⟨(h.none_ k).2 fun hc => ?_, rfl⟩
    rw [inR_of h.ok hc.1 hc.2] at hi; cases hi
  | true =>
    right
    have hs := inR_iff h.ok hk hi
    have e : k = m.low + 1 + ((ixR m k : Nat) : Int) := by unfold ixR; omega
    have ht := List.getElem?_eq_getElem (ixR_lt h.ok hk hi)
    obtain ⟨a, h1, h2⟩ := h.at_ _ _ ht
    exact ⟨a, _, by rw [e]; exact h1, rfl, ht, slR_eq ht, h2, e⟩
theorem Sim.put {s : SlS} {m : RfS} {i : Nat} {t t' : RSlot} {a : SlotS} (h : Sim s m) (hi : m.l[i]? = some t) (hs : ST m.crew.nodes a t') (hq : t'.q.length ≤ 4) :
    Sim (SlS.mk s.crew s.low (upd s.f (m.low + 1 + i) a)) (setL m i t') := by
  have hok : RfOk (setL m i t') := by
    refine h.ok.set hi ?_ ?_ hq
    · rw [hs.pre.len, h.ok.pre i t hi]
    · rw [hs.com.len, h.ok.com i t hi]
  refine ⟨h.crew, h.low, hok, h.nd, h.len, h.pos, fun k => ?_, fun j u hu => ?_⟩
  · have hn := h.none_ k
    show (upd s.f (m.low + 1 + i) a) k = none ↔ ¬ (m.low < k ∧ k ≤ m.low + 8)
    unfold upd
    split
    · rename_i e; subst e
      obtain ⟨b, hb, _⟩ := h.at_ i t hi
      rw [hb] at hn
      exact ⟨fun hc => (nomatch hc), fun hc => absurd (hn.2 hc) (by simp)⟩
    · exact hn
  · show ∃ b, upd s.f (m.low + 1 + i) a (m.low + 1 + j) = some b ∧ ST m.crew.nodes b u
    unfold upd
    rcases set_get' hu with ⟨rfl, rfl⟩ | ⟨h1, h3⟩
    · exact ⟨a, by rw [if_pos rfl], hs⟩
    · rw [if_neg (by omega)]; exact h.at_ j u h3
/-! ### What looks -/
theorem Sim.prep' {s : SlS} {m : RfS} {i : Nat} {t : RSlot} {a : SlotS} (h : Sim s m) (ht : slR m i = t) (hs : ST m.crew.nodes a t) : prepR m i = readyI s.crew a := by
  rw [← h.crew, hs.ready h.nd h.len]
  unfold prepR
  rw [show m.l.getD i default = t from ht]
theorem Sim.prepared {s : SlS} {m : RfS} {k : Int} (h : Sim s m) (hk : I6 k) : preparedR m k = preparedI s k := by
  unfold preparedR preparedI
  rcases h.two hk with ⟨h1, h2⟩ | ⟨a, t, h1, h2, h3, h4, h5, h6⟩
  · rw [h1, h2]; rfl
  · rw [h1, h2, Bool.true_and]; exact h.prep' h4 h5
theorem Sim.at' {s : SlS} {m : RfS} {k : Int} (h : Sim s m) (hk : I6 k) : atR m k = atI s k := by
  unfold atR atI
  rcases h.two hk with ⟨h1, h2⟩ | ⟨a, t, h1, h2, h3, h4, h5, h6⟩
  · rw [h1, h2]; rfl
  · rw [h1, h2, show m.l.getD (ixR m k) default = t from h4]
    show (bif !true || !t.last.has then _ else _) = (bif decide (a.last = silence) then _ else _)
    rw [h5.last.has]
    rcases h5.last with ⟨e1, e2⟩ | ⟨e1, e2, e3⟩
    · rw [e1]; rfl
    · rw [e1, e2]; rfl
theorem Sim.committed {s : SlS} {m : RfS} {k : Int} (h : Sim s m) (hk : I6 k) : committedR m k = committedI s k := by
  unfold committedR committedI
  rw [h.prepared hk]
  unfold preparedI
  rcases h.two hk with ⟨h1, h2⟩ | ⟨a, t, h1, h2, h3, h4, h5, h6⟩
  · rw [h1]; rfl
  · rw [h1, show m.l.getD (ixR m k) default = t from h4]
    show (readyI s.crew a && _) = (bif !readyI s.crew a then false else _)
    cases hr : readyI s.crew a with
    | false => rfl
    | true =>
      rw [Bool.true_and, Bool.not_true, cond_false, h.crew]
      rcases h5.last with ⟨e1, e2⟩ | ⟨e1, e2, e3⟩
      · rw [← h.crew, h5.ready h.nd h.len, e1] at hr; cases hr
      · have hc : cntC a (a.com.map (·.1)) = votesR s.crew.nodes t.com t.last.view t.last.dig 0 t.com.length := by
          rw [← h.crew, ← h5.com.count h.nd]
          unfold cntC
          rw [e2]
          refine List.countP_congr fun n hn => ?_
          have hne : (n != 0) = true := by
            have hm := h5.com.sub n hn
            have := h.pos n hm
            simp; omega
          rw [hne, Bool.and_true]
        have hle := votesR_le s.crew.nodes t.com t.last.view t.last.dig 0 t.com.length
        have hl := h5.com.len
        have h7 := h.len
        rw [hc, IntWalk.i64_in ((votesR s.crew.nodes t.com t.last.view t.last.dig 0 t.com.length : Nat) : Int) (by omega)]
/-! ### What turns -/
theorem plc {n : Int} : ∀ {l : List Int} (k : Nat), 0 ≤ idxG (fun y => y == n) l k → l[(idxG (fun y => y == n) l k).toNat - k]? = some n
  | [], k, h => by exfalso; exact absurd h (by show ¬ (0 : Int) ≤ -1; decide)
  | x :: r, k, h => by
    unfold idxG at h ⊢
    cases hx : x == n with
    | true => rw [hx] at h; simp only [cond_true, Int.toNat_natCast, Nat.sub_self, List.getElem?_cons_zero]; rw [eq_of_beq hx]
    | false =>
      rw [hx] at h
      simp only [cond_false] at h ⊢
      have ih := plc (l := r) (k + 1) h
      rcases idxG_ge (p := fun y => y == n) r (k + 1) with ⟨h1, _⟩ | ⟨i, h1, h2, _, _⟩
      · rw [h1] at h; exact absurd h (by decide)
      · rw [h2, Int.toNat_natCast] at ih ⊢
        rw [show i - k = (i - (k + 1)) + 1 from by omega, List.getElem?_cons_succ]; exact ih
theorem upd2 {f : Int → Option SlotS} {k : Int} {a b : SlotS} : upd (upd f k a) k b = upd f k b := by
  funext x; unfold upd; split <;> rfl
theorem Sim.look' {s : SlS} {m : RfS} {i : Nat} {t : RSlot} {a : SlotS} (h : Sim s m) (hi : m.l[i]? = some t) (ha : s.f (m.low + 1 + i) = some a) (hs : ST m.crew.nodes a t) :
    Sim (SlS.mk s.crew s.low (upd s.f (m.low + 1 + i) (lookS s.crew a))) (lookR m i) := by
  unfold lookS lookR
  rw [h.prep' (slR_eq hi) hs]
  cases readyI s.crew a with
  | false => simp only [cond_false]; rw [slS_self ha]; exact h
  | true =>
    simp only [cond_true]
    rw [slR_eq hi]
    exact h.put hi ⟨hs.last, hs.last, hs.pre, hs.com, hs.q⟩ (h.ok.q4 i t hi)
theorem Sim.place {s : SlS} {m : RfS} {n : Int} (h : Sim s m) (hc : has s.crew n = m.crew.nodes.any (fun y => y == n)) : (decide (plR m n < 0) = true ∧ has s.crew n = false) ∨ (decide (plR m n < 0) = false ∧ has s.crew n = true ∧ m.crew.nodes[(plR m n).toNat]? = some n) := by
  unfold plR
  rw [hc]
  cases hd : decide (idxG (fun y => y == n) m.crew.nodes 0 < 0) with
  | true =>
    refine .inl ⟨rfl, ?_⟩
    rcases idxG_ge (p := fun y => y == n) m.crew.nodes 0 with ⟨h1, h2⟩ | ⟨i, h1, h2, h3, h4⟩
    · rw [List.any_eq_false]; intro x hx; simpa using h2 x hx
    · have := of_decide_eq_true hd; omega
  | false =>
    right
    have hp := plc (l := m.crew.nodes) (n := n) 0 (by have := of_decide_eq_false hd; omega)
    refine ⟨rfl, ?_, ?_⟩
    · rw [List.any_eq_true]; exact ⟨n, List.mem_of_getElem? hp, by simp⟩
    · simpa using hp
theorem Sim.prepare {s : SlS} {m : RfS} {n v k : Int} {d : Dig} (h : Sim s m) (hk : I6 k) (hc : has s.crew n = m.crew.nodes.any (fun y => y == n)) :
    Sim (prepI s n v k d).1 (preR m n v k d).1 ∧ (prepI s n v k d).2 = (preR m n v k d).2 := by
  unfold prepI preR hearI
  rcases h.place hc with ⟨p1, p2⟩ | ⟨p1, p2, p3⟩
  · rw [p1, p2]; exact ⟨h, rfl⟩
  rw [p1, p2, h.crew]
  simp only [Bool.not_true, cond_false, Bool.not_false, Bool.true_and]
  cases hv : viewB v with
  | false => exact ⟨h, rfl⟩
  | true =>
    simp only [Bool.not_true, cond_false]
    cases hl : leaderI s.crew v == n with
    | true => exact ⟨h, rfl⟩
    | false =>
      simp only [cond_false]
      rcases h.two hk with ⟨h1, h2⟩ | ⟨a, t, h1, h2, h3, h4, h5, h6⟩
      · rw [h1, h2]; exact ⟨h, rfl⟩
      · rw [h1, h2, h4]
        have hpl : (plR m n).toNat < t.pre.length := by rw [h5.pre.len]; exact (List.getElem?_eq_some_iff.1 p3).1
        have hx := List.getElem?_eq_getElem hpl
        generalize t.pre[(plR m n).toNat] = x at hx
        simp only [Bool.not_true, cond_false, cond_true]
        rw [h5.pre.says p3 hx (viewB_nn hv), List.getD_eq_getElem?_getD, hx]
        simp only [Option.getD_some]
        cases he : saidI x v d == 0 with
        | false => simp only [bne, he, Bool.not_false, cond_true, cond_false]; exact ⟨h, trivial⟩
        | true =>
          simp only [bne, he, Bool.not_true, cond_false, upd_at, upd2, beq_self_eq_true, cond_true]
          refine ⟨?_, trivial⟩
          have hp := h.put h3 (a := SlotS.mk a.last a.prep (mput a.pre n (Wd.mk v d)) a.com a.q) (t' := RSlot.mk t.last (t.pre.set (plR m n).toNat (RVt.mk true v d)) t.com t.p t.q)
            ⟨h5.last, h5.prep, h5.pre.put h.nd p3 (viewB_nn hv), h5.com, h5.q⟩ (show t.q.length ≤ 4 from h.ok.q4 _ _ h3)
          have := hp.look' (i := ixR m k) (setL_at h3) (upd_at _ _ _) ⟨h5.last, h5.prep, h5.pre.put h.nd p3 (viewB_nn hv), h5.com, h5.q⟩
          rw [h6]
          simpa only [upd2, ← h6] using this
theorem Sim.commit {s : SlS} {m : RfS} {n v k : Int} {d : Dig} (h : Sim s m) (hk : I6 k) (hc : has s.crew n = m.crew.nodes.any (fun y => y == n)) :
    Sim (hearI false s n v k d true).1 (comR m n v k d).1 ∧ (hearI false s n v k d true).2 = (comR m n v k d).2 := by
  unfold comR hearI
  rcases h.place hc with ⟨p1, p2⟩ | ⟨p1, p2, p3⟩
  · rw [p1, p2]; exact ⟨h, rfl⟩
  rw [p1, p2]
  simp only [Bool.not_true, cond_false, Bool.false_and]
  cases hv : viewB v with
  | false => exact ⟨h, rfl⟩
  | true =>
    simp only [Bool.not_true, cond_false]
    rcases h.two hk with ⟨h1, h2⟩ | ⟨a, t, h1, h2, h3, h4, h5, h6⟩
    · rw [h1, h2]; exact ⟨h, rfl⟩
    · rw [h1, h2, h4]
      have hpl : (plR m n).toNat < t.com.length := by rw [h5.com.len]; exact (List.getElem?_eq_some_iff.1 p3).1
      have hx := List.getElem?_eq_getElem hpl
      generalize t.com[(plR m n).toNat] = x at hx
      simp only [Bool.not_true, cond_false, cond_true]
      rw [h5.com.says p3 hx (viewB_nn hv), List.getD_eq_getElem?_getD, hx]
      simp only [Option.getD_some]
      cases he : saidI x v d == 0 with
      | false => simp only [bne, he, Bool.not_false, cond_true]; exact ⟨h, trivial⟩
      | true =>
        simp only [bne, he, Bool.not_true, cond_false]
        refine ⟨?_, trivial⟩
        have hp := h.put h3 (a := SlotS.mk a.last a.prep a.pre (mput a.com n (Wd.mk v d)) a.q) (t' := RSlot.mk t.last t.pre (t.com.set (plR m n).toNat (RVt.mk true v d)) t.p t.q)
          ⟨h5.last, h5.prep, h5.pre, h5.com.put h.nd p3 (viewB_nn hv), h5.q⟩ (show t.q.length ≤ 4 from h.ok.q4 _ _ h3)
        rw [h6]
        simpa only [← h6] using hp
end Go.Proofs.YtljcgggflgbenaaGreatDoor
