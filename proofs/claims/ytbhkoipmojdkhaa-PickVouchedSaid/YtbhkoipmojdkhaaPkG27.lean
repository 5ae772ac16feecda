/- What functions of the pick seat return, part 27. No condition. -/
import Derived.Test.YtbhkoipmojdkhaaPkG26
set_option linter.all false
namespace Go.Proofs.Ytbhkoipmojdkhaa
open Go Go.Gx Go.RowKit
def renK (k : Nat) (cp : List Change) : List Change := cp.mapIdx (fun i x => bif decide (i < k) then Change.mk ((i + 1 : Nat) : Int) x.view x.low x.marks x.p x.q else x)
theorem renK_get {k : Nat} {cp : List Change} {i : Nat} : (renK k cp)[i]? = (cp[i]?).map (fun x => bif decide (i < k) then Change.mk ((i + 1 : Nat) : Int) x.view x.low x.marks x.p x.q else x) := by simp [renK, List.getElem?_mapIdx]
theorem renK_0 (cp : List Change) : cp = renK 0 cp := by
  apply List.ext_getElem?; intro i
  rw [renK_get]; simp
theorem renK_step {k : Nat} {ins cp : List Change} {x : Change} (h : ins = renK k cp) (hx : ins[k]? = some x) : List.set ins k (Change.mk ((k + 1 : Nat) : Int) x.view x.low x.marks x.p x.q) = renK (k + 1) cp := by
  subst h
  apply List.ext_getElem?; intro i
  have hlen := (List.getElem?_eq_some_iff.1 hx).1
  rw [List.getElem?_set]
  by_cases hk : k = i
  · subst hk
    rw [if_pos rfl, if_pos hlen]
    rw [renK_get] at hx ⊢
    cases hc : cp[k]? with
    | none => rw [hc] at hx; cases hx
    | some y => rw [hc] at hx; simp at hx; subst hx; simp
  · rw [if_neg hk, renK_get, renK_get]
    have : decide (i < k + 1) = decide (i < k) := by rw [Bool.eq_iff_iff]; simp; omega
    rw [this]
theorem ren_flat {β : Type} (f : Change → List β) (hf : ∀ n x, f (Change.mk n x.view x.low x.marks x.p x.q) = f x) {k : Nat} {ins cp : List Change} (h : ins = renK k cp) (m : Nat) (hs : (cp.flatMap f).length ≤ 1000000) : ((ins.take m).flatMap f).length ≤ 1000000 := by
  have e : ins.map f = cp.map f := by
    subst h
    apply List.ext_getElem?; intro i
    rw [List.getElem?_map, renK_get, List.getElem?_map]
    cases cp[i]? with
    | none => rfl
    | some y => cases hd : decide (i < k) <;> simp [hd, hf]
  have h1 : ((ins.take m).flatMap f).length ≤ (ins.flatMap f).length := by
    conv => rhs; rw [← List.take_append_drop m ins, List.flatMap_append, List.length_append]
    omega
  have h2 : ins.flatMap f = cp.flatMap f := by rw [List.flatMap_def, List.flatMap_def, e]
  rw [h2] at h1; omega
theorem ren_marks {k : Nat} {ins cp : List Change} (h : ins = renK k cp) (m : Nat) (hs : (cp.flatMap (·.marks)).length ≤ 1000000) : ((ins.take m).flatMap (·.marks)).length ≤ 1000000 := ren_flat _ (fun _ _ => rfl) h m hs
theorem ren_p {k : Nat} {ins cp : List Change} (h : ins = renK k cp) (m : Nat) (hs : (cp.flatMap (·.p)).length ≤ 1000000) : ((ins.take m).flatMap (·.p)).length ≤ 1000000 := ren_flat _ (fun _ _ => rfl) h m hs
/-- The nodes are numbered from one on. -/
def NodeOk (f : Int) (l : List Change) : Prop := (l.length : Int) ≤ 3 * f + 1 ∧ ∀ (i : Nat) (x : Change), l[i]? = some x → x.node = (i : Int) + 1
theorem node_ok {f : Int} (hf : f = 1 ∨ f = 2) {k : Nat} {ins cp : List Change} (h : ins = renK k cp) (hk : decide (k < ins.length) = false) : NodeOk f (ins.take (min ins.length (3 * f + 1).toNat)) := by
  have hk := of_decide_eq_false hk
  refine ⟨by rw [List.length_take]; omega, fun i x hx => ?_⟩
  rw [List.getElem?_take] at hx
  split at hx
  · have hi := (List.getElem?_eq_some_iff.1 hx).1
    rw [h, renK_get] at hx
    have hd : decide (i < k) = true := by simp; omega
    cases hc : cp[i]? with
    | none => rw [hc] at hx; cases hx
    | some y => rw [hc] at hx; simp only [Option.map_some, hd, cond_true, Option.some.injEq] at hx; rw [← hx]; simp
  · cases hx
theorem badB_nodes {f : Int} (hf : f = 1 ∨ f = 2) {l : List Change} (h : NodeOk f l) : badB (has (crewI f)) [] l = false := by
  refine (badB_iff _ _ _).2 ⟨fun x hx => ?_, by simp, ?_⟩
  · obtain ⟨i, hi, rfl⟩ := List.mem_iff_getElem.1 hx
    have h1 := h.2 i _ (List.getElem?_eq_getElem hi)
    have h2 := h.1
    exact has_crew hf (by omega) (by omega)
  · rw [List.nodup_iff_pairwise_ne, List.pairwise_iff_getElem]
    intro a b ha hb hab
    simp only [List.length_map] at ha hb
    have e1 := h.2 a _ (List.getElem?_eq_getElem ha)
    have e2 := h.2 b _ (List.getElem?_eq_getElem hb)
    simp only [List.getElem_map]
    omega
theorem pickGo_spec (co : Council) (lo : Mark) : ∀ (f : Nat) (n : Int) (out : List Mark) (m : Nat), m ≤ out.length → (0 < m → ∃ x, out[m - 1]? = some x ∧ x.dig ≠ Dig.zero) → (∀ (i : Nat) (x : Mark), out[i]? = some x → m ≤ i → x.dig = Dig.zero) →
    pickGo co lo f n out m = (Mark.mk 0 Dig.zero, [], 210) ∨ ∃ (outs : List Mark) (m' : Nat), pickGo co lo f n out m = (lo, outs.take m', 0) ∧ outs.length = out.length + f ∧ (∀ i, i < out.length → outs[i]? = out[i]?) ∧
      (∀ (i : Nat) (x : Mark), out.length ≤ i → outs[i]? = some x → x = (atI co (n + ((i - out.length : Nat) : Int))).1 ∧ (atI co (n + ((i - out.length : Nat) : Int))).2 = true) ∧ m' ≤ outs.length ∧ (0 < m' → ∃ x, outs[m' - 1]? = some x ∧ x.dig ≠ Dig.zero) ∧ (∀ (i : Nat) (x : Mark), outs[i]? = some x → m' ≤ i → x.dig = Dig.zero)
  | 0, n, out, m, h1, h2, h3 => .inr ⟨out, m, rfl, rfl, fun _ _ => rfl, fun i x hi hx => by have := (List.getElem?_eq_some_iff.1 hx).1; omega, h1, h2, h3⟩
  | f + 1, n, out, m, h1, h2, h3 => by
    simp only [pickGo]
    cases hok : (atI co n).2 with
    | false => exact .inl rfl
    | true =>
      simp only [Bool.not_true, cond_false]
      have hz : (bif decide ((atI co n).1.dig = Dig.zero) then m else out.length + 1) ≤ (out ++ [(atI co n).1]).length := by cases decide ((atI co n).1.dig = Dig.zero) <;> simp; omega
      rcases pickGo_spec co lo f (n + 1) (out ++ [(atI co n).1]) (bif decide ((atI co n).1.dig = Dig.zero) then m else out.length + 1) hz (fun h0 => by
          cases hd : decide ((atI co n).1.dig = Dig.zero) with
          | true =>
            rw [hd] at h0
            obtain ⟨x, hx, hx2⟩ := h2 h0
            exact ⟨x, by simp only [cond_true]; rw [List.getElem?_append_left (List.getElem?_eq_some_iff.1 hx).1]; exact hx, hx2⟩
          | false => exact ⟨(atI co n).1, by simp, of_decide_eq_false hd⟩) (fun i x hx hm => by
          by_cases hi : i < out.length
          · rw [List.getElem?_append_left hi] at hx
            cases hd : decide ((atI co n).1.dig = Dig.zero) with
            | true => rw [hd] at hm; exact h3 i x hx hm
            | false => rw [hd] at hm; simp at hm; omega
          · rw [List.getElem?_append_right (by omega)] at hx
            have hi0 : i - out.length = 0 := by
              rcases Nat.eq_zero_or_pos (i - out.length) with h | h
              · exact h
              · rw [List.getElem?_eq_none (by simp; omega)] at hx; cases hx
            rw [hi0] at hx
            simp at hx
            subst hx
            cases hd : decide ((atI co n).1.dig = Dig.zero) with
            | true => exact of_decide_eq_true hd
            | false => rw [hd] at hm; simp at hm; omega) with h | ⟨outs, m', g1, g2, g3, g4, g5⟩
      · exact .inl h
      · refine .inr ⟨outs, m', g1, by simp at g2; omega, fun i hi => ?_, fun i x hi hx => ?_, g5⟩
        · rw [g3 i (by simp; omega), List.getElem?_append_left hi]
        · by_cases hi2 : i = out.length
          · subst hi2
            rw [g3 _ (by simp), List.getElem?_append_right (Nat.le_refl _)] at hx
            simp at hx
            subst hx
            simp [hok]
          · have := g4 i x (by simp; omega) hx
            have e : n + 1 + ((i - (out ++ [(atI co n).1]).length : Nat) : Int) = n + ((i - out.length : Nat) : Int) := by simp; omega
            rw [e] at this
            exact this
theorem sel_struct {f : Int} (hf : f = 1 ∨ f = 2) {l : List Change} (hb : badB (has (crewI f)) [] l = false) : selI (has (crewI f)) (crewI f) l = (Mark.mk 0 Dig.zero, [], 210) ∨
    (2 * f + 1 ≤ (l.length : Int) ∧ (lowI ⟨most (crewI f), some_ (crewI f), l⟩).2 = true ∧ ∃ (outs : List Mark) (m : Nat), selI (has (crewI f)) (crewI f) l = ((lowI ⟨most (crewI f), some_ (crewI f), l⟩).1, outs.take m, 0) ∧ outs.length = 8 ∧
      (∀ (i : Nat) (x : Mark), outs[i]? = some x → x = (atI ⟨most (crewI f), some_ (crewI f), l⟩ ((lowI ⟨most (crewI f), some_ (crewI f), l⟩).1.seq + 1 + (i : Int))).1 ∧ (atI ⟨most (crewI f), some_ (crewI f), l⟩ ((lowI ⟨most (crewI f), some_ (crewI f), l⟩).1.seq + 1 + (i : Int))).2 = true) ∧
      m ≤ outs.length ∧ (0 < m → ∃ x, outs[m - 1]? = some x ∧ x.dig ≠ Dig.zero) ∧ (∀ (i : Nat) (x : Mark), outs[i]? = some x → m ≤ i → x.dig = Dig.zero)) := by
  obtain ⟨c1, c2, c3⟩ := crew_nums hf
  unfold selI
  rw [c1, hb]
  simp only [cond_false]
  cases h1 : decide (((l.length : Nat) : Int) < most (crewI f)) with
  | true => simp
  | false =>
    have h1 := of_decide_eq_false h1
    cases h2 : (lowI ⟨most (crewI f), some_ (crewI f), l⟩).2 with
    | false => simp
    | true =>
      simp only [Bool.not_true, Bool.or_false, cond_false]
      rcases pickGo_spec ⟨most (crewI f), some_ (crewI f), l⟩ (lowI ⟨most (crewI f), some_ (crewI f), l⟩).1 8 ((lowI ⟨most (crewI f), some_ (crewI f), l⟩).1.seq + 1) [] 0 (Nat.le_refl _) (by intro h; omega) (by intro i x h; simp at h) with h | ⟨outs, m, g1, g2, _, g4, g5⟩
      · exact .inl h
      · exact .inr ⟨by omega, trivial, outs, m, g1, by simpa using g2, fun i x hx => by have := g4 i x (Nat.zero_le _) hx; simpa using this, g5⟩
theorem sel_fails {f : Int} (hf : f = 1 ∨ f = 2) {l : List Change} (hL : NodeOk f l) (h : ((selI (has (crewI f)) (crewI f) l).2.2 != 0) = true) : selI (has (crewI f)) (crewI f) l = (Mark.mk 0 Dig.zero, [], 210) := by
  rcases sel_struct hf (badB_nodes hf hL) with h1 | ⟨_, _, outs, m, h1, _⟩
  · exact h1
  · rw [h1] at h; simp at h
theorem atI_vouched {co : Council} {k : Int} (h : (atI co k).1.dig ≠ Dig.zero) : ∃ x, at1B k co x = true ∧ (atI co k).1.dig = x.dig ∧ x.seq = k ∧ (atB co k).2 = true ∧ x = (atB co k).1 := by
  unfold atI at h ⊢
  cases hb : (atB co k).2 with
  | false => rw [hb] at h; simp at h
  | true =>
    have hm := bestG_may (fun x => at1B k co x) _ _ _ _ (by intro h; cases h) hb
    refine ⟨(atB co k).1, hm, by simp, ?_, rfl, rfl⟩
    have hm : at1B k co (atB co k).1 = true := hm
    simp only [at1B, Bool.and_eq_true, beq_iff_eq] at hm
    exact hm.1
theorem atI_seq (co : Council) (k : Int) : (atI co k).1.seq = k := by unfold atI; cases (atB co k).2 <;> rfl
theorem vouched_sel {f : Int} (hf : f = 1 ∨ f = 2) {l : List Change} (hL : NodeOk f l) (h : ((selI (has (crewI f)) (crewI f) l).2.2 != 0) = false) :
    f + 1 ≤ ((l.countP (fun x => x.marks.any (fun y => decide (y = (selI (has (crewI f)) (crewI f) l).1))) : Nat) : Int) ∧
    (∀ x, (selI (has (crewI f)) (crewI f) l).2.1[(selI (has (crewI f)) (crewI f) l).2.1.length - 1]? = some x → x.dig ≠ Dig.zero) ∧
    (∀ (g : Nat) (x : Mark), (selI (has (crewI f)) (crewI f) l).2.1[g]? = some x → x.seq = IntKind.wrap .i64 (IntKind.wrap .i64 ((selI (has (crewI f)) (crewI f) l).1.seq + 1) + ((g : Nat) : Int)) ∧ (x.dig ≠ Dig.zero → f + 1 ≤ ((l.countP (fun y => y.q.any (fun z => (z.seq == x.seq) && decide (z.dig = x.dig))) : Nat) : Int))) := by
  obtain ⟨c1, c2, c3⟩ := crew_nums hf
  rcases sel_struct hf (badB_nodes hf hL) with h1 | ⟨_, hlo, outs, m, h1, g1, g2, g3, g4, _⟩
  · rw [h1] at h; simp at h
  · rw [h1]
    simp only []
    have hrng := lowI_rng hlo
    have hmay := bestG_may (fun x => lowMayB ⟨most (crewI f), some_ (crewI f), l⟩ x) _ _ _ _ (by intro h; cases h) hlo
    refine ⟨?_, fun x hx => ?_, fun g x hx => ?_⟩
    · have hmay : lowMayB ⟨most (crewI f), some_ (crewI f), l⟩ (lowI ⟨most (crewI f), some_ (crewI f), l⟩).1 = true := hmay
      rw [lowMayB, Bool.and_eq_true, Bool.and_eq_true, Bool.and_eq_true] at hmay
      have := of_decide_eq_true hmay.2.2.2
      simp only [cnt] at this
      have h0 : f + 1 ≤ some_ (crewI f) := by omega
      have this := Int.le_trans h0 this
      have e : ∀ mk : Mark, (fun x : Change => low12B mk x) = (fun x : Change => x.marks.any (fun y => decide (y = mk))) := fun mk => funext (low12B_eq mk)
      have e2 := e (lowI ⟨most (crewI f), some_ (crewI f), l⟩).1
      rw [← e2]; exact this
    · have hl : (outs.take m).length = m := by rw [List.length_take]; omega
      rw [hl] at hx
      rw [List.getElem?_take] at hx
      split at hx
      · obtain ⟨y, hy1, hy2⟩ := g4 (by omega)
        rw [hy1] at hx; injection hx with hx; rw [← hx]; exact hy2
      · cases hx
    · rw [List.getElem?_take] at hx
      split at hx
      · have hg : g < 8 := by have := (List.getElem?_eq_some_iff.1 hx).1; omega
        obtain ⟨e1, _⟩ := g2 g x hx
        have hseq : x.seq = (lowI ⟨most (crewI f), some_ (crewI f), l⟩).1.seq + 1 + (g : Int) := by rw [e1, atI_seq]
        refine ⟨?_, fun hz => ?_⟩
        · rw [hseq, IntWalk.i64_in ((lowI ⟨most (crewI f), some_ (crewI f), l⟩).1.seq + 1) (by omega), IntWalk.i64_in _ (by omega)]
        · rw [e1] at hz
          obtain ⟨s, k1, k2, k3, _⟩ := atI_vouched hz
          rw [← e1] at k2
          simp only [at1B, standsB, Bool.and_eq_true, decide_eq_true_eq, cnt, c3] at k1
          have hle := k1.2.2
          have hmono : l.countP (fun x => st2B s x) ≤ l.countP (fun y => y.q.any (fun z => (z.seq == x.seq) && decide (z.dig = x.dig))) := by
            refine List.countP_mono_left (fun y _ hy => ?_)
            simp only [st2B, List.any_eq_true] at hy ⊢
            obtain ⟨z, hz1, hz2⟩ := hy
            refine ⟨z, hz1, ?_⟩
            simp only [st21B, Bool.and_eq_true, beq_iff_eq, decide_eq_true_eq] at hz2 ⊢
            exact ⟨by rw [hz2.1, k3, hseq], by rw [hz2.2.1, k2]⟩
          have : (f + 1 : Int) ≤ ((l.countP (fun x => st2B s x) : Nat) : Int) := hle
          omega
      · cases hx
theorem copiedO_ret (G0 : Gh) (w0 : World) (hw : Holds G0 w0) (vl : Value) (l : List Change) (hl : Sl G0 vl l) :
    RetO Try.prog 9 #[vl] G0 w0 (fun G o v => ∃ A cap, v = (.slice A ((copiedI l)).length cap) ∧ Ow G o 49 (.slice A ((copiedI l)).length cap) ((copiedI l))) := by
  have hC := Cx.refl hw
  have hB : Bxs G0 w0 w0.heap.size [] := Bxs.nil _ _ _
  obtain ⟨A1, cap2, rfl⟩ := hl.form
  refine callsOf Try.func9 rfl _ Try.ntmps9 rfl _ (argsCons argsNil (t := 0) rfl) ?_; intro Q0 hQ
  refine wcSeq ?_
  refine wcRegion ?_
  refine wlVal (opAssign rfl) rfl ?_
  refine wlThen ?_
  refine wcSeq ?_
  refine wcRegion ?_
  refine wlVal (opAssign rfl) rfl ?_
  refine wlThen ?_
  refine wcSeq ?_
  refine wcSeq ?_
  refine wcRegion ?_
  refine wlVal (opAssign rfl) rfl ?_
  refine wlThen ?_
  refine wcBlock ?_
  refine WC.sub (wrInd (ι := Nat × (Option Addr) × Nat × (Option Bx) × (List Change)) (fun i => match i with | (k, outA, outC, outO, out) => l.length - k) (fun i G w => match i with | (k, outA, outC, outO, out) => Cx w0 G0 G w ∧ Bxs G w w0.heap.size ([] ++ (Option.toList outO ++ [])) ∧ Sl G (.slice A1 l.length cap2) l ∧ Ow G outO 49 (.slice outA out.length outC) out ∧ k ≤ 9 ∧ out = (l.take k).map cpyI) (fun i => match i with | (k, outA, outC, outO, out) => (((Env.nil.put 0 (.slice A1 l.length cap2)).put 3 (.slice outA out.length outC)).put 4 (.int .i64 (((k : Nat) : Int))))) ?_ (0, none, 0, none, []) _ _ ⟨hC, hB, hl, (Ow.nil_ _ 49), (Nat.zero_le _), (by simp)⟩) (fun _ ha => (((ha.start.cons ha (t := 0) rfl).cons ha (t := 3) rfl).cons ha (t := 4) rfl))
  rintro ⟨k, outA, outC, outO, out⟩ G w N0 IH0 ⟨hC, hB, hl, hOout, hk9, hI⟩
  show WC _ _ _ _ (((Env.nil.put 0 (.slice A1 l.length cap2)).put 3 (.slice outA out.length outC)).put 4 (.int .i64 (((k : Nat) : Int)))) w
  refine wcSeq ?_
  refine wcSeq ?_
  refine wcRegion ?_
  refine wlVal (opMove rfl) rfl ?_
  refine wlVal (opMove rfl) rfl ?_
  refine wlVal (opLen rfl isl25) rfl ?_
  refine wlVal (opLssN rfl rfl) rfl ?_
  refine wlVal (opMove rfl) rfl ?_
  cases h3 : decide (k < l.length)
  · skip
    refine wlOff rfl rfl rfl rfl ?_
    refine wlOff rfl rfl rfl rfl ?_
    refine wlVal (opPickF rfl rfl) rfl ?_
    refine wlThen ?_
    refine wcCondF rfl ?_
    refine wcExit ?_
    refine wcOf ?_
    refine wcSeq ?_
    refine wcRegion ?_
    refine wlVal (opMove rfl) rfl ?_
    refine wlVal (opAssign rfl) rfl ?_
    refine wlThen ?_
    refine wcRet ?_
    exact fun ac_ ha => hQ _ _ _ (results1 ha rfl rfl) ha.df (endO (bl := []) (o := outO) (r := []) hC hB (by rw [copied_end hI hk9 (by first | exact .inl h3 | exact .inr rfl)]; exact ⟨_, _, rfl, hOout⟩))
  · skip
    refine wlOn rfl rfl ?_
    refine wlVal (opMove rfl) rfl ?_
    refine wlOn rfl rfl ?_
    refine wlVal (opLssN (b := 9) rfl rfl) rfl ?_
    refine wlVal (opPickT rfl rfl) rfl ?_
    refine wlThen ?_
    cases h4 : decide (k < 9)
    · skip
      refine wcCondF rfl ?_
      refine wcExit ?_
      refine wcOf ?_
      refine wcSeq ?_
      refine wcRegion ?_
      refine wlVal (opMove rfl) rfl ?_
      refine wlVal (opAssign rfl) rfl ?_
      refine wlThen ?_
      refine wcRet ?_
      exact fun ac_ ha => hQ _ _ _ (results1 ha rfl rfl) ha.df (endO (bl := []) (o := outO) (r := []) hC hB (by rw [copied_end hI hk9 (by first | exact .inl h3 | exact .inr h4)]; exact ⟨_, _, rfl, hOout⟩))
    · skip
      refine wcCondT rfl ?_
      refine wcSkip ?_
      refine wcOf ?_
      refine wcSeq ?_
      refine wcBlock ?_
      refine wcSeq ?_
      refine wcRegion ?_
      refine wlVal (opMove rfl) rfl ?_
      refine wlVal (opMove rfl) rfl ?_
      obtain ⟨x5, hx6⟩ : ∃ y_, l[k]? = some y_ := ⟨_, List.getElem?_eq_getElem (of_decide_eq_true h3)⟩
      obtain ⟨b7, o8, row9, hA12, hr10, hi11⟩ := hl.elem hx6; subst hA12
      obtain ⟨v13, v15, v17, rfl, hs14, hs16, hs18⟩ := Change.opIs hi11
      obtain ⟨A19, cap20, rfl⟩ := hs14.form
      obtain ⟨A21, cap22, rfl⟩ := hs16.form
      obtain ⟨A23, cap24, rfl⟩ := hs18.form
      refine wlVal (opIndexAddr rfl rfl slo25 (of_decide_eq_true h3)) rfl ?_
      refine wlVal (opLoadRow (cs := [(.int .i64 x5.node), (.int .i64 x5.view), (.int .i64 x5.low), (.slice A19 x5.marks.length cap20), (.slice A21 x5.p.length cap22), (.slice A23 x5.q.length cap24)]) rfl (RowG.range hC.holds hr10) row49 rfl) rfl ?_
      refine wlAlloc hC hB zero49 rfl ?_; intro b25 w hk hC hB
      replace hB : Bxs G w w0.heap.size ([(b25, 49, [(.int .i64 0), (.int .i64 0), (.int .i64 0), (.slice none 0 0), (.slice none 0 0), (.slice none 0 0)])] ++ (Option.toList outO ++ [])) := hB
      refine wlStore 0 (vs := [(.int .i64 x5.node), (.int .i64 x5.view), (.int .i64 x5.low), (.slice A19 x5.marks.length cap20), (.slice A21 x5.p.length cap22), (.slice A23 x5.q.length cap24)]) (cs := [(.int .i64 0), (.int .i64 0), (.int .i64 0), (.slice none 0 0), (.slice none 0 0), (.slice none 0 0)]) (cs' := [(.int .i64 x5.node), (.int .i64 x5.view), (.int .i64 x5.low), (.slice A19 x5.marks.length cap20), (.slice A21 x5.p.length cap22), (.slice A23 x5.q.length cap24)]) hC hB rfl rfl rfl sz49 rfl rfl rfl (by simp [Mark.cells, Stand.cells]) rfl rfl ?_; intro w hC hB
      replace hB : Bxs G w w0.heap.size ([(b25, 49, [(.int .i64 x5.node), (.int .i64 x5.view), (.int .i64 x5.low), (.slice A19 x5.marks.length cap20), (.slice A21 x5.p.length cap22), (.slice A23 x5.q.length cap24)])] ++ (Option.toList outO ++ [])) := hB
      refine wlThen ?_
      refine wcSeq ?_
      refine wcRegion ?_
      refine wlVal (opAssign rfl) rfl ?_
      refine wlThen ?_
      refine wcSeq ?_
      refine wcRegion ?_
      refine wlVal (opAssign rfl) rfl ?_
      refine wlVal (opAssign rfl) rfl ?_
      refine wlThen ?_
      refine wcSeq ?_
      refine wcRegion ?_
      refine wlVal (opMove rfl) rfl ?_
      refine wlVal (opFieldAddr rfl fo49_3) rfl ?_
      refine wlVal (opLoadOne (v := (.slice A19 x5.marks.length cap20)) rfl (hB.cell (i := 0) rfl rfl) one31) rfl ?_
      refine wlVal (opFieldAddr rfl fo49_3) rfl ?_
      refine wlVal (opLoadOne (v := (.slice A19 x5.marks.length cap20)) rfl (hB.cell (i := 0) rfl rfl) one31) rfl ?_
      refine wlVal (opLen rfl isl31) rfl ?_
      refine wlVal (opMinN rfl rfl) rfl ?_
      have hs26 := Sl.take hs14 (h := min x5.marks.length 40) (Nat.min_le_left _ _)
      refine wlVal (opSliceTo slo31 rfl rfl (Sl.capOf hs14 (Nat.min_le_left _ _))) rfl ?_
      refine wlAppend (α := Mark) (bl := [(b25, 49, [(.int .i64 x5.node), (.int .i64 x5.view), (.int .i64 x5.low), (.slice A19 x5.marks.length cap20), (.slice A21 x5.p.length cap22), (.slice A23 x5.q.length cap24)])]) (o := none) (r := (Option.toList outO ++ [])) elo31 hC hB rfl rfl (Ow.nil_ _ 30) hs26 (by simp; omega) rfl rfl ?_; intro A27 cap28 o29 w hC hB hO30
      refine wlVal (opFieldAddr rfl fo49_3) rfl ?_
      refine wlStore 0 (vs := [(.slice A27 ((([] ++ (x5.marks.take (min x5.marks.length 40)))).length) cap28)]) (cs := [(.int .i64 x5.node), (.int .i64 x5.view), (.int .i64 x5.low), (.slice A19 x5.marks.length cap20), (.slice A21 x5.p.length cap22), (.slice A23 x5.q.length cap24)]) (cs' := [(.int .i64 x5.node), (.int .i64 x5.view), (.int .i64 x5.low), (.slice A27 ((([] ++ (x5.marks.take (min x5.marks.length 40)))).length) cap28), (.slice A21 x5.p.length cap22), (.slice A23 x5.q.length cap24)]) hC hB rfl rfl rfl sz31 rfl rfl rfl (by simp [Mark.cells, Stand.cells]) rfl rfl ?_; intro w hC hB
      replace hB : Bxs G w w0.heap.size ([(b25, 49, [(.int .i64 x5.node), (.int .i64 x5.view), (.int .i64 x5.low), (.slice A27 ((([] ++ (x5.marks.take (min x5.marks.length 40)))).length) cap28), (.slice A21 x5.p.length cap22), (.slice A23 x5.q.length cap24)])] ++ (Option.toList o29 ++ (Option.toList outO ++ []))) := hB
      refine wlThen ?_
      refine wcSeq ?_
      refine wcRegion ?_
      refine wlVal (opMove rfl) rfl ?_
      refine wlVal (opFieldAddr rfl fo49_4) rfl ?_
      refine wlVal (opLoadOne (v := (.slice A21 x5.p.length cap22)) rfl (hB.cell (i := 0) rfl rfl) one47) rfl ?_
      refine wlVal (opFieldAddr rfl fo49_4) rfl ?_
      refine wlVal (opLoadOne (v := (.slice A21 x5.p.length cap22)) rfl (hB.cell (i := 0) rfl rfl) one47) rfl ?_
      refine wlVal (opLen rfl isl47) rfl ?_
      refine wlVal (opMinN rfl rfl) rfl ?_
      have hs31 := Sl.take hs16 (h := min x5.p.length 40) (Nat.min_le_left _ _)
      refine wlVal (opSliceTo slo47 rfl rfl (Sl.capOf hs16 (Nat.min_le_left _ _))) rfl ?_
      refine wlAppend (α := Stand) (bl := [(b25, 49, [(.int .i64 x5.node), (.int .i64 x5.view), (.int .i64 x5.low), (.slice A27 ((([] ++ (x5.marks.take (min x5.marks.length 40)))).length) cap28), (.slice A21 x5.p.length cap22), (.slice A23 x5.q.length cap24)])]) (o := none) (r := (Option.toList o29 ++ (Option.toList outO ++ []))) elo47 hC hB rfl rfl (Ow.nil_ _ 58) hs31 (by simp; omega) rfl rfl ?_; intro A32 cap33 o34 w hC hB hO35
      refine wlVal (opFieldAddr rfl fo49_4) rfl ?_
      refine wlStore 0 (vs := [(.slice A32 ((([] ++ (x5.p.take (min x5.p.length 40)))).length) cap33)]) (cs := [(.int .i64 x5.node), (.int .i64 x5.view), (.int .i64 x5.low), (.slice A27 ((([] ++ (x5.marks.take (min x5.marks.length 40)))).length) cap28), (.slice A21 x5.p.length cap22), (.slice A23 x5.q.length cap24)]) (cs' := [(.int .i64 x5.node), (.int .i64 x5.view), (.int .i64 x5.low), (.slice A27 ((([] ++ (x5.marks.take (min x5.marks.length 40)))).length) cap28), (.slice A32 ((([] ++ (x5.p.take (min x5.p.length 40)))).length) cap33), (.slice A23 x5.q.length cap24)]) hC hB rfl rfl rfl sz47 rfl rfl rfl (by simp [Mark.cells, Stand.cells]) rfl rfl ?_; intro w hC hB
      replace hB : Bxs G w w0.heap.size ([(b25, 49, [(.int .i64 x5.node), (.int .i64 x5.view), (.int .i64 x5.low), (.slice A27 ((([] ++ (x5.marks.take (min x5.marks.length 40)))).length) cap28), (.slice A32 ((([] ++ (x5.p.take (min x5.p.length 40)))).length) cap33), (.slice A23 x5.q.length cap24)])] ++ (Option.toList o34 ++ (Option.toList o29 ++ (Option.toList outO ++ [])))) := hB
      refine wlThen ?_
      refine wcSeq ?_
      refine wcRegion ?_
      refine wlVal (opMove rfl) rfl ?_
      refine wlVal (opFieldAddr rfl fo49_5) rfl ?_
      refine wlVal (opLoadOne (v := (.slice A23 x5.q.length cap24)) rfl (hB.cell (i := 0) rfl rfl) one47) rfl ?_
      refine wlVal (opFieldAddr rfl fo49_5) rfl ?_
      refine wlVal (opLoadOne (v := (.slice A23 x5.q.length cap24)) rfl (hB.cell (i := 0) rfl rfl) one47) rfl ?_
      refine wlVal (opLen rfl isl47) rfl ?_
      refine wlVal (opMinN rfl rfl) rfl ?_
      have hs36 := Sl.take hs18 (h := min x5.q.length 40) (Nat.min_le_left _ _)
      refine wlVal (opSliceTo slo47 rfl rfl (Sl.capOf hs18 (Nat.min_le_left _ _))) rfl ?_
      refine wlAppend (α := Stand) (bl := [(b25, 49, [(.int .i64 x5.node), (.int .i64 x5.view), (.int .i64 x5.low), (.slice A27 ((([] ++ (x5.marks.take (min x5.marks.length 40)))).length) cap28), (.slice A32 ((([] ++ (x5.p.take (min x5.p.length 40)))).length) cap33), (.slice A23 x5.q.length cap24)])]) (o := none) (r := (Option.toList o34 ++ (Option.toList o29 ++ (Option.toList outO ++ [])))) elo47 hC hB rfl rfl (Ow.nil_ _ 58) hs36 (by simp; omega) rfl rfl ?_; intro A37 cap38 o39 w hC hB hO40
      refine wlVal (opFieldAddr rfl fo49_5) rfl ?_
      refine wlStore 0 (vs := [(.slice A37 ((([] ++ (x5.q.take (min x5.q.length 40)))).length) cap38)]) (cs := [(.int .i64 x5.node), (.int .i64 x5.view), (.int .i64 x5.low), (.slice A27 ((([] ++ (x5.marks.take (min x5.marks.length 40)))).length) cap28), (.slice A32 ((([] ++ (x5.p.take (min x5.p.length 40)))).length) cap33), (.slice A23 x5.q.length cap24)]) (cs' := [(.int .i64 x5.node), (.int .i64 x5.view), (.int .i64 x5.low), (.slice A27 ((([] ++ (x5.marks.take (min x5.marks.length 40)))).length) cap28), (.slice A32 ((([] ++ (x5.p.take (min x5.p.length 40)))).length) cap33), (.slice A37 ((([] ++ (x5.q.take (min x5.q.length 40)))).length) cap38)]) hC hB rfl rfl rfl sz47 rfl rfl rfl (by simp [Mark.cells, Stand.cells]) rfl rfl ?_; intro w hC hB
      replace hB : Bxs G w w0.heap.size ([(b25, 49, [(.int .i64 x5.node), (.int .i64 x5.view), (.int .i64 x5.low), (.slice A27 ((([] ++ (x5.marks.take (min x5.marks.length 40)))).length) cap28), (.slice A32 ((([] ++ (x5.p.take (min x5.p.length 40)))).length) cap33), (.slice A37 ((([] ++ (x5.q.take (min x5.q.length 40)))).length) cap38)])] ++ (Option.toList o39 ++ (Option.toList o34 ++ (Option.toList o29 ++ (Option.toList outO ++ []))))) := hB
      refine wlThen ?_
      refine wcRegion ?_
      refine wlVal (opMove rfl) rfl ?_
      refine wlVal (opLoadRow (cs := [(.int .i64 x5.node), (.int .i64 x5.view), (.int .i64 x5.low), (.slice A27 ((([] ++ (x5.marks.take (min x5.marks.length 40)))).length) cap28), (.slice A32 ((([] ++ (x5.p.take (min x5.p.length 40)))).length) cap33), (.slice A37 ((([] ++ (x5.q.take (min x5.q.length 40)))).length) cap38)]) rfl (hB.range (i := 0) (m := 6) rfl rfl) row49 rfl) rfl ?_
      replace hB := Bxs.swapOwn1 (bl := [(b25, 49, [(.int .i64 x5.node), (.int .i64 x5.view), (.int .i64 x5.low), (.slice A27 ((([] ++ (x5.marks.take (min x5.marks.length 40)))).length) cap28), (.slice A32 ((([] ++ (x5.p.take (min x5.p.length 40)))).length) cap33), (.slice A37 ((([] ++ (x5.q.take (min x5.q.length 40)))).length) cap38)])]) (X := Option.toList o39) (A := Option.toList o34) (B := Option.toList o29) (r := (Option.toList outO ++ [])) hB
      replace hB := Bxs.swapOwn (bl := [(b25, 49, [(.int .i64 x5.node), (.int .i64 x5.view), (.int .i64 x5.low), (.slice A27 ((([] ++ (x5.marks.take (min x5.marks.length 40)))).length) cap28), (.slice A32 ((([] ++ (x5.p.take (min x5.p.length 40)))).length) cap33), (.slice A37 ((([] ++ (x5.q.take (min x5.q.length 40)))).length) cap38)])]) (A := Option.toList o39) (B := Option.toList o29) (r := (Option.toList o34 ++ (Option.toList outO ++ []))) hB
      obtain ⟨G, hg42, hC, hB, hs41⟩ := Ow.freeze' (bl := [(b25, 49, [(.int .i64 x5.node), (.int .i64 x5.view), (.int .i64 x5.low), (.slice A27 ((([] ++ (x5.marks.take (min x5.marks.length 40)))).length) cap28), (.slice A32 ((([] ++ (x5.p.take (min x5.p.length 40)))).length) cap33), (.slice A37 ((([] ++ (x5.q.take (min x5.q.length 40)))).length) cap38)])]) (r := (Option.toList o39 ++ (Option.toList o34 ++ (Option.toList outO ++ [])))) hO30 hC (Nat.le_refl _) hB (by simp [maxL]; omega)
      replace hl := hl.mono hg42; replace hOout := hOout.mono hg42; replace hs14 := hs14.mono hg42; replace hs16 := hs16.mono hg42; replace hs18 := hs18.mono hg42; replace hr10 := hr10.mono hg42; replace hs26 := hs26.mono hg42; replace hs31 := hs31.mono hg42; replace hO35 := hO35.mono hg42; replace hs36 := hs36.mono hg42; replace hO40 := hO40.mono hg42
      replace hB := Bxs.swapOwn (bl := [(b25, 49, [(.int .i64 x5.node), (.int .i64 x5.view), (.int .i64 x5.low), (.slice A27 ((([] ++ (x5.marks.take (min x5.marks.length 40)))).length) cap28), (.slice A32 ((([] ++ (x5.p.take (min x5.p.length 40)))).length) cap33), (.slice A37 ((([] ++ (x5.q.take (min x5.q.length 40)))).length) cap38)])]) (A := Option.toList o39) (B := Option.toList o34) (r := (Option.toList outO ++ [])) hB
      obtain ⟨G, hg44, hC, hB, hs43⟩ := Ow.freeze' (bl := [(b25, 49, [(.int .i64 x5.node), (.int .i64 x5.view), (.int .i64 x5.low), (.slice A27 ((([] ++ (x5.marks.take (min x5.marks.length 40)))).length) cap28), (.slice A32 ((([] ++ (x5.p.take (min x5.p.length 40)))).length) cap33), (.slice A37 ((([] ++ (x5.q.take (min x5.q.length 40)))).length) cap38)])]) (r := (Option.toList o39 ++ (Option.toList outO ++ []))) hO35 hC (Nat.le_refl _) hB (by simp [maxL]; omega)
      replace hl := hl.mono hg44; replace hOout := hOout.mono hg44; replace hs14 := hs14.mono hg44; replace hs16 := hs16.mono hg44; replace hs18 := hs18.mono hg44; replace hr10 := hr10.mono hg44; replace hs26 := hs26.mono hg44; replace hs31 := hs31.mono hg44; replace hs36 := hs36.mono hg44; replace hO40 := hO40.mono hg44; replace hs41 := hs41.mono hg44
      obtain ⟨G, hg46, hC, hB, hs45⟩ := Ow.freeze' (bl := [(b25, 49, [(.int .i64 x5.node), (.int .i64 x5.view), (.int .i64 x5.low), (.slice A27 ((([] ++ (x5.marks.take (min x5.marks.length 40)))).length) cap28), (.slice A32 ((([] ++ (x5.p.take (min x5.p.length 40)))).length) cap33), (.slice A37 ((([] ++ (x5.q.take (min x5.q.length 40)))).length) cap38)])]) (r := (Option.toList outO ++ [])) hO40 hC (Nat.le_refl _) hB (by simp [maxL]; omega)
      replace hl := hl.mono hg46; replace hOout := hOout.mono hg46; replace hs14 := hs14.mono hg46; replace hs16 := hs16.mono hg46; replace hs18 := hs18.mono hg46; replace hr10 := hr10.mono hg46; replace hs26 := hs26.mono hg46; replace hs31 := hs31.mono hg46; replace hs36 := hs36.mono hg46; replace hs41 := hs41.mono hg46; replace hs43 := hs43.mono hg46
      refine wlBuildSlice (α := Change) (ps := [(0, .tmp 54)]) (xs := [(Change.mk x5.node x5.view x5.low (([] ++ (x5.marks.take (min x5.marks.length 40)))) (([] ++ (x5.p.take (min x5.p.length 40)))) (([] ++ (x5.q.take (min x5.q.length 40)))))]) (rows := [[(.int .i64 x5.node), (.int .i64 x5.view), (.int .i64 x5.low), (.slice A27 ((([] ++ (x5.marks.take (min x5.marks.length 40)))).length) cap28), (.slice A32 ((([] ++ (x5.p.take (min x5.p.length 40)))).length) cap33), (.slice A37 ((([] ++ (x5.q.take (min x5.q.length 40)))).length) cap38)]]) elo25 rfl rfl hC hB rfl rfl rfl ⟨(Change.mkIs (x := (Change.mk x5.node x5.view x5.low (([] ++ (x5.marks.take (min x5.marks.length 40)))) (([] ++ (x5.p.take (min x5.p.length 40)))) (([] ++ (x5.q.take (min x5.q.length 40)))))) hs41 hs43 hs45), trivial⟩ rfl ?_; intro b47 G w hk hC hB hs48
      replace hl := hl.mono hk.gle; replace hOout := hOout.mono hk.gle; replace hs14 := hs14.mono hk.gle; replace hs16 := hs16.mono hk.gle; replace hs18 := hs18.mono hk.gle; replace hr10 := hr10.mono hk.gle; replace hs26 := hs26.mono hk.gle; replace hs31 := hs31.mono hk.gle; replace hs36 := hs36.mono hk.gle; replace hs41 := hs41.mono hk.gle; replace hs43 := hs43.mono hk.gle; replace hs45 := hs45.mono hk.gle
      refine wlAppend (α := Change) (bl := [(b25, 49, [(.int .i64 x5.node), (.int .i64 x5.view), (.int .i64 x5.low), (.slice A27 ((([] ++ (x5.marks.take (min x5.marks.length 40)))).length) cap28), (.slice A32 ((([] ++ (x5.p.take (min x5.p.length 40)))).length) cap33), (.slice A37 ((([] ++ (x5.q.take (min x5.q.length 40)))).length) cap38)])]) (o := outO) (r := []) elo25 hC hB rfl rfl hOout hs48 (by rw [hI]; simp; omega) rfl rfl ?_; intro A49 cap50 o51 w hC hB hO52
      refine wlVal (opAssign rfl) rfl ?_
      refine wlNil ?_
      refine wcOf ?_
      refine wcRegion ?_
      refine wlVal (opMove rfl) rfl ?_
      refine wlVal (opIncr rfl rfl (incr_ok (of_decide_eq_true h3) hl.le)) rfl ?_
      refine wlVal (opAssign rfl) rfl ?_
      refine wlRound ?_
      exact (IH0 (k + 1, A49, cap50, o51, (out ++ [(Change.mk x5.node x5.view x5.low (([] ++ (x5.marks.take (min x5.marks.length 40)))) (([] ++ (x5.p.take (min x5.p.length 40)))) (([] ++ (x5.q.take (min x5.q.length 40)))))])) _ _ ⟨hC, hB.tail, hl, hO52, (of_decide_eq_true h4), (by rw [List.take_add_one, hx6]; simp [hI, cpyI])⟩ (by have := of_decide_eq_true h3; show l.length - (k + 1) < l.length - k; omega)).sub (fun _ ha => (((ha.start.cons ha (t := 0) rfl).cons ha (t := 3) rfl).cons ha (t := 4) rfl))

theorem vouched_ret (G0 : Gh) (w0 : World) (hw : Holds G0 w0) (fl : Int) (vl : Value) (l : List Change) (hl : Sl G0 vl l) :
    RetS Try.prog 7 #[.int .i64 fl, vl] G0 w0 (.bool true) := by
  have hC := Cx.refl hw
  have hB : Bxs G0 w0 w0.heap.size [] := Bxs.nil _ _ _
  obtain ⟨A1, cap2, rfl⟩ := hl.form
  have h12 := f12 fl
  refine callsOf Try.func7 rfl _ Try.ntmps7 rfl _ (argsCons (argsCons argsNil (t := 0) rfl) (t := 1) rfl) ?_; intro Q0 hQ
  refine wcSeq ?_
  refine wcRegion ?_
  refine wlVal (opAssign rfl) rfl ?_
  refine wlThen ?_
  refine wcSeq ?_
  refine wcRegion ?_
  refine wlVal (opMove rfl) rfl ?_
  refine wlCallS hC hB rfl co15 rfl rfl (bring_ret _ _ hC.holds fl 2) ?_; intro w hk hC hB
  refine wlVal (opAdd rfl rfl) rfl ?_
  refine wlVal (opAssign rfl) rfl ?_
  refine wlThen ?_
  refine wcSeq ?_
  refine wcRegion ?_
  refine wlVal (opMove rfl) rfl ?_
  refine wlCallO (bl := []) (r := []) hC hB rfl co9 rfl rfl (copiedO_ret _ _ hC.holds _ l hl) ?_; rintro v7 G o5 w hk hC hB ⟨A3, cap4, rfl, hO6⟩
  replace hl := hl.mono hk.gle
  refine wlVal (opAssign rfl) rfl ?_
  refine wlThen ?_
  refine wcSeq ?_
  refine wcSeq ?_
  refine wcRegion ?_
  refine wlVal (opAssign rfl) rfl ?_
  refine wlThen ?_
  refine wcBlock ?_
  refine WC.sub (wrInd (ι := Nat × (Option Addr) × Nat × (Option Bx) × (List Change)) (fun i => match i with | (k, insA, insC, insO, ins) => ins.length - k) (fun i G w => match i with | (k, insA, insC, insO, ins) => Cx w0 G0 G w ∧ Bxs G w w0.heap.size ([] ++ (Option.toList insO ++ [])) ∧ Sl G (.slice A1 l.length cap2) l ∧ Ow G insO 49 (.slice insA ins.length insC) ins ∧ ins.length = (copiedI l).length ∧ ins = renK k (copiedI l)) (fun i => match i with | (k, insA, insC, insO, ins) => (((Env.nil.put 5 (.int .i64 (IntKind.wrap .i64 (1 + ((bringI fl 2)))))).put 6 (.slice insA ins.length insC)).put 7 (.int .i64 (((k : Nat) : Int))))) ?_ (0, A3, cap4, o5, ((copiedI l))) _ _ ⟨hC, hB, hl, hO6, rfl, (renK_0 _)⟩) (fun _ ha => (((ha.start.cons ha (t := 5) rfl).cons ha (t := 6) rfl).cons ha (t := 7) rfl))
  rintro ⟨k, insA, insC, insO, ins⟩ G w N0 IH0 ⟨hC, hB, hl, hOins, hlen, hren⟩
  show WC _ _ _ _ (((Env.nil.put 5 (.int .i64 (IntKind.wrap .i64 (1 + ((bringI fl 2)))))).put 6 (.slice insA ins.length insC)).put 7 (.int .i64 (((k : Nat) : Int)))) w
  refine wcSeq ?_
  refine wcSeq ?_
  refine wcRegion ?_
  refine wlVal (opMove rfl) rfl ?_
  refine wlVal (opMove rfl) rfl ?_
  refine wlVal (opLen rfl isl25) rfl ?_
  refine wlVal (opLssN rfl rfl) rfl ?_
  refine wlThen ?_
  cases h8 : decide (k < ins.length)
  · skip
    refine wcCondF rfl ?_
    refine wcExit ?_
    refine wcOf ?_
    refine wcSeq ?_
    refine wcRegion ?_
    refine wlVal (opMove rfl) rfl ?_
    refine wlVal (opMove rfl) rfl ?_
    refine wlVal (opLen rfl isl25) rfl ?_
    refine wlVal (opMove rfl) rfl ?_
    refine wlVal (opMul rfl rfl) rfl ?_
    refine wlVal (opAdd rfl rfl) rfl ?_
    refine wlVal (OpVal.cast (v' := .int .i64 ((((min ins.length (3 * (IntKind.wrap .i64 (1 + (bringI fl 2))) + 1).toNat)) : Nat) : Int)) (opMin rfl rfl) (congrArg (Value.int .i64) (by rw [n3 h12]; have := h12; omega))) rfl ?_
    refine wlVal (opSliceTo slo25 rfl rfl (Nat.le_trans (Nat.min_le_left _ _) (by have := hOins.capLe; simpa using this))) rfl ?_
    refine wlVal (opAssign rfl) rfl ?_
    refine wlThen ?_
    refine wcSeq ?_
    refine wcRegion ?_
    refine wlVal (opMove rfl) rfl ?_
    refine wlCallG hC hB rfl co19 rfl rfl (crewOf_ret _ _ hC.holds (IntKind.wrap .i64 (1 + ((bringI fl 2)))) h12) ?_; rintro v11 G w hk hC hB ⟨r9, rfl, hr10⟩
    replace hl := hl.mono hk.gle; replace hOins := hOins.mono hk.gle
    obtain ⟨v12, rfl, hs13⟩ := Crew.opIs hr10
    obtain ⟨A14, cap15, rfl⟩ := hs13.form
    refine wlVal (opMove rfl) rfl ?_
    obtain ⟨G, hg17, hC, hB, hs16⟩ := Ow.freeze' (bl := []) (r := []) (Ow.take hOins (Nat.min_le_left _ _)) hC (Nat.le_refl _) hB (by have q := copied_len l; have q2 := hlen; simp only [List.length_take, maxL]; omega)
    replace hl := hl.mono hg17; replace hs13 := hs13.mono hg17
    refine wlCallO (bl := []) (r := []) hC hB rfl co10 rfl rfl (select_ret _ _ hC.holds _ (((crewI (IntKind.wrap .i64 (1 + ((bringI fl 2))))))) (Crew.mkIs (x := ((crewI (IntKind.wrap .i64 (1 + ((bringI fl 2))))))) hs13) _ ((ins.take (((min ins.length (3 * (IntKind.wrap .i64 (1 + (bringI fl 2))) + 1).toNat))))) hs16 (ren_marks hren _ (copied_marks l)) (ren_p hren _ (copied_p l))) ?_; rintro v22 G o20 w hk hC hB ⟨A18, cap19, rfl, hO21⟩
    replace hl := hl.mono hk.gle; replace hs13 := hs13.mono hk.gle; replace hs16 := hs16.mono hk.gle
    refine wlVal (opMove rfl) rfl ?_
    refine wlVal (opExtract rfl rfl) rfl ?_
    refine wlVal (opExtract rfl rfl) rfl ?_
    refine wlVal (opExtract rfl rfl) rfl ?_
    refine wlAlloc hC hB zero30 rfl ?_; intro b23 w hk hC hB
    replace hB : Bxs G w w0.heap.size ([(b23, 30, ((.int .i64 0) :: (Dig.zero.cells ++ [])))] ++ (Option.toList o20 ++ [])) := hB
    refine wlStore 0 (vs := (((selI (has (((crewI (IntKind.wrap .i64 (1 + ((bringI fl 2)))))))) (((crewI (IntKind.wrap .i64 (1 + ((bringI fl 2))))))) ((ins.take (((min ins.length (3 * (IntKind.wrap .i64 (1 + (bringI fl 2))) + 1).toNat)))))).1)).cells) (cs := ((.int .i64 0) :: (Dig.zero.cells ++ []))) (cs' := (((selI (has (((crewI (IntKind.wrap .i64 (1 + ((bringI fl 2)))))))) (((crewI (IntKind.wrap .i64 (1 + ((bringI fl 2))))))) ((ins.take (((min ins.length (3 * (IntKind.wrap .i64 (1 + (bringI fl 2))) + 1).toNat)))))).1)).cells) hC hB rfl rfl rfl sz30 rfl (by simp [Mark.cells, Stand.cells]) (by simp [Mark.cells, Stand.cells, Value.oneCell']) (by simp [Mark.cells, Stand.cells]) (by simp [Mark.cells, Stand.cells]) rfl ?_; intro w hC hB
    replace hB : Bxs G w w0.heap.size ([(b23, 30, (((selI (has (((crewI (IntKind.wrap .i64 (1 + ((bringI fl 2)))))))) (((crewI (IntKind.wrap .i64 (1 + ((bringI fl 2))))))) ((ins.take (((min ins.length (3 * (IntKind.wrap .i64 (1 + (bringI fl 2))) + 1).toNat)))))).1)).cells)] ++ (Option.toList o20 ++ [])) := hB
    refine wlVal (opAssign rfl) rfl ?_
    refine wlVal (opAssign rfl) rfl ?_
    refine wlThen ?_
    refine wcSeq ?_
    refine wcSeq ?_
    refine wcRegion ?_
    refine wlVal (opMove rfl) rfl ?_
    refine wlVal (opNeq rfl rfl) rfl ?_
    refine wlThen ?_
    cases h24 : (((selI (has (((crewI (IntKind.wrap .i64 (1 + ((bringI fl 2)))))))) (((crewI (IntKind.wrap .i64 (1 + ((bringI fl 2))))))) ((ins.take (((min ins.length (3 * (IntKind.wrap .i64 (1 + (bringI fl 2))) + 1).toNat)))))).2.2)) != 0
    · skip
      refine wcCondF rfl ?_
      refine wcSkip ?_
      refine wcOf ?_
      refine wcSeq ?_
      refine wcRegion ?_
      refine wlVal (opAssign rfl) rfl ?_
      refine wlThen ?_
      refine wcSeq ?_
      refine wcSeq ?_
      refine wcRegion ?_
      refine wlVal (opAssign rfl) rfl ?_
      refine wlThen ?_
      refine wcBlock ?_
      obtain ⟨G, hg26, hC, hB, hs25⟩ := Ow.freeze' (bl := [(b23, 30, (((selI (has (((crewI (IntKind.wrap .i64 (1 + ((bringI fl 2)))))))) (((crewI (IntKind.wrap .i64 (1 + ((bringI fl 2))))))) ((ins.take (((min ins.length (3 * (IntKind.wrap .i64 (1 + (bringI fl 2))) + 1).toNat)))))).1)).cells)]) (r := []) hO21 hC (Nat.le_refl _) hB (Nat.le_trans (selI_len _ _ _) (by decide))
      replace hl := hl.mono hg26; replace hs13 := hs13.mono hg26; replace hs16 := hs16.mono hg26
      refine WC.sub (wrInd (ι := Nat × Nat) (fun i => match i with | (t, told) => (min ins.length (3 * (IntKind.wrap .i64 (1 + (bringI fl 2))) + 1).toNat) - t) (fun i G w => match i with | (t, told) => Cx w0 G0 G w ∧ Bxs G w w0.heap.size [(b23, 30, (((selI (has (((crewI (IntKind.wrap .i64 (1 + ((bringI fl 2)))))))) (((crewI (IntKind.wrap .i64 (1 + ((bringI fl 2))))))) ((ins.take (((min ins.length (3 * (IntKind.wrap .i64 (1 + (bringI fl 2))) + 1).toNat)))))).1)).cells)] ∧ Sl G (.slice A1 l.length cap2) l ∧ Sl G (.slice A14 ((((crewI (IntKind.wrap .i64 (1 + ((bringI fl 2)))))).nodes).length) cap15) (((crewI (IntKind.wrap .i64 (1 + ((bringI fl 2)))))).nodes) ∧ Sl G (.slice insA (((min ins.length (3 * (IntKind.wrap .i64 (1 + (bringI fl 2))) + 1).toNat))) insC) ((ins.take (((min ins.length (3 * (IntKind.wrap .i64 (1 + (bringI fl 2))) + 1).toNat))))) ∧ Sl G (.slice A18 ((((selI (has (((crewI (IntKind.wrap .i64 (1 + ((bringI fl 2)))))))) (((crewI (IntKind.wrap .i64 (1 + ((bringI fl 2))))))) ((ins.take (((min ins.length (3 * (IntKind.wrap .i64 (1 + (bringI fl 2))) + 1).toNat)))))).2.1)).length) cap19) (((selI (has (((crewI (IntKind.wrap .i64 (1 + ((bringI fl 2)))))))) (((crewI (IntKind.wrap .i64 (1 + ((bringI fl 2))))))) ((ins.take (((min ins.length (3 * (IntKind.wrap .i64 (1 + (bringI fl 2))) + 1).toNat)))))).2.1)) ∧ told ≤ t ∧ told = ((ins.take (min ins.length (3 * (IntKind.wrap .i64 (1 + (bringI fl 2))) + 1).toNat)).take t).countP (fun x => x.marks.any (fun y => decide (y = (selI (has (crewI (IntKind.wrap .i64 (1 + (bringI fl 2))))) (crewI (IntKind.wrap .i64 (1 + (bringI fl 2)))) (ins.take (min ins.length (3 * (IntKind.wrap .i64 (1 + (bringI fl 2))) + 1).toNat))).1)))) (fun i => match i with | (t, told) => ((((((Env.nil.put 5 (.int .i64 (IntKind.wrap .i64 (1 + ((bringI fl 2)))))).put 6 (.slice insA (((min ins.length (3 * (IntKind.wrap .i64 (1 + (bringI fl 2))) + 1).toNat))) insC)).put 8 (.pointer (some ⟨b23, 0, none⟩))).put 9 (.slice A18 ((((selI (has (((crewI (IntKind.wrap .i64 (1 + ((bringI fl 2)))))))) (((crewI (IntKind.wrap .i64 (1 + ((bringI fl 2))))))) ((ins.take (((min ins.length (3 * (IntKind.wrap .i64 (1 + (bringI fl 2))) + 1).toNat)))))).2.1)).length) cap19)).put 11 (.int .i64 (((told : Nat) : Int)))).put 12 (.int .i64 (((t : Nat) : Int))))) ?_ (0, 0) _ _ ⟨hC, hB, hl, hs13, hs16, hs25, (Nat.le_refl _), (by simp)⟩) (fun _ ha => ((((((ha.start.cons ha (t := 5) rfl).cons ha (t := 6) rfl).cons ha (t := 8) rfl).cons ha (t := 9) rfl).cons ha (t := 11) rfl).cons ha (t := 12) rfl))
      rintro ⟨t, told⟩ G w N1 IH1 ⟨hC, hB, hl, hs13, hs16, hs25, htk, ht⟩
      show WC _ _ _ _ ((((((Env.nil.put 5 (.int .i64 (IntKind.wrap .i64 (1 + ((bringI fl 2)))))).put 6 (.slice insA (((min ins.length (3 * (IntKind.wrap .i64 (1 + (bringI fl 2))) + 1).toNat))) insC)).put 8 (.pointer (some ⟨b23, 0, none⟩))).put 9 (.slice A18 ((((selI (has (((crewI (IntKind.wrap .i64 (1 + ((bringI fl 2)))))))) (((crewI (IntKind.wrap .i64 (1 + ((bringI fl 2))))))) ((ins.take (((min ins.length (3 * (IntKind.wrap .i64 (1 + (bringI fl 2))) + 1).toNat)))))).2.1)).length) cap19)).put 11 (.int .i64 (((told : Nat) : Int)))).put 12 (.int .i64 (((t : Nat) : Int)))) w
      refine wcSeq ?_
      refine wcSeq ?_
      refine wcRegion ?_
      refine wlVal (opMove rfl) rfl ?_
      refine wlVal (opMove rfl) rfl ?_
      refine wlVal (opLen rfl isl25) rfl ?_
      refine wlVal (opLssN rfl rfl) rfl ?_
      refine wlThen ?_
      cases h27 : decide (t < ((min ins.length (3 * (IntKind.wrap .i64 (1 + (bringI fl 2))) + 1).toNat)))
      · skip
        refine wcCondF rfl ?_
        refine wcExit ?_
        refine wcOf ?_
        refine wcSeq ?_
        refine wcSeq ?_
        refine wcRegion ?_
        refine wlVal (opMove rfl) rfl ?_
        refine wlVal (opMove rfl) rfl ?_
        refine wlVal (opAdd rfl rfl) rfl ?_
        refine wlVal (opLss rfl rfl) rfl ?_
        refine wlVal (opMove rfl) rfl ?_
        cases h28 : decide (((told : Nat) : Int) < IntKind.wrap .i64 (IntKind.wrap .i64 (1 + ((bringI fl 2))) + 1))
        · skip
          refine wlOn rfl rfl ?_
          refine wlVal (opMove rfl) rfl ?_
          refine wlOn rfl rfl ?_
          refine wlVal (opLen rfl isl31) rfl ?_
          refine wlOn rfl rfl ?_
          refine wlVal (opGtr rfl rfl) rfl ?_
          refine wlVal (opPickF rfl rfl) rfl ?_
          refine wlVal (opMove rfl) rfl ?_
          cases h29 : decide (8 < (((((selI (has (((crewI (IntKind.wrap .i64 (1 + ((bringI fl 2)))))))) (((crewI (IntKind.wrap .i64 (1 + ((bringI fl 2))))))) ((ins.take (((min ins.length (3 * (IntKind.wrap .i64 (1 + (bringI fl 2))) + 1).toNat)))))).2.1)).length : Nat) : Int))
          · skip
            refine wlOn rfl rfl ?_
            refine wlVal (opMove rfl) rfl ?_
            refine wlOn rfl rfl ?_
            refine wlVal (opLen rfl isl31) rfl ?_
            refine wlOn rfl rfl ?_
            refine wlVal (opGtr rfl rfl) rfl ?_
            refine wlOn rfl rfl ?_
            refine wlVal (opMove rfl) rfl ?_
            cases h30 : decide (0 < (((((selI (has (((crewI (IntKind.wrap .i64 (1 + ((bringI fl 2)))))))) (((crewI (IntKind.wrap .i64 (1 + ((bringI fl 2))))))) ((ins.take (((min ins.length (3 * (IntKind.wrap .i64 (1 + (bringI fl 2))) + 1).toNat)))))).2.1)).length : Nat) : Int))
            · skip
              refine wlOff rfl rfl rfl rfl ?_
              refine wlOff rfl rfl rfl rfl ?_
              refine wlOff rfl rfl rfl rfl ?_
              refine wlOff rfl rfl rfl rfl ?_
              refine wlOff rfl rfl rfl rfl ?_
              refine wlOff rfl rfl rfl rfl ?_
              refine wlOff rfl rfl rfl rfl ?_
              refine wlOff rfl rfl rfl rfl ?_
              refine wlOff rfl rfl rfl rfl ?_
              refine wlOn rfl rfl ?_
              refine wlVal (opPickF rfl rfl) rfl ?_
              refine wlVal (opPickF rfl rfl) rfl ?_
              refine wlThen ?_
              refine wcCondF rfl ?_
              refine wcSkip ?_
              refine wcOf ?_
              refine wcSeq ?_
              refine wcSeq ?_
              refine wcRegion ?_
              refine wlVal (opAssign rfl) rfl ?_
              refine wlThen ?_
              refine wcBlock ?_
              refine WC.sub (wrInd (ι := Nat) (fun g => (((selI (has (((crewI (IntKind.wrap .i64 (1 + ((bringI fl 2)))))))) (((crewI (IntKind.wrap .i64 (1 + ((bringI fl 2))))))) ((ins.take (((min ins.length (3 * (IntKind.wrap .i64 (1 + (bringI fl 2))) + 1).toNat)))))).2.1)).length - g) (fun g G w => Cx w0 G0 G w ∧ Bxs G w w0.heap.size [(b23, 30, (((selI (has (((crewI (IntKind.wrap .i64 (1 + ((bringI fl 2)))))))) (((crewI (IntKind.wrap .i64 (1 + ((bringI fl 2))))))) ((ins.take (((min ins.length (3 * (IntKind.wrap .i64 (1 + (bringI fl 2))) + 1).toNat)))))).1)).cells)] ∧ Sl G (.slice A1 l.length cap2) l ∧ Sl G (.slice A14 ((((crewI (IntKind.wrap .i64 (1 + ((bringI fl 2)))))).nodes).length) cap15) (((crewI (IntKind.wrap .i64 (1 + ((bringI fl 2)))))).nodes) ∧ Sl G (.slice insA (((min ins.length (3 * (IntKind.wrap .i64 (1 + (bringI fl 2))) + 1).toNat))) insC) ((ins.take (((min ins.length (3 * (IntKind.wrap .i64 (1 + (bringI fl 2))) + 1).toNat))))) ∧ Sl G (.slice A18 ((((selI (has (((crewI (IntKind.wrap .i64 (1 + ((bringI fl 2)))))))) (((crewI (IntKind.wrap .i64 (1 + ((bringI fl 2))))))) ((ins.take (((min ins.length (3 * (IntKind.wrap .i64 (1 + (bringI fl 2))) + 1).toNat)))))).2.1)).length) cap19) (((selI (has (((crewI (IntKind.wrap .i64 (1 + ((bringI fl 2)))))))) (((crewI (IntKind.wrap .i64 (1 + ((bringI fl 2))))))) ((ins.take (((min ins.length (3 * (IntKind.wrap .i64 (1 + (bringI fl 2))) + 1).toNat)))))).2.1))) (fun g => (((((Env.nil.put 5 (.int .i64 (IntKind.wrap .i64 (1 + ((bringI fl 2)))))).put 6 (.slice insA (((min ins.length (3 * (IntKind.wrap .i64 (1 + (bringI fl 2))) + 1).toNat))) insC)).put 8 (.pointer (some ⟨b23, 0, none⟩))).put 9 (.slice A18 ((((selI (has (((crewI (IntKind.wrap .i64 (1 + ((bringI fl 2)))))))) (((crewI (IntKind.wrap .i64 (1 + ((bringI fl 2))))))) ((ins.take (((min ins.length (3 * (IntKind.wrap .i64 (1 + (bringI fl 2))) + 1).toNat)))))).2.1)).length) cap19)).put 14 (.int .i64 (((g : Nat) : Int))))) ?_ (0) _ _ ⟨hC, hB, hl, hs13, hs16, hs25⟩) (fun _ ha => (((((ha.start.cons ha (t := 5) rfl).cons ha (t := 6) rfl).cons ha (t := 8) rfl).cons ha (t := 9) rfl).cons ha (t := 14) rfl))
              rintro g G w N3 IH3 ⟨hC, hB, hl, hs13, hs16, hs25⟩
              show WC _ _ _ _ (((((Env.nil.put 5 (.int .i64 (IntKind.wrap .i64 (1 + ((bringI fl 2)))))).put 6 (.slice insA (((min ins.length (3 * (IntKind.wrap .i64 (1 + (bringI fl 2))) + 1).toNat))) insC)).put 8 (.pointer (some ⟨b23, 0, none⟩))).put 9 (.slice A18 ((((selI (has (((crewI (IntKind.wrap .i64 (1 + ((bringI fl 2)))))))) (((crewI (IntKind.wrap .i64 (1 + ((bringI fl 2))))))) ((ins.take (((min ins.length (3 * (IntKind.wrap .i64 (1 + (bringI fl 2))) + 1).toNat)))))).2.1)).length) cap19)).put 14 (.int .i64 (((g : Nat) : Int)))) w
              refine wcSeq ?_
              refine wcSeq ?_
              refine wcRegion ?_
              refine wlVal (opMove rfl) rfl ?_
              refine wlVal (opMove rfl) rfl ?_
              refine wlVal (opLen rfl isl31) rfl ?_
              refine wlVal (opLssN rfl rfl) rfl ?_
              refine wlThen ?_
              cases h31 : decide (g < (((selI (has (((crewI (IntKind.wrap .i64 (1 + ((bringI fl 2)))))))) (((crewI (IntKind.wrap .i64 (1 + ((bringI fl 2))))))) ((ins.take (((min ins.length (3 * (IntKind.wrap .i64 (1 + (bringI fl 2))) + 1).toNat)))))).2.1)).length)
              · skip
                refine wcCondF rfl ?_
                refine wcExit ?_
                refine wcOf ?_
                refine wcSeq ?_
                refine wcRegion ?_
                refine wlCallS hC hB rfl co14 rfl rfl (awake_ret _ _ hC.holds ) ?_; intro w hk hC hB
                refine wlVal (opAssign rfl) rfl ?_
                refine wlThen ?_
                refine wcRet ?_
                exact fun ac_ ha => hQ _ _ _ (results1 ha rfl rfl) ha.df (endS hC hw rfl)
              · skip
                refine wcCondT rfl ?_
                refine wcSkip ?_
                refine wcOf ?_
                refine wcSeq ?_
                refine wcBlock ?_
                refine wcSeq ?_
                refine wcRegion ?_
                refine wlVal (opMove rfl) rfl ?_
                refine wlVal (opMove rfl) rfl ?_
                obtain ⟨x32, hx33⟩ : ∃ y_, (((selI (has (((crewI (IntKind.wrap .i64 (1 + ((bringI fl 2)))))))) (((crewI (IntKind.wrap .i64 (1 + ((bringI fl 2))))))) ((ins.take (((min ins.length (3 * (IntKind.wrap .i64 (1 + (bringI fl 2))) + 1).toNat)))))).2.1))[g]? = some y_ := ⟨_, List.getElem?_eq_getElem (of_decide_eq_true h31)⟩
                obtain ⟨b34, o35, row36, hA39, hr37, hi38⟩ := hs25.elem hx33; subst hA39
                obtain rfl := hi38
                refine wlVal (opIndexAddr rfl rfl slo31 (of_decide_eq_true h31)) rfl ?_
                refine wlVal (opLoadRow (cs := x32.cells) rfl (RowG.range hC.holds hr37) row30 (by simp [Mark.cells, Stand.cells])) rfl ?_
                refine wlAlloc hC hB zero30 rfl ?_; intro b40 w hk hC hB
                refine wlStore 0 (vs := x32.cells) (cs := ((.int .i64 0) :: (Dig.zero.cells ++ []))) (cs' := x32.cells) hC hB rfl rfl rfl sz30 rfl (by simp [Mark.cells, Stand.cells]) (by simp [Mark.cells, Stand.cells, Value.oneCell']) (by simp [Mark.cells, Stand.cells]) (by simp [Mark.cells, Stand.cells]) rfl ?_; intro w hC hB
                refine wlThen ?_
                refine wcSeq ?_
                refine wcRegion ?_
                refine wlVal (opAssign rfl) rfl ?_
                refine wlThen ?_
                refine wcSeq ?_
                refine wcSeq ?_
                refine wcRegion ?_
                refine wlVal (opAssign rfl) rfl ?_
                refine wlThen ?_
                refine wcBlock ?_
                refine WC.sub (wrInd (ι := Nat × Nat) (fun i => match i with | (v, vo) => (min ins.length (3 * (IntKind.wrap .i64 (1 + (bringI fl 2))) + 1).toNat) - v) (fun i G w => match i with | (v, vo) => Cx w0 G0 G w ∧ Bxs G w w0.heap.size [(b40, 30, x32.cells), (b23, 30, (((selI (has (((crewI (IntKind.wrap .i64 (1 + ((bringI fl 2)))))))) (((crewI (IntKind.wrap .i64 (1 + ((bringI fl 2))))))) ((ins.take (((min ins.length (3 * (IntKind.wrap .i64 (1 + (bringI fl 2))) + 1).toNat)))))).1)).cells)] ∧ Sl G (.slice A1 l.length cap2) l ∧ Sl G (.slice A14 ((((crewI (IntKind.wrap .i64 (1 + ((bringI fl 2)))))).nodes).length) cap15) (((crewI (IntKind.wrap .i64 (1 + ((bringI fl 2)))))).nodes) ∧ Sl G (.slice insA (((min ins.length (3 * (IntKind.wrap .i64 (1 + (bringI fl 2))) + 1).toNat))) insC) ((ins.take (((min ins.length (3 * (IntKind.wrap .i64 (1 + (bringI fl 2))) + 1).toNat))))) ∧ Sl G (.slice (some ⟨b34, o35, none⟩) ((((selI (has (((crewI (IntKind.wrap .i64 (1 + ((bringI fl 2)))))))) (((crewI (IntKind.wrap .i64 (1 + ((bringI fl 2))))))) ((ins.take (((min ins.length (3 * (IntKind.wrap .i64 (1 + (bringI fl 2))) + 1).toNat)))))).2.1)).length) cap19) (((selI (has (((crewI (IntKind.wrap .i64 (1 + ((bringI fl 2)))))))) (((crewI (IntKind.wrap .i64 (1 + ((bringI fl 2))))))) ((ins.take (((min ins.length (3 * (IntKind.wrap .i64 (1 + (bringI fl 2))) + 1).toNat)))))).2.1)) ∧ RowG G b34 (o35 + g * 33) x32.cells ∧ vo ≤ v ∧ vo = ((ins.take (min ins.length (3 * (IntKind.wrap .i64 (1 + (bringI fl 2))) + 1).toNat)).take v).countP (fun x => x.q.any (fun z => (z.seq == x32.seq) && decide (z.dig = x32.dig)))) (fun i => match i with | (v, vo) => ((((((((Env.nil.put 5 (.int .i64 (IntKind.wrap .i64 (1 + ((bringI fl 2)))))).put 6 (.slice insA (((min ins.length (3 * (IntKind.wrap .i64 (1 + (bringI fl 2))) + 1).toNat))) insC)).put 8 (.pointer (some ⟨b23, 0, none⟩))).put 9 (.slice (some ⟨b34, o35, none⟩) ((((selI (has (((crewI (IntKind.wrap .i64 (1 + ((bringI fl 2)))))))) (((crewI (IntKind.wrap .i64 (1 + ((bringI fl 2))))))) ((ins.take (((min ins.length (3 * (IntKind.wrap .i64 (1 + (bringI fl 2))) + 1).toNat)))))).2.1)).length) cap19)).put 14 (.int .i64 (((g : Nat) : Int)))).put 15 (.pointer (some ⟨b40, 0, none⟩))).put 16 (.int .i64 (((vo : Nat) : Int)))).put 17 (.int .i64 (((v : Nat) : Int))))) ?_ (0, 0) _ _ ⟨hC, hB, hl, hs13, hs16, hs25, hr37, (Nat.le_refl _), (by simp)⟩) (fun _ ha => ((((((((ha.start.cons ha (t := 5) rfl).cons ha (t := 6) rfl).cons ha (t := 8) rfl).cons ha (t := 9) rfl).cons ha (t := 14) rfl).cons ha (t := 15) rfl).cons ha (t := 16) rfl).cons ha (t := 17) rfl))
                rintro ⟨v, vo⟩ G w N4 IH4 ⟨hC, hB, hl, hs13, hs16, hs25, hr37, hvo, hwo⟩
                show WC _ _ _ _ ((((((((Env.nil.put 5 (.int .i64 (IntKind.wrap .i64 (1 + ((bringI fl 2)))))).put 6 (.slice insA (((min ins.length (3 * (IntKind.wrap .i64 (1 + (bringI fl 2))) + 1).toNat))) insC)).put 8 (.pointer (some ⟨b23, 0, none⟩))).put 9 (.slice (some ⟨b34, o35, none⟩) ((((selI (has (((crewI (IntKind.wrap .i64 (1 + ((bringI fl 2)))))))) (((crewI (IntKind.wrap .i64 (1 + ((bringI fl 2))))))) ((ins.take (((min ins.length (3 * (IntKind.wrap .i64 (1 + (bringI fl 2))) + 1).toNat)))))).2.1)).length) cap19)).put 14 (.int .i64 (((g : Nat) : Int)))).put 15 (.pointer (some ⟨b40, 0, none⟩))).put 16 (.int .i64 (((vo : Nat) : Int)))).put 17 (.int .i64 (((v : Nat) : Int)))) w
                refine wcSeq ?_
                refine wcSeq ?_
                refine wcRegion ?_
                refine wlVal (opMove rfl) rfl ?_
                refine wlVal (opMove rfl) rfl ?_
                refine wlVal (opLen rfl isl25) rfl ?_
                refine wlVal (opLssN rfl rfl) rfl ?_
                refine wlThen ?_
                cases h41 : decide (v < ((min ins.length (3 * (IntKind.wrap .i64 (1 + (bringI fl 2))) + 1).toNat)))
                · skip
                  refine wcCondF rfl ?_
                  refine wcExit ?_
                  refine wcOf ?_
                  refine wcSeq ?_
                  refine wcRegion ?_
                  refine wlVal (opFieldAddr rfl fo30_0) rfl ?_
                  refine wlVal (opLoadOne (v := (.int .i64 x32.seq)) rfl (hB.cell (i := 0) rfl (by simp [Mark.cells, Stand.cells])) one3) rfl ?_
                  refine wlVal (opFieldAddr rfl fo30_0) rfl ?_
                  refine wlVal (opLoadOne (v := (.int .i64 (((selI (has (((crewI (IntKind.wrap .i64 (1 + ((bringI fl 2)))))))) (((crewI (IntKind.wrap .i64 (1 + ((bringI fl 2))))))) ((ins.take (((min ins.length (3 * (IntKind.wrap .i64 (1 + (bringI fl 2))) + 1).toNat)))))).1).seq))) rfl (hB.cell (i := 1) rfl (by simp [Mark.cells, Stand.cells])) one3) rfl ?_
                  refine wlVal (opAdd rfl rfl) rfl ?_
                  refine wlVal (opMove rfl) rfl ?_
                  refine wlVal (opAdd rfl rfl) rfl ?_
                  refine wlVal (opNeq rfl rfl) rfl ?_
                  refine wlVal (opMove rfl) rfl ?_
                  cases h42 : x32.seq != (IntKind.wrap .i64 (IntKind.wrap .i64 (((selI (has (((crewI (IntKind.wrap .i64 (1 + ((bringI fl 2)))))))) (((crewI (IntKind.wrap .i64 (1 + ((bringI fl 2))))))) ((ins.take (((min ins.length (3 * (IntKind.wrap .i64 (1 + (bringI fl 2))) + 1).toNat)))))).1).seq + 1) + ((g : Nat) : Int)))
                  · skip
                    refine wlOn rfl rfl ?_
                    refine wlVal (opFieldAddr rfl fo30_1) rfl ?_
                    refine wlOn rfl rfl ?_
                    refine wlVal (opLoadRow (cs := x32.dig.cells) rfl (hB.range (i := 0) (m := 32) rfl (by simp [Mark.cells, Stand.cells])) row28 (by simp [Mark.cells, Stand.cells])) rfl ?_
                    refine wlOn rfl rfl ?_
                    refine wlVal (opBuildArr (ps := []) (cs := Dig.zero.cells) ar28 zero28 rfl rfl (by first | rfl | simp [buildA, Value.cells])) rfl ?_
                    refine wlOn rfl rfl ?_
                    refine wlVal (opNeRow (eq28 _ x32.dig Dig.zero) eg28 rfl rfl) rfl ?_
                    refine wlOn rfl rfl ?_
                    refine wlVal (opMove rfl) rfl ?_
                    cases h43 : decide (x32.dig = Dig.zero)
                    · skip
                      refine wlOn rfl rfl ?_
                      refine wlVal (opMove rfl) rfl ?_
                      refine wlOn rfl rfl ?_
                      refine wlVal (opMove rfl) rfl ?_
                      refine wlOn rfl rfl ?_
                      refine wlVal (opAdd rfl rfl) rfl ?_
                      refine wlOn rfl rfl ?_
                      refine wlVal (opLss rfl rfl) rfl ?_
                      refine wlOn rfl rfl ?_
                      refine wlVal (opPickT rfl rfl) rfl ?_
                      refine wlVal (opPickF rfl rfl) rfl ?_
                      refine wlThen ?_
                      cases h44 : decide (((vo : Nat) : Int) < IntKind.wrap .i64 (IntKind.wrap .i64 (1 + ((bringI fl 2))) + 1))
                      · skip
                        refine wcCondF rfl ?_
                        refine wcSkip ?_
                        refine wcOf ?_
                        refine wcRegion ?_
                        refine wlVal (opMove rfl) rfl ?_
                        refine wlVal (opIncr rfl rfl (by have q := of_decide_eq_true h31; have := selI_len (has (crewI (IntKind.wrap .i64 (1 + (bringI fl 2))))) (crewI (IntKind.wrap .i64 (1 + (bringI fl 2)))) (ins.take (min ins.length (3 * (IntKind.wrap .i64 (1 + (bringI fl 2))) + 1).toNat)); omega)) rfl ?_
                        refine wlVal (opAssign rfl) rfl ?_
                        refine wlRound ?_
                        exact (IH3 (g + 1) _ _ ⟨hC, hB.tail, hl, hs13, hs16, hs25⟩ (by have q := of_decide_eq_true h31; show (((selI (has (((crewI (IntKind.wrap .i64 (1 + ((bringI fl 2)))))))) (((crewI (IntKind.wrap .i64 (1 + ((bringI fl 2))))))) ((ins.take (((min ins.length (3 * (IntKind.wrap .i64 (1 + (bringI fl 2))) + 1).toNat)))))).2.1)).length - (g + 1) < (((selI (has (((crewI (IntKind.wrap .i64 (1 + ((bringI fl 2)))))))) (((crewI (IntKind.wrap .i64 (1 + ((bringI fl 2))))))) ((ins.take (((min ins.length (3 * (IntKind.wrap .i64 (1 + (bringI fl 2))) + 1).toNat)))))).2.1)).length - g; omega)).sub (fun _ ha => (((((ha.start.cons ha (t := 5) rfl).cons ha (t := 6) rfl).cons ha (t := 8) rfl).cons ha (t := 9) rfl).cons ha (t := 14) rfl))
                      · skip
                        refine wcCondT rfl ?_
                        refine wcSeq ?_
                        refine wcRegion ?_
                        refine wlVal (opAssign rfl) rfl ?_
                        refine wlThen ?_
                        refine wcRet ?_
                        exact fun ac_ ha => hQ _ _ _ (results1 ha rfl rfl) ha.df (endS hC hw (by have hV := vouched_sel h12 (node_ok h12 hren h8) h24; have q := of_decide_eq_true h44; have e4 : List.take v (ins.take (min ins.length (3 * (IntKind.wrap .i64 (1 + (bringI fl 2))) + 1).toNat)) = (ins.take (min ins.length (3 * (IntKind.wrap .i64 (1 + (bringI fl 2))) + 1).toNat)) := List.take_of_length_le (by have q4 := of_decide_eq_false h41; simp only [List.length_take]; omega); rw [IntWalk.i64_in _ (by have := h12; omega), hwo, e4] at q; have := (hV.2.2 _ _ hx33).2 (of_decide_eq_false h43); omega))
                    · skip
                      refine wlOff rfl rfl rfl rfl ?_
                      refine wlOff rfl rfl rfl rfl ?_
                      refine wlOff rfl rfl rfl rfl ?_
                      refine wlOff rfl rfl rfl rfl ?_
                      refine wlOn rfl rfl ?_
                      refine wlVal (opPickF rfl rfl) rfl ?_
                      refine wlVal (opPickF rfl rfl) rfl ?_
                      refine wlThen ?_
                      refine wcCondF rfl ?_
                      refine wcSkip ?_
                      refine wcOf ?_
                      refine wcRegion ?_
                      refine wlVal (opMove rfl) rfl ?_
                      refine wlVal (opIncr rfl rfl (by have q := of_decide_eq_true h31; have := selI_len (has (crewI (IntKind.wrap .i64 (1 + (bringI fl 2))))) (crewI (IntKind.wrap .i64 (1 + (bringI fl 2)))) (ins.take (min ins.length (3 * (IntKind.wrap .i64 (1 + (bringI fl 2))) + 1).toNat)); omega)) rfl ?_
                      refine wlVal (opAssign rfl) rfl ?_
                      refine wlRound ?_
                      exact (IH3 (g + 1) _ _ ⟨hC, hB.tail, hl, hs13, hs16, hs25⟩ (by have q := of_decide_eq_true h31; show (((selI (has (((crewI (IntKind.wrap .i64 (1 + ((bringI fl 2)))))))) (((crewI (IntKind.wrap .i64 (1 + ((bringI fl 2))))))) ((ins.take (((min ins.length (3 * (IntKind.wrap .i64 (1 + (bringI fl 2))) + 1).toNat)))))).2.1)).length - (g + 1) < (((selI (has (((crewI (IntKind.wrap .i64 (1 + ((bringI fl 2)))))))) (((crewI (IntKind.wrap .i64 (1 + ((bringI fl 2))))))) ((ins.take (((min ins.length (3 * (IntKind.wrap .i64 (1 + (bringI fl 2))) + 1).toNat)))))).2.1)).length - g; omega)).sub (fun _ ha => (((((ha.start.cons ha (t := 5) rfl).cons ha (t := 6) rfl).cons ha (t := 8) rfl).cons ha (t := 9) rfl).cons ha (t := 14) rfl))
                  · skip
                    refine wlOff rfl rfl rfl rfl ?_
                    refine wlOff rfl rfl rfl rfl ?_
                    refine wlOff rfl rfl rfl rfl ?_
                    refine wlOff rfl rfl rfl rfl ?_
                    refine wlOff rfl rfl rfl rfl ?_
                    refine wlOffU rfl rfl rfl ?_
                    refine wlOffU rfl rfl rfl ?_
                    refine wlOffU rfl rfl rfl ?_
                    refine wlOffU rfl rfl rfl ?_
                    refine wlOff rfl rfl rfl rfl ?_
                    refine wlVal (opPickT rfl rfl) rfl ?_
                    refine wlThen ?_
                    refine wcCondT rfl ?_
                    refine wcSeq ?_
                    refine wcRegion ?_
                    refine wlVal (opAssign rfl) rfl ?_
                    refine wlThen ?_
                    refine wcRet ?_
                    exact fun ac_ ha => hQ _ _ _ (results1 ha rfl rfl) ha.df (endS hC hw (by have hV := vouched_sel h12 (node_ok h12 hren h8) h24; have q0 := h42; have q1 := hV.2.2 _ _ hx33; rw [q1.1] at q0; simp at q0))
                · skip
                  refine wcCondT rfl ?_
                  refine wcSkip ?_
                  refine wcOf ?_
                  refine wcSeq ?_
                  refine wcBlock ?_
                  refine wcSeq ?_
                  refine wcRegion ?_
                  refine wlVal (opAssign rfl) rfl ?_
                  refine wlThen ?_
                  refine wcBlock ?_
                  obtain ⟨x45, hx46⟩ : ∃ y_, ((ins.take (((min ins.length (3 * (IntKind.wrap .i64 (1 + (bringI fl 2))) + 1).toNat)))))[v]? = some y_ := ⟨_, List.getElem?_eq_getElem (by have q := of_decide_eq_true h41; simpa using q)⟩
                  obtain ⟨b47, o48, row49, hA52, hr50, hi51⟩ := hs16.elem hx46; subst hA52
                  obtain ⟨v53, v55, v57, rfl, hs54, hs56, hs58⟩ := Change.opIs hi51
                  obtain ⟨A59, cap60, rfl⟩ := hs54.form
                  obtain ⟨A61, cap62, rfl⟩ := hs56.form
                  obtain ⟨A63, cap64, rfl⟩ := hs58.form
                  refine WC.sub (wrInd (ι := Nat × Nat) (fun i => match i with | (i, u) => x45.q.length - i) (fun i G w => match i with | (i, u) => Cx w0 G0 G w ∧ Bxs G w w0.heap.size [(b40, 30, x32.cells), (b23, 30, (((selI (has (((crewI (IntKind.wrap .i64 (1 + ((bringI fl 2)))))))) (((crewI (IntKind.wrap .i64 (1 + ((bringI fl 2))))))) ((ins.take (((min ins.length (3 * (IntKind.wrap .i64 (1 + (bringI fl 2))) + 1).toNat)))))).1)).cells)] ∧ Sl G (.slice A1 l.length cap2) l ∧ Sl G (.slice A14 ((((crewI (IntKind.wrap .i64 (1 + ((bringI fl 2)))))).nodes).length) cap15) (((crewI (IntKind.wrap .i64 (1 + ((bringI fl 2)))))).nodes) ∧ Sl G (.slice (some ⟨b47, o48, none⟩) (((min ins.length (3 * (IntKind.wrap .i64 (1 + (bringI fl 2))) + 1).toNat))) insC) ((ins.take (((min ins.length (3 * (IntKind.wrap .i64 (1 + (bringI fl 2))) + 1).toNat))))) ∧ Sl G (.slice (some ⟨b34, o35, none⟩) ((((selI (has (((crewI (IntKind.wrap .i64 (1 + ((bringI fl 2)))))))) (((crewI (IntKind.wrap .i64 (1 + ((bringI fl 2))))))) ((ins.take (((min ins.length (3 * (IntKind.wrap .i64 (1 + (bringI fl 2))) + 1).toNat)))))).2.1)).length) cap19) (((selI (has (((crewI (IntKind.wrap .i64 (1 + ((bringI fl 2)))))))) (((crewI (IntKind.wrap .i64 (1 + ((bringI fl 2))))))) ((ins.take (((min ins.length (3 * (IntKind.wrap .i64 (1 + (bringI fl 2))) + 1).toNat)))))).2.1)) ∧ RowG G b34 (o35 + g * 33) x32.cells ∧ Sl G (.slice A59 x45.marks.length cap60) x45.marks ∧ Sl G (.slice A61 x45.p.length cap62) x45.p ∧ Sl G (.slice A63 x45.q.length cap64) x45.q ∧ RowG G b47 (o48 + v * 6) [(.int .i64 x45.node), (.int .i64 x45.view), (.int .i64 x45.low), (.slice A59 x45.marks.length cap60), (.slice A61 x45.p.length cap62), (.slice A63 x45.q.length cap64)] ∧ u = vo ∧ (x45.q.drop i).any (fun z => (z.seq == x32.seq) && decide (z.dig = x32.dig)) = x45.q.any (fun z => (z.seq == x32.seq) && decide (z.dig = x32.dig))) (fun i => match i with | (i, u) => (((((((((Env.nil.put 5 (.int .i64 (IntKind.wrap .i64 (1 + ((bringI fl 2)))))).put 6 (.slice (some ⟨b47, o48, none⟩) (((min ins.length (3 * (IntKind.wrap .i64 (1 + (bringI fl 2))) + 1).toNat))) insC)).put 8 (.pointer (some ⟨b23, 0, none⟩))).put 9 (.slice (some ⟨b34, o35, none⟩) ((((selI (has (((crewI (IntKind.wrap .i64 (1 + ((bringI fl 2)))))))) (((crewI (IntKind.wrap .i64 (1 + ((bringI fl 2))))))) ((ins.take (((min ins.length (3 * (IntKind.wrap .i64 (1 + (bringI fl 2))) + 1).toNat)))))).2.1)).length) cap19)).put 14 (.int .i64 (((g : Nat) : Int)))).put 15 (.pointer (some ⟨b40, 0, none⟩))).put 16 (.int .i64 (((u : Nat) : Int)))).put 17 (.int .i64 (((v : Nat) : Int)))).put 18 (.int .i64 (((i : Nat) : Int))))) ?_ (0, vo) _ _ ⟨hC, hB, hl, hs13, hs16, hs25, hr37, hs54, hs56, hs58, hr50, rfl, rfl⟩) (fun _ ha => (((((((((ha.start.cons ha (t := 5) rfl).cons ha (t := 6) rfl).cons ha (t := 8) rfl).cons ha (t := 9) rfl).cons ha (t := 14) rfl).cons ha (t := 15) rfl).cons ha (t := 16) rfl).cons ha (t := 17) rfl).cons ha (t := 18) rfl))
                  rintro ⟨i, u⟩ G w N5 IH5 ⟨hC, hB, hl, hs13, hs16, hs25, hr37, hs54, hs56, hs58, hr50, hu, hJ⟩
                  show WC _ _ _ _ (((((((((Env.nil.put 5 (.int .i64 (IntKind.wrap .i64 (1 + ((bringI fl 2)))))).put 6 (.slice (some ⟨b47, o48, none⟩) (((min ins.length (3 * (IntKind.wrap .i64 (1 + (bringI fl 2))) + 1).toNat))) insC)).put 8 (.pointer (some ⟨b23, 0, none⟩))).put 9 (.slice (some ⟨b34, o35, none⟩) ((((selI (has (((crewI (IntKind.wrap .i64 (1 + ((bringI fl 2)))))))) (((crewI (IntKind.wrap .i64 (1 + ((bringI fl 2))))))) ((ins.take (((min ins.length (3 * (IntKind.wrap .i64 (1 + (bringI fl 2))) + 1).toNat)))))).2.1)).length) cap19)).put 14 (.int .i64 (((g : Nat) : Int)))).put 15 (.pointer (some ⟨b40, 0, none⟩))).put 16 (.int .i64 (((u : Nat) : Int)))).put 17 (.int .i64 (((v : Nat) : Int)))).put 18 (.int .i64 (((i : Nat) : Int)))) w
                  refine wcSeq ?_
                  refine wcSeq ?_
                  refine wcRegion ?_
                  refine wlVal (opMove rfl) rfl ?_
                  refine wlVal (opMove rfl) rfl ?_
                  refine wlVal (opMove rfl) rfl ?_
                  refine wlVal (opIndexAddr rfl rfl slo25 (by have q := of_decide_eq_true h41; simpa using q)) rfl ?_
                  refine wlVal (opFieldAddr rfl fo49_5) rfl ?_
                  refine wlVal (opLoadOne (v := (.slice A63 x45.q.length cap64)) rfl (RowG.cell hC.holds hr50 (j := 5) rfl) one47) rfl ?_
                  refine wlVal (opLen rfl isl47) rfl ?_
                  refine wlVal (opLssN rfl rfl) rfl ?_
                  refine wlThen ?_
                  cases h65 : decide (i < x45.q.length)
                  · skip
                    refine wcCondF rfl ?_
                    refine wcExit ?_
                    refine wcOf ?_
                    refine wcRegion ?_
                    refine wlVal (opMove rfl) rfl ?_
                    refine wlVal (opIncr rfl rfl (by have q := of_decide_eq_true h41; have q9 := copied_len l; have q8 := hlen; (try simp only [List.length_take] at q); omega)) rfl ?_
                    refine wlVal (opAssign rfl) rfl ?_
                    refine wlRound ?_
                    exact (IH4 (v + 1, u) _ _ ⟨hC, hB, hl, hs13, hs16, hs25, hr37, (by omega), (by have hA := hJ; rw [List.drop_eq_nil_of_le (Nat.le_of_not_lt (of_decide_eq_false h65))] at hA; simp only [List.any_cons, List.any_nil, h8, h24, h28, h29, h30, h31, Bool.true_or, Bool.and_true, Bool.true_and] at hA; rw [List.take_add_one, hx46]; simp only [Option.toList_some, List.countP_append, List.countP_cons, List.countP_nil, ← hA, ← hwo]; simp; omega)⟩ (by have q := of_decide_eq_true h41; show (min ins.length (3 * (IntKind.wrap .i64 (1 + (bringI fl 2))) + 1).toNat) - (v + 1) < (min ins.length (3 * (IntKind.wrap .i64 (1 + (bringI fl 2))) + 1).toNat) - v; omega)).sub (fun _ ha => ((((((((ha.start.cons ha (t := 5) rfl).cons ha (t := 6) rfl).cons ha (t := 8) rfl).cons ha (t := 9) rfl).cons ha (t := 14) rfl).cons ha (t := 15) rfl).cons ha (t := 16) rfl).cons ha (t := 17) rfl))
                  · skip
                    refine wcCondT rfl ?_
                    refine wcSkip ?_
                    refine wcOf ?_
                    refine wcSeq ?_
                    refine wcBlock ?_
                    refine wcSeq ?_
                    obtain ⟨x66, hx67⟩ : ∃ y_, x45.q[i]? = some y_ := ⟨_, List.getElem?_eq_getElem (of_decide_eq_true h65)⟩
                    obtain ⟨b68, o69, row70, hA73, hr71, hi72⟩ := hs58.elem hx67; subst hA73
                    obtain rfl := hi72
                    cases h74 : x66.seq == x32.seq
                    · skip
                      refine wcDraw fmix (by kernel_rfl) (by kernel_rfl) (vAt [(fun _ v_ => v_ = (.slice (some ⟨b47, o48, none⟩) (((min ins.length (3 * (IntKind.wrap .i64 (1 + (bringI fl 2))) + 1).toNat))) insC)), (fun _ v_ => v_ = (.int .i64 (((v : Nat) : Int)))), (fun _ v_ => v_ = (.pointer (some ⟨b47, o48 + v * 6, none⟩))), (fun _ v_ => v_ = (.pointer (some ⟨b47, o48 + v * 6 + 5, none⟩))), (fun _ v_ => v_ = (.slice (some ⟨b68, o69, none⟩) x45.q.length cap64)), (fun _ v_ => v_ = (.int .i64 (((i : Nat) : Int)))), (fun _ v_ => v_ = (.pointer (some ⟨b68, o69 + i * 34, none⟩))), (fun _ v_ => v_ = (.pointer (some ⟨b68, o69 + i * 34, none⟩))), (fun _ v_ => v_ = (.int .i64 x66.seq)), (fun _ v_ => v_ = (.pointer (some ⟨b40, 0, none⟩))), (fun _ v_ => v_ = (.int .i64 x32.seq)), (fun _ v_ => v_ = (.bool false)), (fun _ v_ => v_ = (.bool false)), (fun _ v_ => v_ = undef), (fun _ v_ => v_ = undef), (fun _ v_ => v_ = undef), (fun _ v_ => v_ = undef), (fun _ v_ => v_ = undef), (fun _ v_ => v_ = undef), (fun _ v_ => v_ = undef), (fun _ v_ => v_ = undef), (fun _ v_ => v_ = undef), (fun _ v_ => v_ = undef), (fun _ v_ => v_ = undef), (fun _ v_ => v_ = undef), (fun _ v_ => v_ = (.bool false))]) (fun _ _ G' w => Cx w0 G0 G' w ∧ Bxs G' w w0.heap.size [(b40, 30, x32.cells), (b23, 30, (((selI (has (((crewI (IntKind.wrap .i64 (1 + ((bringI fl 2)))))))) (((crewI (IntKind.wrap .i64 (1 + ((bringI fl 2))))))) ((ins.take (((min ins.length (3 * (IntKind.wrap .i64 (1 + (bringI fl 2))) + 1).toNat)))))).1)).cells)] ∧ GLe G G') G (vAt_mono ⟨fun _ _ _ _ h => h, fun _ _ _ _ h => h, fun _ _ _ _ h => h, fun _ _ _ _ h => h, fun _ _ _ _ h => h, fun _ _ _ _ h => h, fun _ _ _ _ h => h, fun _ _ _ _ h => h, fun _ _ _ _ h => h, fun _ _ _ _ h => h, fun _ _ _ _ h => h, fun _ _ _ _ h => h, fun _ _ _ _ h => h, fun _ _ _ _ h => h, fun _ _ _ _ h => h, fun _ _ _ _ h => h, fun _ _ _ _ h => h, fun _ _ _ _ h => h, fun _ _ _ _ h => h, fun _ _ _ _ h => h, fun _ _ _ _ h => h, fun _ _ _ _ h => h, fun _ _ _ _ h => h, fun _ _ _ _ h => h, fun _ _ _ _ h => h, fun _ _ _ _ h => h, trivial⟩) (fun _ _ => ⟨hC.drew, hB.drew, fun _ _ h => h⟩) ?_ ?_
                      · refine dsNone (j := 1) rfl ?_ ?_
                        · intro done G w ac_ hd hp hn ⟨hC, hB, hg⟩ hM
                          have f6 : ac_.tmps[6]? = some (.slice (some ⟨b47, o48, none⟩) (((min ins.length (3 * (IntKind.wrap .i64 (1 + (bringI fl 2))) + 1).toNat))) insC) := hM.old0 rfl rfl
                          have hF : Fr 197 ac_ (Env.nil.put 6 (.slice (some ⟨b47, o48, none⟩) (((min ins.length (3 * (IntKind.wrap .i64 (1 + (bringI fl 2))) + 1).toNat))) insC)) := (hM.fr.add f6)
                          exact OpVal.draw hF (opMove rfl) ⟨G, fun _ _ h => h, ⟨hC, hB, hg⟩, rfl⟩
                        refine dsNone (j := 2) rfl ?_ ?_
                        · intro done G w ac_ hd hp hn ⟨hC, hB, hg⟩ hM
                          have f17 : ac_.tmps[17]? = some (.int .i64 (((v : Nat) : Int))) := hM.old0 rfl rfl
                          have hF : Fr 197 ac_ (Env.nil.put 17 (.int .i64 (((v : Nat) : Int)))) := (hM.fr.add f17)
                          exact OpVal.draw hF (opMove rfl) ⟨G, fun _ _ h => h, ⟨hC, hB, hg⟩, rfl⟩
                        refine dsNone (j := 3) rfl ?_ ?_
                        · intro done G w ac_ hd hp hn ⟨hC, hB, hg⟩ hM
                          have f148 : ac_.tmps[148]? = some (.slice (some ⟨b47, o48, none⟩) (((min ins.length (3 * (IntKind.wrap .i64 (1 + (bringI fl 2))) + 1).toNat))) insC) := hM.eqv 0 rfl (hp 0 rfl) rfl rfl
                          have f149 : ac_.tmps[149]? = some (.int .i64 (((v : Nat) : Int))) := hM.eqv 1 rfl (hp 1 rfl) rfl rfl
                          have hF : Fr 197 ac_ ((Env.nil.put 148 (.slice (some ⟨b47, o48, none⟩) (((min ins.length (3 * (IntKind.wrap .i64 (1 + (bringI fl 2))) + 1).toNat))) insC)).put 149 (.int .i64 (((v : Nat) : Int)))) := ((hM.fr.add f148).add f149)
                          exact OpVal.draw hF (opIndexAddr rfl rfl slo25 (by have q := of_decide_eq_true h41; simpa using q)) ⟨G, fun _ _ h => h, ⟨hC, hB, hg⟩, rfl⟩
                        refine dsNone (j := 4) rfl ?_ ?_
                        · intro done G w ac_ hd hp hn ⟨hC, hB, hg⟩ hM
                          have f150 : ac_.tmps[150]? = some (.pointer (some ⟨b47, o48 + v * 6, none⟩)) := hM.eqv 2 rfl (hp 2 rfl) rfl rfl
                          have hF : Fr 197 ac_ (Env.nil.put 150 (.pointer (some ⟨b47, o48 + v * 6, none⟩))) := (hM.fr.add f150)
                          exact OpVal.draw hF (opFieldAddr rfl fo49_5) ⟨G, fun _ _ h => h, ⟨hC, hB, hg⟩, rfl⟩
                        refine dsNone (j := 5) rfl ?_ ?_
                        · intro done G w ac_ hd hp hn ⟨hC, hB, hg⟩ hM
                          replace hr50 := hr50.mono hg
                          have f151 : ac_.tmps[151]? = some (.pointer (some ⟨b47, o48 + v * 6 + 5, none⟩)) := hM.eqv 3 rfl (hp 3 rfl) rfl rfl
                          have hF : Fr 197 ac_ (Env.nil.put 151 (.pointer (some ⟨b47, o48 + v * 6 + 5, none⟩))) := (hM.fr.add f151)
                          exact OpVal.draw hF (opLoadOne (v := (.slice (some ⟨b68, o69, none⟩) x45.q.length cap64)) rfl (RowG.cell hC.holds hr50 (j := 5) rfl) one47) ⟨G, fun _ _ h => h, ⟨hC, hB, hg⟩, rfl⟩
                        refine dsNone (j := 6) rfl ?_ ?_
                        · intro done G w ac_ hd hp hn ⟨hC, hB, hg⟩ hM
                          have f18 : ac_.tmps[18]? = some (.int .i64 (((i : Nat) : Int))) := hM.old0 rfl rfl
                          have hF : Fr 197 ac_ (Env.nil.put 18 (.int .i64 (((i : Nat) : Int)))) := (hM.fr.add f18)
                          exact OpVal.draw hF (opMove rfl) ⟨G, fun _ _ h => h, ⟨hC, hB, hg⟩, rfl⟩
                        refine dsNone (j := 7) rfl ?_ ?_
                        · intro done G w ac_ hd hp hn ⟨hC, hB, hg⟩ hM
                          have f152 : ac_.tmps[152]? = some (.slice (some ⟨b68, o69, none⟩) x45.q.length cap64) := hM.eqv 4 rfl (hp 4 rfl) rfl rfl
                          have f153 : ac_.tmps[153]? = some (.int .i64 (((i : Nat) : Int))) := hM.eqv 5 rfl (hp 5 rfl) rfl rfl
                          have hF : Fr 197 ac_ ((Env.nil.put 152 (.slice (some ⟨b68, o69, none⟩) x45.q.length cap64)).put 153 (.int .i64 (((i : Nat) : Int)))) := ((hM.fr.add f152).add f153)
                          exact OpVal.draw hF (opIndexAddr rfl rfl slo47 (of_decide_eq_true h65)) ⟨G, fun _ _ h => h, ⟨hC, hB, hg⟩, rfl⟩
                        refine dsNone (j := 8) rfl ?_ ?_
                        · intro done G w ac_ hd hp hn ⟨hC, hB, hg⟩ hM
                          have f154 : ac_.tmps[154]? = some (.pointer (some ⟨b68, o69 + i * 34, none⟩)) := hM.eqv 6 rfl (hp 6 rfl) rfl rfl
                          have hF : Fr 197 ac_ (Env.nil.put 154 (.pointer (some ⟨b68, o69 + i * 34, none⟩))) := (hM.fr.add f154)
                          exact OpVal.draw hF (opFieldAddr rfl fo58_0) ⟨G, fun _ _ h => h, ⟨hC, hB, hg⟩, rfl⟩
                        refine dsNone (j := 9) rfl ?_ ?_
                        · intro done G w ac_ hd hp hn ⟨hC, hB, hg⟩ hM
                          replace hr71 := hr71.mono hg
                          have f155 : ac_.tmps[155]? = some (.pointer (some ⟨b68, o69 + i * 34, none⟩)) := hM.eqv 7 rfl (hp 7 rfl) rfl rfl
                          have hF : Fr 197 ac_ (Env.nil.put 155 (.pointer (some ⟨b68, o69 + i * 34, none⟩))) := (hM.fr.add f155)
                          exact OpVal.draw hF (opLoadOne (v := (.int .i64 x66.seq)) rfl (RowG.cell0 hC.holds hr71 (by simp [Mark.cells, Stand.cells])) one3) ⟨G, fun _ _ h => h, ⟨hC, hB, hg⟩, rfl⟩
                        refine dsNone (j := 10) rfl ?_ ?_
                        · intro done G w ac_ hd hp hn ⟨hC, hB, hg⟩ hM
                          have f15 : ac_.tmps[15]? = some (.pointer (some ⟨b40, 0, none⟩)) := hM.old0 rfl rfl
                          have hF : Fr 197 ac_ (Env.nil.put 15 (.pointer (some ⟨b40, 0, none⟩))) := (hM.fr.add f15)
                          exact OpVal.draw hF (opFieldAddr rfl fo30_0) ⟨G, fun _ _ h => h, ⟨hC, hB, hg⟩, rfl⟩
                        refine dsNone (j := 11) rfl ?_ ?_
                        · intro done G w ac_ hd hp hn ⟨hC, hB, hg⟩ hM
                          have f157 : ac_.tmps[157]? = some (.pointer (some ⟨b40, 0, none⟩)) := hM.eqv 9 rfl (hp 9 rfl) rfl rfl
                          have hF : Fr 197 ac_ (Env.nil.put 157 (.pointer (some ⟨b40, 0, none⟩))) := (hM.fr.add f157)
                          exact OpVal.draw hF (opLoadOne (v := (.int .i64 x32.seq)) rfl (hB.cell (i := 0) rfl (by simp [Mark.cells, Stand.cells])) one3) ⟨G, fun _ _ h => h, ⟨hC, hB, hg⟩, rfl⟩
                        refine dsNone (j := 12) rfl ?_ ?_
                        · intro done G w ac_ hd hp hn ⟨hC, hB, hg⟩ hM
                          have f156 : ac_.tmps[156]? = some (.int .i64 x66.seq) := hM.eqv 8 rfl (hp 8 rfl) rfl rfl
                          have f158 : ac_.tmps[158]? = some (.int .i64 x32.seq) := hM.eqv 10 rfl (hp 10 rfl) rfl rfl
                          have hF : Fr 197 ac_ ((Env.nil.put 156 (.int .i64 x66.seq)).put 158 (.int .i64 x32.seq)) := ((hM.fr.add f156).add f158)
                          exact OpVal.draw hF (OpVal.cast (opEql rfl rfl) (congrArg Value.bool h74)) ⟨G, fun _ _ h => h, ⟨hC, hB, hg⟩, rfl⟩
                        refine dsNone (j := 13) rfl ?_ ?_
                        · intro done G w ac_ hd hp hn ⟨hC, hB, hg⟩ hM
                          have f159 : ac_.tmps[159]? = some (.bool false) := hM.eqv 11 rfl (hp 11 rfl) rfl rfl
                          have hF : Fr 197 ac_ (Env.nil.put 159 (.bool false)) := (hM.fr.add f159)
                          exact OpVal.draw hF (opMove rfl) ⟨G, fun _ _ h => h, ⟨hC, hB, hg⟩, rfl⟩
                        refine dsOff (j := 14) (b' := false) rfl rfl rfl ?_ ?_
                        · intro done G w ac_ hd hp hn ⟨hC, hB, hg⟩ hM
                          have f160 : ac_.tmps[160]? = some (.bool false) := hM.eqv 12 rfl (hp 12 rfl) rfl rfl
                          exact ⟨f160, ⟨hC, hB, hg⟩, rfl⟩
                        refine dsOff (j := 15) (b' := false) rfl rfl rfl ?_ ?_
                        · intro done G w ac_ hd hp hn ⟨hC, hB, hg⟩ hM
                          have f160 : ac_.tmps[160]? = some (.bool false) := hM.eqv 12 rfl (hp 12 rfl) rfl rfl
                          exact ⟨f160, ⟨hC, hB, hg⟩, rfl⟩
                        refine dsOff (j := 16) (b' := false) rfl rfl rfl ?_ ?_
                        · intro done G w ac_ hd hp hn ⟨hC, hB, hg⟩ hM
                          have f160 : ac_.tmps[160]? = some (.bool false) := hM.eqv 12 rfl (hp 12 rfl) rfl rfl
                          exact ⟨f160, ⟨hC, hB, hg⟩, rfl⟩
                        refine dsOff (j := 17) (b' := false) rfl rfl rfl ?_ ?_
                        · intro done G w ac_ hd hp hn ⟨hC, hB, hg⟩ hM
                          have f160 : ac_.tmps[160]? = some (.bool false) := hM.eqv 12 rfl (hp 12 rfl) rfl rfl
                          exact ⟨f160, ⟨hC, hB, hg⟩, rfl⟩
                        refine dsOff (j := 18) (b' := false) rfl rfl rfl ?_ ?_
                        · intro done G w ac_ hd hp hn ⟨hC, hB, hg⟩ hM
                          have f160 : ac_.tmps[160]? = some (.bool false) := hM.eqv 12 rfl (hp 12 rfl) rfl rfl
                          exact ⟨f160, ⟨hC, hB, hg⟩, rfl⟩
                        refine dsOff (j := 19) (b' := false) rfl rfl rfl ?_ ?_
                        · intro done G w ac_ hd hp hn ⟨hC, hB, hg⟩ hM
                          have f160 : ac_.tmps[160]? = some (.bool false) := hM.eqv 12 rfl (hp 12 rfl) rfl rfl
                          exact ⟨f160, ⟨hC, hB, hg⟩, rfl⟩
                        refine dsOff (j := 20) (b' := false) rfl rfl rfl ?_ ?_
                        · intro done G w ac_ hd hp hn ⟨hC, hB, hg⟩ hM
                          have f160 : ac_.tmps[160]? = some (.bool false) := hM.eqv 12 rfl (hp 12 rfl) rfl rfl
                          exact ⟨f160, ⟨hC, hB, hg⟩, rfl⟩
                        refine dsOff (j := 21) (b' := false) rfl rfl rfl ?_ ?_
                        · intro done G w ac_ hd hp hn ⟨hC, hB, hg⟩ hM
                          have f160 : ac_.tmps[160]? = some (.bool false) := hM.eqv 12 rfl (hp 12 rfl) rfl rfl
                          exact ⟨f160, ⟨hC, hB, hg⟩, rfl⟩
                        refine dsOff (j := 22) (b' := false) rfl rfl rfl ?_ ?_
                        · intro done G w ac_ hd hp hn ⟨hC, hB, hg⟩ hM
                          have f160 : ac_.tmps[160]? = some (.bool false) := hM.eqv 12 rfl (hp 12 rfl) rfl rfl
                          exact ⟨f160, ⟨hC, hB, hg⟩, rfl⟩
                        refine dsOff (j := 23) (b' := false) rfl rfl rfl ?_ ?_
                        · intro done G w ac_ hd hp hn ⟨hC, hB, hg⟩ hM
                          have f160 : ac_.tmps[160]? = some (.bool false) := hM.eqv 12 rfl (hp 12 rfl) rfl rfl
                          exact ⟨f160, ⟨hC, hB, hg⟩, rfl⟩
                        refine dsOff (j := 24) (b' := false) rfl rfl rfl ?_ ?_
                        · intro done G w ac_ hd hp hn ⟨hC, hB, hg⟩ hM
                          have f160 : ac_.tmps[160]? = some (.bool false) := hM.eqv 12 rfl (hp 12 rfl) rfl rfl
                          exact ⟨f160, ⟨hC, hB, hg⟩, rfl⟩
                        refine dsOff (j := 25) (b' := false) rfl rfl rfl ?_ ?_
                        · intro done G w ac_ hd hp hn ⟨hC, hB, hg⟩ hM
                          have f160 : ac_.tmps[160]? = some (.bool false) := hM.eqv 12 rfl (hp 12 rfl) rfl rfl
                          exact ⟨f160, ⟨hC, hB, hg⟩, rfl⟩
                        refine dsNone (j := 26) rfl ?_ ?_
                        · intro done G w ac_ hd hp hn ⟨hC, hB, hg⟩ hM
                          have f160 : ac_.tmps[160]? = some (.bool false) := hM.eqv 12 rfl (hp 12 rfl) rfl rfl
                          have f172 : ac_.tmps[172]? = some undef := hM.eqv 24 rfl (hp 24 rfl) rfl rfl
                          have hF : Fr 197 ac_ ((Env.nil.put 160 (.bool false)).put 172 undef) := ((hM.fr.add f160).add f172)
                          exact OpVal.draw hF (opPickF rfl rfl) ⟨G, fun _ _ h => h, ⟨hC, hB, hg⟩, rfl⟩
                        exact dsNil
                      · intro done G w ac_ hall ⟨hC, hB, hg⟩ hM
                        replace hl := hl.mono hg
                        replace hs13 := hs13.mono hg
                        replace hs16 := hs16.mono hg
                        replace hs25 := hs25.mono hg
                        replace hr37 := hr37.mono hg
                        replace hs54 := hs54.mono hg
                        replace hs56 := hs56.mono hg
                        replace hs58 := hs58.mono hg
                        replace hr50 := hr50.mono hg
                        replace hr71 := hr71.mono hg
                        have f5 : ac_.tmps[5]? = some (.int .i64 (IntKind.wrap .i64 (1 + ((bringI fl 2))))) := hM.old0 rfl rfl
                        have f6 : ac_.tmps[6]? = some (.slice (some ⟨b47, o48, none⟩) (((min ins.length (3 * (IntKind.wrap .i64 (1 + (bringI fl 2))) + 1).toNat))) insC) := hM.old0 rfl rfl
                        have f8 : ac_.tmps[8]? = some (.pointer (some ⟨b23, 0, none⟩)) := hM.old0 rfl rfl
                        have f9 : ac_.tmps[9]? = some (.slice (some ⟨b34, o35, none⟩) ((((selI (has (((crewI (IntKind.wrap .i64 (1 + ((bringI fl 2)))))))) (((crewI (IntKind.wrap .i64 (1 + ((bringI fl 2))))))) ((ins.take (((min ins.length (3 * (IntKind.wrap .i64 (1 + (bringI fl 2))) + 1).toNat)))))).2.1)).length) cap19) := hM.old0 rfl rfl
                        have f14 : ac_.tmps[14]? = some (.int .i64 (((g : Nat) : Int))) := hM.old0 rfl rfl
                        have f15 : ac_.tmps[15]? = some (.pointer (some ⟨b40, 0, none⟩)) := hM.old0 rfl rfl
                        have f16 : ac_.tmps[16]? = some (.int .i64 (((u : Nat) : Int))) := hM.old0 rfl rfl
                        have f17 : ac_.tmps[17]? = some (.int .i64 (((v : Nat) : Int))) := hM.old0 rfl rfl
                        have f18 : ac_.tmps[18]? = some (.int .i64 (((i : Nat) : Int))) := hM.old0 rfl rfl
                        have f173 : ac_.tmps[173]? = some (.bool false) := hM.eqv 25 rfl (hall 25 (by decide)) rfl rfl
                        refine ⟨((((((((((Env.nil.put 5 (.int .i64 (IntKind.wrap .i64 (1 + ((bringI fl 2)))))).put 6 (.slice (some ⟨b47, o48, none⟩) (((min ins.length (3 * (IntKind.wrap .i64 (1 + (bringI fl 2))) + 1).toNat))) insC)).put 8 (.pointer (some ⟨b23, 0, none⟩))).put 9 (.slice (some ⟨b34, o35, none⟩) ((((selI (has (((crewI (IntKind.wrap .i64 (1 + ((bringI fl 2)))))))) (((crewI (IntKind.wrap .i64 (1 + ((bringI fl 2))))))) ((ins.take (((min ins.length (3 * (IntKind.wrap .i64 (1 + (bringI fl 2))) + 1).toNat)))))).2.1)).length) cap19)).put 14 (.int .i64 (((g : Nat) : Int)))).put 15 (.pointer (some ⟨b40, 0, none⟩))).put 16 (.int .i64 (((u : Nat) : Int)))).put 17 (.int .i64 (((v : Nat) : Int)))).put 18 (.int .i64 (((i : Nat) : Int)))).put 173 (.bool false)), ((((((((((hM.fr.add f5).add f6).add f8).add f9).add f14).add f15).add f16).add f17).add f18).add f173), ?_⟩
                        clear hM hall
                        refine wcOf ?_
                        refine wcCondF rfl ?_
                        refine wcSkip ?_
                        refine wcOf ?_
                        refine wcRegion ?_
                        refine wlVal (opMove rfl) rfl ?_
                        refine wlVal (opIncr rfl rfl (incr_ok (of_decide_eq_true h65) hs58.le)) rfl ?_
                        refine wlVal (opAssign rfl) rfl ?_
                        refine wlRound ?_
                        exact (IH5 (i + 1, u) _ _ ⟨hC, hB, hl, hs13, hs16, hs25, hr37, hs54, hs56, hs58, hr50, hu, (by rw [← hJ, drop_get hx67]; simp only [List.any_cons, h8, h24, h27, h28, h29, h30, h31, h41, h74, Bool.false_or, Bool.and_false, Bool.and_true, Bool.false_and])⟩ (by have q := of_decide_eq_true h65; show x45.q.length - (i + 1) < x45.q.length - i; omega)).sub (fun _ ha => (((((((((ha.start.cons ha (t := 5) rfl).cons ha (t := 6) rfl).cons ha (t := 8) rfl).cons ha (t := 9) rfl).cons ha (t := 14) rfl).cons ha (t := 15) rfl).cons ha (t := 16) rfl).cons ha (t := 17) rfl).cons ha (t := 18) rfl))
                    · skip
                      refine wcDraw fmix (by kernel_rfl) (by kernel_rfl) (vAt [(fun _ v_ => v_ = (.slice (some ⟨b47, o48, none⟩) (((min ins.length (3 * (IntKind.wrap .i64 (1 + (bringI fl 2))) + 1).toNat))) insC)), (fun _ v_ => v_ = (.int .i64 (((v : Nat) : Int)))), (fun _ v_ => v_ = (.pointer (some ⟨b47, o48 + v * 6, none⟩))), (fun _ v_ => v_ = (.pointer (some ⟨b47, o48 + v * 6 + 5, none⟩))), (fun _ v_ => v_ = (.slice (some ⟨b68, o69, none⟩) x45.q.length cap64)), (fun _ v_ => v_ = (.int .i64 (((i : Nat) : Int)))), (fun _ v_ => v_ = (.pointer (some ⟨b68, o69 + i * 34, none⟩))), (fun _ v_ => v_ = (.pointer (some ⟨b68, o69 + i * 34, none⟩))), (fun _ v_ => v_ = (.int .i64 x66.seq)), (fun _ v_ => v_ = (.pointer (some ⟨b40, 0, none⟩))), (fun _ v_ => v_ = (.int .i64 x32.seq)), (fun _ v_ => v_ = (.bool true)), (fun _ v_ => v_ = (.bool true)), (fun _ v_ => v_ = (.slice (some ⟨b47, o48, none⟩) (((min ins.length (3 * (IntKind.wrap .i64 (1 + (bringI fl 2))) + 1).toNat))) insC)), (fun _ v_ => v_ = (.int .i64 (((v : Nat) : Int)))), (fun _ v_ => v_ = (.pointer (some ⟨b47, o48 + v * 6, none⟩))), (fun _ v_ => v_ = (.pointer (some ⟨b47, o48 + v * 6 + 5, none⟩))), (fun _ v_ => v_ = (.slice (some ⟨b68, o69, none⟩) x45.q.length cap64)), (fun _ v_ => v_ = (.int .i64 (((i : Nat) : Int)))), (fun _ v_ => v_ = (.pointer (some ⟨b68, o69 + i * 34, none⟩))), (fun _ v_ => v_ = (.pointer (some ⟨b68, o69 + i * 34 + 1, none⟩))), (fun _ v_ => v_ = (.agg x66.dig.cells.toArray)), (fun _ v_ => v_ = (.pointer (some ⟨b40, 1, none⟩))), (fun _ v_ => v_ = (.agg x32.dig.cells.toArray)), (fun _ v_ => v_ = (.bool (decide (x66.dig = x32.dig)))), (fun _ v_ => v_ = (.bool (decide (x66.dig = x32.dig))))]) (fun _ _ G' w => Cx w0 G0 G' w ∧ Bxs G' w w0.heap.size [(b40, 30, x32.cells), (b23, 30, (((selI (has (((crewI (IntKind.wrap .i64 (1 + ((bringI fl 2)))))))) (((crewI (IntKind.wrap .i64 (1 + ((bringI fl 2))))))) ((ins.take (((min ins.length (3 * (IntKind.wrap .i64 (1 + (bringI fl 2))) + 1).toNat)))))).1)).cells)] ∧ GLe G G') G (vAt_mono ⟨fun _ _ _ _ h => h, fun _ _ _ _ h => h, fun _ _ _ _ h => h, fun _ _ _ _ h => h, fun _ _ _ _ h => h, fun _ _ _ _ h => h, fun _ _ _ _ h => h, fun _ _ _ _ h => h, fun _ _ _ _ h => h, fun _ _ _ _ h => h, fun _ _ _ _ h => h, fun _ _ _ _ h => h, fun _ _ _ _ h => h, fun _ _ _ _ h => h, fun _ _ _ _ h => h, fun _ _ _ _ h => h, fun _ _ _ _ h => h, fun _ _ _ _ h => h, fun _ _ _ _ h => h, fun _ _ _ _ h => h, fun _ _ _ _ h => h, fun _ _ _ _ h => h, fun _ _ _ _ h => h, fun _ _ _ _ h => h, fun _ _ _ _ h => h, fun _ _ _ _ h => h, trivial⟩) (fun _ _ => ⟨hC.drew, hB.drew, fun _ _ h => h⟩) ?_ ?_
                      · refine dsNone (j := 1) rfl ?_ ?_
                        · intro done G w ac_ hd hp hn ⟨hC, hB, hg⟩ hM
                          have f6 : ac_.tmps[6]? = some (.slice (some ⟨b47, o48, none⟩) (((min ins.length (3 * (IntKind.wrap .i64 (1 + (bringI fl 2))) + 1).toNat))) insC) := hM.old0 rfl rfl
                          have hF : Fr 197 ac_ (Env.nil.put 6 (.slice (some ⟨b47, o48, none⟩) (((min ins.length (3 * (IntKind.wrap .i64 (1 + (bringI fl 2))) + 1).toNat))) insC)) := (hM.fr.add f6)
                          exact OpVal.draw hF (opMove rfl) ⟨G, fun _ _ h => h, ⟨hC, hB, hg⟩, rfl⟩
                        refine dsNone (j := 2) rfl ?_ ?_
                        · intro done G w ac_ hd hp hn ⟨hC, hB, hg⟩ hM
                          have f17 : ac_.tmps[17]? = some (.int .i64 (((v : Nat) : Int))) := hM.old0 rfl rfl
                          have hF : Fr 197 ac_ (Env.nil.put 17 (.int .i64 (((v : Nat) : Int)))) := (hM.fr.add f17)
                          exact OpVal.draw hF (opMove rfl) ⟨G, fun _ _ h => h, ⟨hC, hB, hg⟩, rfl⟩
                        refine dsNone (j := 3) rfl ?_ ?_
                        · intro done G w ac_ hd hp hn ⟨hC, hB, hg⟩ hM
                          have f148 : ac_.tmps[148]? = some (.slice (some ⟨b47, o48, none⟩) (((min ins.length (3 * (IntKind.wrap .i64 (1 + (bringI fl 2))) + 1).toNat))) insC) := hM.eqv 0 rfl (hp 0 rfl) rfl rfl
                          have f149 : ac_.tmps[149]? = some (.int .i64 (((v : Nat) : Int))) := hM.eqv 1 rfl (hp 1 rfl) rfl rfl
                          have hF : Fr 197 ac_ ((Env.nil.put 148 (.slice (some ⟨b47, o48, none⟩) (((min ins.length (3 * (IntKind.wrap .i64 (1 + (bringI fl 2))) + 1).toNat))) insC)).put 149 (.int .i64 (((v : Nat) : Int)))) := ((hM.fr.add f148).add f149)
                          exact OpVal.draw hF (opIndexAddr rfl rfl slo25 (by have q := of_decide_eq_true h41; simpa using q)) ⟨G, fun _ _ h => h, ⟨hC, hB, hg⟩, rfl⟩
                        refine dsNone (j := 4) rfl ?_ ?_
                        · intro done G w ac_ hd hp hn ⟨hC, hB, hg⟩ hM
                          have f150 : ac_.tmps[150]? = some (.pointer (some ⟨b47, o48 + v * 6, none⟩)) := hM.eqv 2 rfl (hp 2 rfl) rfl rfl
                          have hF : Fr 197 ac_ (Env.nil.put 150 (.pointer (some ⟨b47, o48 + v * 6, none⟩))) := (hM.fr.add f150)
                          exact OpVal.draw hF (opFieldAddr rfl fo49_5) ⟨G, fun _ _ h => h, ⟨hC, hB, hg⟩, rfl⟩
                        refine dsNone (j := 5) rfl ?_ ?_
                        · intro done G w ac_ hd hp hn ⟨hC, hB, hg⟩ hM
                          replace hr50 := hr50.mono hg
                          have f151 : ac_.tmps[151]? = some (.pointer (some ⟨b47, o48 + v * 6 + 5, none⟩)) := hM.eqv 3 rfl (hp 3 rfl) rfl rfl
                          have hF : Fr 197 ac_ (Env.nil.put 151 (.pointer (some ⟨b47, o48 + v * 6 + 5, none⟩))) := (hM.fr.add f151)
                          exact OpVal.draw hF (opLoadOne (v := (.slice (some ⟨b68, o69, none⟩) x45.q.length cap64)) rfl (RowG.cell hC.holds hr50 (j := 5) rfl) one47) ⟨G, fun _ _ h => h, ⟨hC, hB, hg⟩, rfl⟩
                        refine dsNone (j := 6) rfl ?_ ?_
                        · intro done G w ac_ hd hp hn ⟨hC, hB, hg⟩ hM
                          have f18 : ac_.tmps[18]? = some (.int .i64 (((i : Nat) : Int))) := hM.old0 rfl rfl
                          have hF : Fr 197 ac_ (Env.nil.put 18 (.int .i64 (((i : Nat) : Int)))) := (hM.fr.add f18)
                          exact OpVal.draw hF (opMove rfl) ⟨G, fun _ _ h => h, ⟨hC, hB, hg⟩, rfl⟩
                        refine dsNone (j := 7) rfl ?_ ?_
                        · intro done G w ac_ hd hp hn ⟨hC, hB, hg⟩ hM
                          have f152 : ac_.tmps[152]? = some (.slice (some ⟨b68, o69, none⟩) x45.q.length cap64) := hM.eqv 4 rfl (hp 4 rfl) rfl rfl
                          have f153 : ac_.tmps[153]? = some (.int .i64 (((i : Nat) : Int))) := hM.eqv 5 rfl (hp 5 rfl) rfl rfl
                          have hF : Fr 197 ac_ ((Env.nil.put 152 (.slice (some ⟨b68, o69, none⟩) x45.q.length cap64)).put 153 (.int .i64 (((i : Nat) : Int)))) := ((hM.fr.add f152).add f153)
                          exact OpVal.draw hF (opIndexAddr rfl rfl slo47 (of_decide_eq_true h65)) ⟨G, fun _ _ h => h, ⟨hC, hB, hg⟩, rfl⟩
                        refine dsNone (j := 8) rfl ?_ ?_
                        · intro done G w ac_ hd hp hn ⟨hC, hB, hg⟩ hM
                          have f154 : ac_.tmps[154]? = some (.pointer (some ⟨b68, o69 + i * 34, none⟩)) := hM.eqv 6 rfl (hp 6 rfl) rfl rfl
                          have hF : Fr 197 ac_ (Env.nil.put 154 (.pointer (some ⟨b68, o69 + i * 34, none⟩))) := (hM.fr.add f154)
                          exact OpVal.draw hF (opFieldAddr rfl fo58_0) ⟨G, fun _ _ h => h, ⟨hC, hB, hg⟩, rfl⟩
                        refine dsNone (j := 9) rfl ?_ ?_
                        · intro done G w ac_ hd hp hn ⟨hC, hB, hg⟩ hM
                          replace hr71 := hr71.mono hg
                          have f155 : ac_.tmps[155]? = some (.pointer (some ⟨b68, o69 + i * 34, none⟩)) := hM.eqv 7 rfl (hp 7 rfl) rfl rfl
                          have hF : Fr 197 ac_ (Env.nil.put 155 (.pointer (some ⟨b68, o69 + i * 34, none⟩))) := (hM.fr.add f155)
                          exact OpVal.draw hF (opLoadOne (v := (.int .i64 x66.seq)) rfl (RowG.cell0 hC.holds hr71 (by simp [Mark.cells, Stand.cells])) one3) ⟨G, fun _ _ h => h, ⟨hC, hB, hg⟩, rfl⟩
                        refine dsNone (j := 10) rfl ?_ ?_
                        · intro done G w ac_ hd hp hn ⟨hC, hB, hg⟩ hM
                          have f15 : ac_.tmps[15]? = some (.pointer (some ⟨b40, 0, none⟩)) := hM.old0 rfl rfl
                          have hF : Fr 197 ac_ (Env.nil.put 15 (.pointer (some ⟨b40, 0, none⟩))) := (hM.fr.add f15)
                          exact OpVal.draw hF (opFieldAddr rfl fo30_0) ⟨G, fun _ _ h => h, ⟨hC, hB, hg⟩, rfl⟩
                        refine dsNone (j := 11) rfl ?_ ?_
                        · intro done G w ac_ hd hp hn ⟨hC, hB, hg⟩ hM
                          have f157 : ac_.tmps[157]? = some (.pointer (some ⟨b40, 0, none⟩)) := hM.eqv 9 rfl (hp 9 rfl) rfl rfl
                          have hF : Fr 197 ac_ (Env.nil.put 157 (.pointer (some ⟨b40, 0, none⟩))) := (hM.fr.add f157)
                          exact OpVal.draw hF (opLoadOne (v := (.int .i64 x32.seq)) rfl (hB.cell (i := 0) rfl (by simp [Mark.cells, Stand.cells])) one3) ⟨G, fun _ _ h => h, ⟨hC, hB, hg⟩, rfl⟩
                        refine dsNone (j := 12) rfl ?_ ?_
                        · intro done G w ac_ hd hp hn ⟨hC, hB, hg⟩ hM
                          have f156 : ac_.tmps[156]? = some (.int .i64 x66.seq) := hM.eqv 8 rfl (hp 8 rfl) rfl rfl
                          have f158 : ac_.tmps[158]? = some (.int .i64 x32.seq) := hM.eqv 10 rfl (hp 10 rfl) rfl rfl
                          have hF : Fr 197 ac_ ((Env.nil.put 156 (.int .i64 x66.seq)).put 158 (.int .i64 x32.seq)) := ((hM.fr.add f156).add f158)
                          exact OpVal.draw hF (OpVal.cast (opEql rfl rfl) (congrArg Value.bool h74)) ⟨G, fun _ _ h => h, ⟨hC, hB, hg⟩, rfl⟩
                        refine dsNone (j := 13) rfl ?_ ?_
                        · intro done G w ac_ hd hp hn ⟨hC, hB, hg⟩ hM
                          have f159 : ac_.tmps[159]? = some (.bool true) := hM.eqv 11 rfl (hp 11 rfl) rfl rfl
                          have hF : Fr 197 ac_ (Env.nil.put 159 (.bool true)) := (hM.fr.add f159)
                          exact OpVal.draw hF (opMove rfl) ⟨G, fun _ _ h => h, ⟨hC, hB, hg⟩, rfl⟩
                        refine dsOn (j := 14) rfl rfl ?_ ?_
                        · intro done G w ac_ hd hp hn ⟨hC, hB, hg⟩ hM
                          have f6 : ac_.tmps[6]? = some (.slice (some ⟨b47, o48, none⟩) (((min ins.length (3 * (IntKind.wrap .i64 (1 + (bringI fl 2))) + 1).toNat))) insC) := hM.old0 rfl rfl
                          have f160 : ac_.tmps[160]? = some (.bool true) := hM.eqv 12 rfl (hp 12 rfl) rfl rfl
                          refine ⟨f160, ?_⟩
                          have hF : Fr 197 ac_ (Env.nil.put 6 (.slice (some ⟨b47, o48, none⟩) (((min ins.length (3 * (IntKind.wrap .i64 (1 + (bringI fl 2))) + 1).toNat))) insC)) := (hM.fr.add f6)
                          exact OpVal.draw hF (opMove rfl) ⟨G, fun _ _ h => h, ⟨hC, hB, hg⟩, rfl⟩
                        refine dsOn (j := 15) rfl rfl ?_ ?_
                        · intro done G w ac_ hd hp hn ⟨hC, hB, hg⟩ hM
                          have f17 : ac_.tmps[17]? = some (.int .i64 (((v : Nat) : Int))) := hM.old0 rfl rfl
                          have f160 : ac_.tmps[160]? = some (.bool true) := hM.eqv 12 rfl (hp 12 rfl) rfl rfl
                          refine ⟨f160, ?_⟩
                          have hF : Fr 197 ac_ (Env.nil.put 17 (.int .i64 (((v : Nat) : Int)))) := (hM.fr.add f17)
                          exact OpVal.draw hF (opMove rfl) ⟨G, fun _ _ h => h, ⟨hC, hB, hg⟩, rfl⟩
                        refine dsOn (j := 16) rfl rfl ?_ ?_
                        · intro done G w ac_ hd hp hn ⟨hC, hB, hg⟩ hM
                          have f161 : ac_.tmps[161]? = some (.slice (some ⟨b47, o48, none⟩) (((min ins.length (3 * (IntKind.wrap .i64 (1 + (bringI fl 2))) + 1).toNat))) insC) := hM.eqv 13 rfl (hp 13 rfl) rfl rfl
                          have f162 : ac_.tmps[162]? = some (.int .i64 (((v : Nat) : Int))) := hM.eqv 14 rfl (hp 14 rfl) rfl rfl
                          have f160 : ac_.tmps[160]? = some (.bool true) := hM.eqv 12 rfl (hp 12 rfl) rfl rfl
                          refine ⟨f160, ?_⟩
                          have hF : Fr 197 ac_ ((Env.nil.put 161 (.slice (some ⟨b47, o48, none⟩) (((min ins.length (3 * (IntKind.wrap .i64 (1 + (bringI fl 2))) + 1).toNat))) insC)).put 162 (.int .i64 (((v : Nat) : Int)))) := ((hM.fr.add f161).add f162)
                          exact OpVal.draw hF (opIndexAddr rfl rfl slo25 (by have q := of_decide_eq_true h41; simpa using q)) ⟨G, fun _ _ h => h, ⟨hC, hB, hg⟩, rfl⟩
                        refine dsOn (j := 17) rfl rfl ?_ ?_
                        · intro done G w ac_ hd hp hn ⟨hC, hB, hg⟩ hM
                          have f163 : ac_.tmps[163]? = some (.pointer (some ⟨b47, o48 + v * 6, none⟩)) := hM.eqv 15 rfl (hp 15 rfl) rfl rfl
                          have f160 : ac_.tmps[160]? = some (.bool true) := hM.eqv 12 rfl (hp 12 rfl) rfl rfl
                          refine ⟨f160, ?_⟩
                          have hF : Fr 197 ac_ (Env.nil.put 163 (.pointer (some ⟨b47, o48 + v * 6, none⟩))) := (hM.fr.add f163)
                          exact OpVal.draw hF (opFieldAddr rfl fo49_5) ⟨G, fun _ _ h => h, ⟨hC, hB, hg⟩, rfl⟩
                        refine dsOn (j := 18) rfl rfl ?_ ?_
                        · intro done G w ac_ hd hp hn ⟨hC, hB, hg⟩ hM
                          replace hr50 := hr50.mono hg
                          have f164 : ac_.tmps[164]? = some (.pointer (some ⟨b47, o48 + v * 6 + 5, none⟩)) := hM.eqv 16 rfl (hp 16 rfl) rfl rfl
                          have f160 : ac_.tmps[160]? = some (.bool true) := hM.eqv 12 rfl (hp 12 rfl) rfl rfl
                          refine ⟨f160, ?_⟩
                          have hF : Fr 197 ac_ (Env.nil.put 164 (.pointer (some ⟨b47, o48 + v * 6 + 5, none⟩))) := (hM.fr.add f164)
                          exact OpVal.draw hF (opLoadOne (v := (.slice (some ⟨b68, o69, none⟩) x45.q.length cap64)) rfl (RowG.cell hC.holds hr50 (j := 5) rfl) one47) ⟨G, fun _ _ h => h, ⟨hC, hB, hg⟩, rfl⟩
                        refine dsOn (j := 19) rfl rfl ?_ ?_
                        · intro done G w ac_ hd hp hn ⟨hC, hB, hg⟩ hM
                          have f18 : ac_.tmps[18]? = some (.int .i64 (((i : Nat) : Int))) := hM.old0 rfl rfl
                          have f160 : ac_.tmps[160]? = some (.bool true) := hM.eqv 12 rfl (hp 12 rfl) rfl rfl
                          refine ⟨f160, ?_⟩
                          have hF : Fr 197 ac_ (Env.nil.put 18 (.int .i64 (((i : Nat) : Int)))) := (hM.fr.add f18)
                          exact OpVal.draw hF (opMove rfl) ⟨G, fun _ _ h => h, ⟨hC, hB, hg⟩, rfl⟩
                        refine dsOn (j := 20) rfl rfl ?_ ?_
                        · intro done G w ac_ hd hp hn ⟨hC, hB, hg⟩ hM
                          have f165 : ac_.tmps[165]? = some (.slice (some ⟨b68, o69, none⟩) x45.q.length cap64) := hM.eqv 17 rfl (hp 17 rfl) rfl rfl
                          have f166 : ac_.tmps[166]? = some (.int .i64 (((i : Nat) : Int))) := hM.eqv 18 rfl (hp 18 rfl) rfl rfl
                          have f160 : ac_.tmps[160]? = some (.bool true) := hM.eqv 12 rfl (hp 12 rfl) rfl rfl
                          refine ⟨f160, ?_⟩
                          have hF : Fr 197 ac_ ((Env.nil.put 165 (.slice (some ⟨b68, o69, none⟩) x45.q.length cap64)).put 166 (.int .i64 (((i : Nat) : Int)))) := ((hM.fr.add f165).add f166)
                          exact OpVal.draw hF (opIndexAddr rfl rfl slo47 (of_decide_eq_true h65)) ⟨G, fun _ _ h => h, ⟨hC, hB, hg⟩, rfl⟩
                        refine dsOn (j := 21) rfl rfl ?_ ?_
                        · intro done G w ac_ hd hp hn ⟨hC, hB, hg⟩ hM
                          have f167 : ac_.tmps[167]? = some (.pointer (some ⟨b68, o69 + i * 34, none⟩)) := hM.eqv 19 rfl (hp 19 rfl) rfl rfl
                          have f160 : ac_.tmps[160]? = some (.bool true) := hM.eqv 12 rfl (hp 12 rfl) rfl rfl
                          refine ⟨f160, ?_⟩
                          have hF : Fr 197 ac_ (Env.nil.put 167 (.pointer (some ⟨b68, o69 + i * 34, none⟩))) := (hM.fr.add f167)
                          exact OpVal.draw hF (opFieldAddr rfl fo58_1) ⟨G, fun _ _ h => h, ⟨hC, hB, hg⟩, rfl⟩
                        refine dsOn (j := 22) rfl rfl ?_ ?_
                        · intro done G w ac_ hd hp hn ⟨hC, hB, hg⟩ hM
                          replace hr71 := hr71.mono hg
                          have f168 : ac_.tmps[168]? = some (.pointer (some ⟨b68, o69 + i * 34 + 1, none⟩)) := hM.eqv 20 rfl (hp 20 rfl) rfl rfl
                          have f160 : ac_.tmps[160]? = some (.bool true) := hM.eqv 12 rfl (hp 12 rfl) rfl rfl
                          refine ⟨f160, ?_⟩
                          have hF : Fr 197 ac_ (Env.nil.put 168 (.pointer (some ⟨b68, o69 + i * 34 + 1, none⟩))) := (hM.fr.add f168)
                          exact OpVal.draw hF (opLoadRow (cs := x66.dig.cells) rfl (RowG.range hC.holds (hr71.part (i := 1) (m := 32) (by simp [Mark.cells, Stand.cells]))) row28 (by simp [Mark.cells, Stand.cells])) ⟨G, fun _ _ h => h, ⟨hC, hB, hg⟩, rfl⟩
                        refine dsOn (j := 23) rfl rfl ?_ ?_
                        · intro done G w ac_ hd hp hn ⟨hC, hB, hg⟩ hM
                          have f15 : ac_.tmps[15]? = some (.pointer (some ⟨b40, 0, none⟩)) := hM.old0 rfl rfl
                          have f160 : ac_.tmps[160]? = some (.bool true) := hM.eqv 12 rfl (hp 12 rfl) rfl rfl
                          refine ⟨f160, ?_⟩
                          have hF : Fr 197 ac_ (Env.nil.put 15 (.pointer (some ⟨b40, 0, none⟩))) := (hM.fr.add f15)
                          exact OpVal.draw hF (opFieldAddr rfl fo30_1) ⟨G, fun _ _ h => h, ⟨hC, hB, hg⟩, rfl⟩
                        refine dsOn (j := 24) rfl rfl ?_ ?_
                        · intro done G w ac_ hd hp hn ⟨hC, hB, hg⟩ hM
                          have f170 : ac_.tmps[170]? = some (.pointer (some ⟨b40, 1, none⟩)) := hM.eqv 22 rfl (hp 22 rfl) rfl rfl
                          have f160 : ac_.tmps[160]? = some (.bool true) := hM.eqv 12 rfl (hp 12 rfl) rfl rfl
                          refine ⟨f160, ?_⟩
                          have hF : Fr 197 ac_ (Env.nil.put 170 (.pointer (some ⟨b40, 1, none⟩))) := (hM.fr.add f170)
                          exact OpVal.draw hF (opLoadRow (cs := x32.dig.cells) rfl (hB.range (i := 0) (m := 32) rfl (by simp [Mark.cells, Stand.cells])) row28 (by simp [Mark.cells, Stand.cells])) ⟨G, fun _ _ h => h, ⟨hC, hB, hg⟩, rfl⟩
                        refine dsOn (j := 25) rfl rfl ?_ ?_
                        · intro done G w ac_ hd hp hn ⟨hC, hB, hg⟩ hM
                          have f169 : ac_.tmps[169]? = some (.agg x66.dig.cells.toArray) := hM.eqv 21 rfl (hp 21 rfl) rfl rfl
                          have f171 : ac_.tmps[171]? = some (.agg x32.dig.cells.toArray) := hM.eqv 23 rfl (hp 23 rfl) rfl rfl
                          have f160 : ac_.tmps[160]? = some (.bool true) := hM.eqv 12 rfl (hp 12 rfl) rfl rfl
                          refine ⟨f160, ?_⟩
                          have hF : Fr 197 ac_ ((Env.nil.put 169 (.agg x66.dig.cells.toArray)).put 171 (.agg x32.dig.cells.toArray)) := ((hM.fr.add f169).add f171)
                          exact OpVal.draw hF (opEqRow (eq28 _ x66.dig x32.dig) eg28 rfl rfl) ⟨G, fun _ _ h => h, ⟨hC, hB, hg⟩, rfl⟩
                        refine dsNone (j := 26) rfl ?_ ?_
                        · intro done G w ac_ hd hp hn ⟨hC, hB, hg⟩ hM
                          have f160 : ac_.tmps[160]? = some (.bool true) := hM.eqv 12 rfl (hp 12 rfl) rfl rfl
                          have f172 : ac_.tmps[172]? = some (.bool (decide (x66.dig = x32.dig))) := hM.eqv 24 rfl (hp 24 rfl) rfl rfl
                          have hF : Fr 197 ac_ ((Env.nil.put 160 (.bool true)).put 172 (.bool (decide (x66.dig = x32.dig)))) := ((hM.fr.add f160).add f172)
                          exact OpVal.draw hF (opPickT rfl rfl) ⟨G, fun _ _ h => h, ⟨hC, hB, hg⟩, rfl⟩
                        exact dsNil
                      · intro done G w ac_ hall ⟨hC, hB, hg⟩ hM
                        replace hl := hl.mono hg
                        replace hs13 := hs13.mono hg
                        replace hs16 := hs16.mono hg
                        replace hs25 := hs25.mono hg
                        replace hr37 := hr37.mono hg
                        replace hs54 := hs54.mono hg
                        replace hs56 := hs56.mono hg
                        replace hs58 := hs58.mono hg
                        replace hr50 := hr50.mono hg
                        replace hr71 := hr71.mono hg
                        have f5 : ac_.tmps[5]? = some (.int .i64 (IntKind.wrap .i64 (1 + ((bringI fl 2))))) := hM.old0 rfl rfl
                        have f6 : ac_.tmps[6]? = some (.slice (some ⟨b47, o48, none⟩) (((min ins.length (3 * (IntKind.wrap .i64 (1 + (bringI fl 2))) + 1).toNat))) insC) := hM.old0 rfl rfl
                        have f8 : ac_.tmps[8]? = some (.pointer (some ⟨b23, 0, none⟩)) := hM.old0 rfl rfl
                        have f9 : ac_.tmps[9]? = some (.slice (some ⟨b34, o35, none⟩) ((((selI (has (((crewI (IntKind.wrap .i64 (1 + ((bringI fl 2)))))))) (((crewI (IntKind.wrap .i64 (1 + ((bringI fl 2))))))) ((ins.take (((min ins.length (3 * (IntKind.wrap .i64 (1 + (bringI fl 2))) + 1).toNat)))))).2.1)).length) cap19) := hM.old0 rfl rfl
                        have f14 : ac_.tmps[14]? = some (.int .i64 (((g : Nat) : Int))) := hM.old0 rfl rfl
                        have f15 : ac_.tmps[15]? = some (.pointer (some ⟨b40, 0, none⟩)) := hM.old0 rfl rfl
                        have f16 : ac_.tmps[16]? = some (.int .i64 (((u : Nat) : Int))) := hM.old0 rfl rfl
                        have f17 : ac_.tmps[17]? = some (.int .i64 (((v : Nat) : Int))) := hM.old0 rfl rfl
                        have f18 : ac_.tmps[18]? = some (.int .i64 (((i : Nat) : Int))) := hM.old0 rfl rfl
                        have f173 : ac_.tmps[173]? = some (.bool (decide (x66.dig = x32.dig))) := hM.eqv 25 rfl (hall 25 (by decide)) rfl rfl
                        refine ⟨((((((((((Env.nil.put 5 (.int .i64 (IntKind.wrap .i64 (1 + ((bringI fl 2)))))).put 6 (.slice (some ⟨b47, o48, none⟩) (((min ins.length (3 * (IntKind.wrap .i64 (1 + (bringI fl 2))) + 1).toNat))) insC)).put 8 (.pointer (some ⟨b23, 0, none⟩))).put 9 (.slice (some ⟨b34, o35, none⟩) ((((selI (has (((crewI (IntKind.wrap .i64 (1 + ((bringI fl 2)))))))) (((crewI (IntKind.wrap .i64 (1 + ((bringI fl 2))))))) ((ins.take (((min ins.length (3 * (IntKind.wrap .i64 (1 + (bringI fl 2))) + 1).toNat)))))).2.1)).length) cap19)).put 14 (.int .i64 (((g : Nat) : Int)))).put 15 (.pointer (some ⟨b40, 0, none⟩))).put 16 (.int .i64 (((u : Nat) : Int)))).put 17 (.int .i64 (((v : Nat) : Int)))).put 18 (.int .i64 (((i : Nat) : Int)))).put 173 (.bool (decide (x66.dig = x32.dig)))), ((((((((((hM.fr.add f5).add f6).add f8).add f9).add f14).add f15).add f16).add f17).add f18).add f173), ?_⟩
                        clear hM hall
                        refine wcOf ?_
                        cases h75 : decide (x66.dig = x32.dig)
                        · skip
                          refine wcCondF rfl ?_
                          refine wcSkip ?_
                          refine wcOf ?_
                          refine wcRegion ?_
                          refine wlVal (opMove rfl) rfl ?_
                          refine wlVal (opIncr rfl rfl (incr_ok (of_decide_eq_true h65) hs58.le)) rfl ?_
                          refine wlVal (opAssign rfl) rfl ?_
                          refine wlRound ?_
                          exact (IH5 (i + 1, u) _ _ ⟨hC, hB, hl, hs13, hs16, hs25, hr37, hs54, hs56, hs58, hr50, hu, (by rw [← hJ, drop_get hx67]; simp only [List.any_cons, h8, h24, h27, h28, h29, h30, h31, h41, h74, h75, Bool.false_or, Bool.and_false, Bool.and_true, Bool.false_and])⟩ (by have q := of_decide_eq_true h65; show x45.q.length - (i + 1) < x45.q.length - i; omega)).sub (fun _ ha => (((((((((ha.start.cons ha (t := 5) rfl).cons ha (t := 6) rfl).cons ha (t := 8) rfl).cons ha (t := 9) rfl).cons ha (t := 14) rfl).cons ha (t := 15) rfl).cons ha (t := 16) rfl).cons ha (t := 17) rfl).cons ha (t := 18) rfl))
                        · skip
                          refine wcCondT rfl ?_
                          refine wcSeq ?_
                          refine wcRegion ?_
                          refine wlVal (opMove rfl) rfl ?_
                          refine wlVal (opIncr rfl rfl (by have q9 := copied_len l; have q8 := hlen; have := hu; first | (have := htk; have q := of_decide_eq_true h41; (try simp only [List.length_take] at q); omega) | (have := hvo; have q := of_decide_eq_true h41; (try simp only [List.length_take] at q); omega))) rfl ?_
                          refine wlVal (opAssign rfl) rfl ?_
                          refine wlThen ?_
                          refine wcExit ?_
                          refine wcOf ?_
                          refine wcRegion ?_
                          refine wlVal (opMove rfl) rfl ?_
                          refine wlVal (opIncr rfl rfl (by have q := of_decide_eq_true h41; have q9 := copied_len l; have q8 := hlen; (try simp only [List.length_take] at q); omega)) rfl ?_
                          refine wlVal (opAssign rfl) rfl ?_
                          refine wlRound ?_
                          exact (IH4 (v + 1, u + 1) _ _ ⟨hC, hB, hl, hs13, hs16, hs25, hr37, (by omega), (by have hA := hJ; rw [drop_get hx67] at hA; simp only [List.any_cons, List.any_nil, h8, h24, h28, h29, h30, h31, h74, h75, Bool.true_or, Bool.and_true, Bool.true_and] at hA; rw [List.take_add_one, hx46]; simp only [Option.toList_some, List.countP_append, List.countP_cons, List.countP_nil, ← hA, ← hwo]; simp; omega)⟩ (by have q := of_decide_eq_true h41; show (min ins.length (3 * (IntKind.wrap .i64 (1 + (bringI fl 2))) + 1).toNat) - (v + 1) < (min ins.length (3 * (IntKind.wrap .i64 (1 + (bringI fl 2))) + 1).toNat) - v; omega)).sub (fun _ ha => ((((((((ha.start.cons ha (t := 5) rfl).cons ha (t := 6) rfl).cons ha (t := 8) rfl).cons ha (t := 9) rfl).cons ha (t := 14) rfl).cons ha (t := 15) rfl).cons ha (t := 16) rfl).cons ha (t := 17) rfl))
            · skip
              refine wlOn rfl rfl ?_
              refine wlVal (opMove rfl) rfl ?_
              refine wlOn rfl rfl ?_
              refine wlVal (opMove rfl) rfl ?_
              refine wlOn rfl rfl ?_
              refine wlVal (opLen rfl isl31) rfl ?_
              refine wlOn rfl rfl ?_
              refine wlVal (opDecr rfl rfl (by have q := of_decide_eq_true h30; omega) (Nat.lt_of_le_of_lt (selI_len _ _ _) (by decide))) rfl ?_
              refine wlOn rfl rfl ?_
              obtain ⟨x76, hx77⟩ : ∃ y_, (((selI (has (((crewI (IntKind.wrap .i64 (1 + ((bringI fl 2)))))))) (((crewI (IntKind.wrap .i64 (1 + ((bringI fl 2))))))) ((ins.take (((min ins.length (3 * (IntKind.wrap .i64 (1 + (bringI fl 2))) + 1).toNat)))))).2.1))[((((selI (has (((crewI (IntKind.wrap .i64 (1 + ((bringI fl 2)))))))) (((crewI (IntKind.wrap .i64 (1 + ((bringI fl 2))))))) ((ins.take (((min ins.length (3 * (IntKind.wrap .i64 (1 + (bringI fl 2))) + 1).toNat)))))).2.1)).length - 1)]? = some y_ := ⟨_, List.getElem?_eq_getElem (by have q := of_decide_eq_true h30; omega)⟩
              obtain ⟨b78, o79, row80, hA83, hr81, hi82⟩ := hs25.elem hx77; subst hA83
              obtain rfl := hi82
              refine wlVal (opIndexAddr rfl rfl slo31 (by have q := of_decide_eq_true h30; omega)) rfl ?_
              refine wlOn rfl rfl ?_
              refine wlVal (opFieldAddr rfl fo30_1) rfl ?_
              refine wlOn rfl rfl ?_
              refine wlVal (opLoadRow (cs := x76.dig.cells) rfl (RowG.range hC.holds (hr81.part (i := 1) (m := 32) (by simp [Mark.cells, Stand.cells]))) row28 (by simp [Mark.cells, Stand.cells])) rfl ?_
              refine wlOn rfl rfl ?_
              refine wlVal (opBuildArr (ps := []) (cs := Dig.zero.cells) ar28 zero28 rfl rfl (by first | rfl | simp [buildA, Value.cells])) rfl ?_
              refine wlOn rfl rfl ?_
              refine wlVal (opEqRow (eq28 _ x76.dig Dig.zero) eg28 rfl rfl) rfl ?_
              refine wlOn rfl rfl ?_
              refine wlVal (opPickT rfl rfl) rfl ?_
              refine wlVal (opPickF rfl rfl) rfl ?_
              refine wlThen ?_
              cases h84 : decide (x76.dig = Dig.zero)
              · skip
                refine wcCondF rfl ?_
                refine wcSkip ?_
                refine wcOf ?_
                refine wcSeq ?_
                refine wcSeq ?_
                refine wcRegion ?_
                refine wlVal (opAssign rfl) rfl ?_
                refine wlThen ?_
                refine wcBlock ?_
                refine WC.sub (wrInd (ι := Nat) (fun g => (((selI (has (((crewI (IntKind.wrap .i64 (1 + ((bringI fl 2)))))))) (((crewI (IntKind.wrap .i64 (1 + ((bringI fl 2))))))) ((ins.take (((min ins.length (3 * (IntKind.wrap .i64 (1 + (bringI fl 2))) + 1).toNat)))))).2.1)).length - g) (fun g G w => Cx w0 G0 G w ∧ Bxs G w w0.heap.size [(b23, 30, (((selI (has (((crewI (IntKind.wrap .i64 (1 + ((bringI fl 2)))))))) (((crewI (IntKind.wrap .i64 (1 + ((bringI fl 2))))))) ((ins.take (((min ins.length (3 * (IntKind.wrap .i64 (1 + (bringI fl 2))) + 1).toNat)))))).1)).cells)] ∧ Sl G (.slice A1 l.length cap2) l ∧ Sl G (.slice A14 ((((crewI (IntKind.wrap .i64 (1 + ((bringI fl 2)))))).nodes).length) cap15) (((crewI (IntKind.wrap .i64 (1 + ((bringI fl 2)))))).nodes) ∧ Sl G (.slice insA (((min ins.length (3 * (IntKind.wrap .i64 (1 + (bringI fl 2))) + 1).toNat))) insC) ((ins.take (((min ins.length (3 * (IntKind.wrap .i64 (1 + (bringI fl 2))) + 1).toNat))))) ∧ Sl G (.slice (some ⟨b78, o79, none⟩) ((((selI (has (((crewI (IntKind.wrap .i64 (1 + ((bringI fl 2)))))))) (((crewI (IntKind.wrap .i64 (1 + ((bringI fl 2))))))) ((ins.take (((min ins.length (3 * (IntKind.wrap .i64 (1 + (bringI fl 2))) + 1).toNat)))))).2.1)).length) cap19) (((selI (has (((crewI (IntKind.wrap .i64 (1 + ((bringI fl 2)))))))) (((crewI (IntKind.wrap .i64 (1 + ((bringI fl 2))))))) ((ins.take (((min ins.length (3 * (IntKind.wrap .i64 (1 + (bringI fl 2))) + 1).toNat)))))).2.1)) ∧ RowG G b78 (o79 + (((((selI (has (((crewI (IntKind.wrap .i64 (1 + ((bringI fl 2)))))))) (((crewI (IntKind.wrap .i64 (1 + ((bringI fl 2))))))) ((ins.take (((min ins.length (3 * (IntKind.wrap .i64 (1 + (bringI fl 2))) + 1).toNat)))))).2.1)).length - 1)) * 33) x76.cells) (fun g => (((((Env.nil.put 5 (.int .i64 (IntKind.wrap .i64 (1 + ((bringI fl 2)))))).put 6 (.slice insA (((min ins.length (3 * (IntKind.wrap .i64 (1 + (bringI fl 2))) + 1).toNat))) insC)).put 8 (.pointer (some ⟨b23, 0, none⟩))).put 9 (.slice (some ⟨b78, o79, none⟩) ((((selI (has (((crewI (IntKind.wrap .i64 (1 + ((bringI fl 2)))))))) (((crewI (IntKind.wrap .i64 (1 + ((bringI fl 2))))))) ((ins.take (((min ins.length (3 * (IntKind.wrap .i64 (1 + (bringI fl 2))) + 1).toNat)))))).2.1)).length) cap19)).put 14 (.int .i64 (((g : Nat) : Int))))) ?_ (0) _ _ ⟨hC, hB, hl, hs13, hs16, hs25, hr81⟩) (fun _ ha => (((((ha.start.cons ha (t := 5) rfl).cons ha (t := 6) rfl).cons ha (t := 8) rfl).cons ha (t := 9) rfl).cons ha (t := 14) rfl))
                rintro g G w N3 IH3 ⟨hC, hB, hl, hs13, hs16, hs25, hr81⟩
                show WC _ _ _ _ (((((Env.nil.put 5 (.int .i64 (IntKind.wrap .i64 (1 + ((bringI fl 2)))))).put 6 (.slice insA (((min ins.length (3 * (IntKind.wrap .i64 (1 + (bringI fl 2))) + 1).toNat))) insC)).put 8 (.pointer (some ⟨b23, 0, none⟩))).put 9 (.slice (some ⟨b78, o79, none⟩) ((((selI (has (((crewI (IntKind.wrap .i64 (1 + ((bringI fl 2)))))))) (((crewI (IntKind.wrap .i64 (1 + ((bringI fl 2))))))) ((ins.take (((min ins.length (3 * (IntKind.wrap .i64 (1 + (bringI fl 2))) + 1).toNat)))))).2.1)).length) cap19)).put 14 (.int .i64 (((g : Nat) : Int)))) w
                refine wcSeq ?_
                refine wcSeq ?_
                refine wcRegion ?_
                refine wlVal (opMove rfl) rfl ?_
                refine wlVal (opMove rfl) rfl ?_
                refine wlVal (opLen rfl isl31) rfl ?_
                refine wlVal (opLssN rfl rfl) rfl ?_
                refine wlThen ?_
                cases h85 : decide (g < (((selI (has (((crewI (IntKind.wrap .i64 (1 + ((bringI fl 2)))))))) (((crewI (IntKind.wrap .i64 (1 + ((bringI fl 2))))))) ((ins.take (((min ins.length (3 * (IntKind.wrap .i64 (1 + (bringI fl 2))) + 1).toNat)))))).2.1)).length)
                · skip
                  refine wcCondF rfl ?_
                  refine wcExit ?_
                  refine wcOf ?_
                  refine wcSeq ?_
                  refine wcRegion ?_
                  refine wlCallS hC hB rfl co14 rfl rfl (awake_ret _ _ hC.holds ) ?_; intro w hk hC hB
                  refine wlVal (opAssign rfl) rfl ?_
                  refine wlThen ?_
                  refine wcRet ?_
                  exact fun ac_ ha => hQ _ _ _ (results1 ha rfl rfl) ha.df (endS hC hw rfl)
                · skip
                  refine wcCondT rfl ?_
                  refine wcSkip ?_
                  refine wcOf ?_
                  refine wcSeq ?_
                  refine wcBlock ?_
                  refine wcSeq ?_
                  refine wcRegion ?_
                  refine wlVal (opMove rfl) rfl ?_
                  refine wlVal (opMove rfl) rfl ?_
                  obtain ⟨x86, hx87⟩ : ∃ y_, (((selI (has (((crewI (IntKind.wrap .i64 (1 + ((bringI fl 2)))))))) (((crewI (IntKind.wrap .i64 (1 + ((bringI fl 2))))))) ((ins.take (((min ins.length (3 * (IntKind.wrap .i64 (1 + (bringI fl 2))) + 1).toNat)))))).2.1))[g]? = some y_ := ⟨_, List.getElem?_eq_getElem (of_decide_eq_true h85)⟩
                  obtain ⟨row90, hr91, hi92⟩ := Sl.elem' hs25 hx87
                  obtain rfl := hi92
                  refine wlVal (opIndexAddr rfl rfl slo31 (of_decide_eq_true h85)) rfl ?_
                  refine wlVal (opLoadRow (cs := x86.cells) rfl (RowG.range hC.holds hr91) row30 (by simp [Mark.cells, Stand.cells])) rfl ?_
                  refine wlAlloc hC hB zero30 rfl ?_; intro b94 w hk hC hB
                  refine wlStore 0 (vs := x86.cells) (cs := ((.int .i64 0) :: (Dig.zero.cells ++ []))) (cs' := x86.cells) hC hB rfl rfl rfl sz30 rfl (by simp [Mark.cells, Stand.cells]) (by simp [Mark.cells, Stand.cells, Value.oneCell']) (by simp [Mark.cells, Stand.cells]) (by simp [Mark.cells, Stand.cells]) rfl ?_; intro w hC hB
                  refine wlThen ?_
                  refine wcSeq ?_
                  refine wcRegion ?_
                  refine wlVal (opAssign rfl) rfl ?_
                  refine wlThen ?_
                  refine wcSeq ?_
                  refine wcSeq ?_
                  refine wcRegion ?_
                  refine wlVal (opAssign rfl) rfl ?_
                  refine wlThen ?_
                  refine wcBlock ?_
                  refine WC.sub (wrInd (ι := Nat × Nat) (fun i => match i with | (v, vo) => (min ins.length (3 * (IntKind.wrap .i64 (1 + (bringI fl 2))) + 1).toNat) - v) (fun i G w => match i with | (v, vo) => Cx w0 G0 G w ∧ Bxs G w w0.heap.size [(b94, 30, x86.cells), (b23, 30, (((selI (has (((crewI (IntKind.wrap .i64 (1 + ((bringI fl 2)))))))) (((crewI (IntKind.wrap .i64 (1 + ((bringI fl 2))))))) ((ins.take (((min ins.length (3 * (IntKind.wrap .i64 (1 + (bringI fl 2))) + 1).toNat)))))).1)).cells)] ∧ Sl G (.slice A1 l.length cap2) l ∧ Sl G (.slice A14 ((((crewI (IntKind.wrap .i64 (1 + ((bringI fl 2)))))).nodes).length) cap15) (((crewI (IntKind.wrap .i64 (1 + ((bringI fl 2)))))).nodes) ∧ Sl G (.slice insA (((min ins.length (3 * (IntKind.wrap .i64 (1 + (bringI fl 2))) + 1).toNat))) insC) ((ins.take (((min ins.length (3 * (IntKind.wrap .i64 (1 + (bringI fl 2))) + 1).toNat))))) ∧ Sl G (.slice (some ⟨b78, o79, none⟩) ((((selI (has (((crewI (IntKind.wrap .i64 (1 + ((bringI fl 2)))))))) (((crewI (IntKind.wrap .i64 (1 + ((bringI fl 2))))))) ((ins.take (((min ins.length (3 * (IntKind.wrap .i64 (1 + (bringI fl 2))) + 1).toNat)))))).2.1)).length) cap19) (((selI (has (((crewI (IntKind.wrap .i64 (1 + ((bringI fl 2)))))))) (((crewI (IntKind.wrap .i64 (1 + ((bringI fl 2))))))) ((ins.take (((min ins.length (3 * (IntKind.wrap .i64 (1 + (bringI fl 2))) + 1).toNat)))))).2.1)) ∧ RowG G b78 (o79 + (((((selI (has (((crewI (IntKind.wrap .i64 (1 + ((bringI fl 2)))))))) (((crewI (IntKind.wrap .i64 (1 + ((bringI fl 2))))))) ((ins.take (((min ins.length (3 * (IntKind.wrap .i64 (1 + (bringI fl 2))) + 1).toNat)))))).2.1)).length - 1)) * 33) x76.cells ∧ RowG G b78 (o79 + g * 33) x86.cells ∧ vo ≤ v ∧ vo = ((ins.take (min ins.length (3 * (IntKind.wrap .i64 (1 + (bringI fl 2))) + 1).toNat)).take v).countP (fun x => x.q.any (fun z => (z.seq == x86.seq) && decide (z.dig = x86.dig)))) (fun i => match i with | (v, vo) => ((((((((Env.nil.put 5 (.int .i64 (IntKind.wrap .i64 (1 + ((bringI fl 2)))))).put 6 (.slice insA (((min ins.length (3 * (IntKind.wrap .i64 (1 + (bringI fl 2))) + 1).toNat))) insC)).put 8 (.pointer (some ⟨b23, 0, none⟩))).put 9 (.slice (some ⟨b78, o79, none⟩) ((((selI (has (((crewI (IntKind.wrap .i64 (1 + ((bringI fl 2)))))))) (((crewI (IntKind.wrap .i64 (1 + ((bringI fl 2))))))) ((ins.take (((min ins.length (3 * (IntKind.wrap .i64 (1 + (bringI fl 2))) + 1).toNat)))))).2.1)).length) cap19)).put 14 (.int .i64 (((g : Nat) : Int)))).put 15 (.pointer (some ⟨b94, 0, none⟩))).put 16 (.int .i64 (((vo : Nat) : Int)))).put 17 (.int .i64 (((v : Nat) : Int))))) ?_ (0, 0) _ _ ⟨hC, hB, hl, hs13, hs16, hs25, hr81, hr91, (Nat.le_refl _), (by simp)⟩) (fun _ ha => ((((((((ha.start.cons ha (t := 5) rfl).cons ha (t := 6) rfl).cons ha (t := 8) rfl).cons ha (t := 9) rfl).cons ha (t := 14) rfl).cons ha (t := 15) rfl).cons ha (t := 16) rfl).cons ha (t := 17) rfl))
                  rintro ⟨v, vo⟩ G w N4 IH4 ⟨hC, hB, hl, hs13, hs16, hs25, hr81, hr91, hvo, hwo⟩
                  show WC _ _ _ _ ((((((((Env.nil.put 5 (.int .i64 (IntKind.wrap .i64 (1 + ((bringI fl 2)))))).put 6 (.slice insA (((min ins.length (3 * (IntKind.wrap .i64 (1 + (bringI fl 2))) + 1).toNat))) insC)).put 8 (.pointer (some ⟨b23, 0, none⟩))).put 9 (.slice (some ⟨b78, o79, none⟩) ((((selI (has (((crewI (IntKind.wrap .i64 (1 + ((bringI fl 2)))))))) (((crewI (IntKind.wrap .i64 (1 + ((bringI fl 2))))))) ((ins.take (((min ins.length (3 * (IntKind.wrap .i64 (1 + (bringI fl 2))) + 1).toNat)))))).2.1)).length) cap19)).put 14 (.int .i64 (((g : Nat) : Int)))).put 15 (.pointer (some ⟨b94, 0, none⟩))).put 16 (.int .i64 (((vo : Nat) : Int)))).put 17 (.int .i64 (((v : Nat) : Int)))) w
                  refine wcSeq ?_
                  refine wcSeq ?_
                  refine wcRegion ?_
                  refine wlVal (opMove rfl) rfl ?_
                  refine wlVal (opMove rfl) rfl ?_
                  refine wlVal (opLen rfl isl25) rfl ?_
                  refine wlVal (opLssN rfl rfl) rfl ?_
                  refine wlThen ?_
                  cases h95 : decide (v < ((min ins.length (3 * (IntKind.wrap .i64 (1 + (bringI fl 2))) + 1).toNat)))
                  · skip
                    refine wcCondF rfl ?_
                    refine wcExit ?_
                    refine wcOf ?_
                    refine wcSeq ?_
                    refine wcRegion ?_
                    refine wlVal (opFieldAddr rfl fo30_0) rfl ?_
                    refine wlVal (opLoadOne (v := (.int .i64 x86.seq)) rfl (hB.cell (i := 0) rfl (by simp [Mark.cells, Stand.cells])) one3) rfl ?_
                    refine wlVal (opFieldAddr rfl fo30_0) rfl ?_
                    refine wlVal (opLoadOne (v := (.int .i64 (((selI (has (((crewI (IntKind.wrap .i64 (1 + ((bringI fl 2)))))))) (((crewI (IntKind.wrap .i64 (1 + ((bringI fl 2))))))) ((ins.take (((min ins.length (3 * (IntKind.wrap .i64 (1 + (bringI fl 2))) + 1).toNat)))))).1).seq))) rfl (hB.cell (i := 1) rfl (by simp [Mark.cells, Stand.cells])) one3) rfl ?_
                    refine wlVal (opAdd rfl rfl) rfl ?_
                    refine wlVal (opMove rfl) rfl ?_
                    refine wlVal (opAdd rfl rfl) rfl ?_
                    refine wlVal (opNeq rfl rfl) rfl ?_
                    refine wlVal (opMove rfl) rfl ?_
                    cases h96 : x86.seq != (IntKind.wrap .i64 (IntKind.wrap .i64 (((selI (has (((crewI (IntKind.wrap .i64 (1 + ((bringI fl 2)))))))) (((crewI (IntKind.wrap .i64 (1 + ((bringI fl 2))))))) ((ins.take (((min ins.length (3 * (IntKind.wrap .i64 (1 + (bringI fl 2))) + 1).toNat)))))).1).seq + 1) + ((g : Nat) : Int)))
                    · skip
                      refine wlOn rfl rfl ?_
                      refine wlVal (opFieldAddr rfl fo30_1) rfl ?_
                      refine wlOn rfl rfl ?_
                      refine wlVal (opLoadRow (cs := x86.dig.cells) rfl (hB.range (i := 0) (m := 32) rfl (by simp [Mark.cells, Stand.cells])) row28 (by simp [Mark.cells, Stand.cells])) rfl ?_
                      refine wlOn rfl rfl ?_
                      refine wlVal (opBuildArr (ps := []) (cs := Dig.zero.cells) ar28 zero28 rfl rfl (by first | rfl | simp [buildA, Value.cells])) rfl ?_
                      refine wlOn rfl rfl ?_
                      refine wlVal (opNeRow (eq28 _ x86.dig Dig.zero) eg28 rfl rfl) rfl ?_
                      refine wlOn rfl rfl ?_
                      refine wlVal (opMove rfl) rfl ?_
                      cases h97 : decide (x86.dig = Dig.zero)
                      · skip
                        refine wlOn rfl rfl ?_
                        refine wlVal (opMove rfl) rfl ?_
                        refine wlOn rfl rfl ?_
                        refine wlVal (opMove rfl) rfl ?_
                        refine wlOn rfl rfl ?_
                        refine wlVal (opAdd rfl rfl) rfl ?_
                        refine wlOn rfl rfl ?_
                        refine wlVal (opLss rfl rfl) rfl ?_
                        refine wlOn rfl rfl ?_
                        refine wlVal (opPickT rfl rfl) rfl ?_
                        refine wlVal (opPickF rfl rfl) rfl ?_
                        refine wlThen ?_
                        cases h98 : decide (((vo : Nat) : Int) < IntKind.wrap .i64 (IntKind.wrap .i64 (1 + ((bringI fl 2))) + 1))
                        · skip
                          refine wcCondF rfl ?_
                          refine wcSkip ?_
                          refine wcOf ?_
                          refine wcRegion ?_
                          refine wlVal (opMove rfl) rfl ?_
                          refine wlVal (opIncr rfl rfl (by have q := of_decide_eq_true h85; have := selI_len (has (crewI (IntKind.wrap .i64 (1 + (bringI fl 2))))) (crewI (IntKind.wrap .i64 (1 + (bringI fl 2)))) (ins.take (min ins.length (3 * (IntKind.wrap .i64 (1 + (bringI fl 2))) + 1).toNat)); omega)) rfl ?_
                          refine wlVal (opAssign rfl) rfl ?_
                          refine wlRound ?_
                          exact (IH3 (g + 1) _ _ ⟨hC, hB.tail, hl, hs13, hs16, hs25, hr81⟩ (by have q := of_decide_eq_true h85; show (((selI (has (((crewI (IntKind.wrap .i64 (1 + ((bringI fl 2)))))))) (((crewI (IntKind.wrap .i64 (1 + ((bringI fl 2))))))) ((ins.take (((min ins.length (3 * (IntKind.wrap .i64 (1 + (bringI fl 2))) + 1).toNat)))))).2.1)).length - (g + 1) < (((selI (has (((crewI (IntKind.wrap .i64 (1 + ((bringI fl 2)))))))) (((crewI (IntKind.wrap .i64 (1 + ((bringI fl 2))))))) ((ins.take (((min ins.length (3 * (IntKind.wrap .i64 (1 + (bringI fl 2))) + 1).toNat)))))).2.1)).length - g; omega)).sub (fun _ ha => (((((ha.start.cons ha (t := 5) rfl).cons ha (t := 6) rfl).cons ha (t := 8) rfl).cons ha (t := 9) rfl).cons ha (t := 14) rfl))
                        · skip
                          refine wcCondT rfl ?_
                          refine wcSeq ?_
                          refine wcRegion ?_
                          refine wlVal (opAssign rfl) rfl ?_
                          refine wlThen ?_
                          refine wcRet ?_
                          exact fun ac_ ha => hQ _ _ _ (results1 ha rfl rfl) ha.df (endS hC hw (by have hV := vouched_sel h12 (node_ok h12 hren h8) h24; have q := of_decide_eq_true h98; have e4 : List.take v (ins.take (min ins.length (3 * (IntKind.wrap .i64 (1 + (bringI fl 2))) + 1).toNat)) = (ins.take (min ins.length (3 * (IntKind.wrap .i64 (1 + (bringI fl 2))) + 1).toNat)) := List.take_of_length_le (by have q4 := of_decide_eq_false h95; simp only [List.length_take]; omega); rw [IntWalk.i64_in _ (by have := h12; omega), hwo, e4] at q; have := (hV.2.2 _ _ hx87).2 (of_decide_eq_false h97); omega))
                      · skip
                        refine wlOff rfl rfl rfl rfl ?_
                        refine wlOff rfl rfl rfl rfl ?_
                        refine wlOff rfl rfl rfl rfl ?_
                        refine wlOff rfl rfl rfl rfl ?_
                        refine wlOn rfl rfl ?_
                        refine wlVal (opPickF rfl rfl) rfl ?_
                        refine wlVal (opPickF rfl rfl) rfl ?_
                        refine wlThen ?_
                        refine wcCondF rfl ?_
                        refine wcSkip ?_
                        refine wcOf ?_
                        refine wcRegion ?_
                        refine wlVal (opMove rfl) rfl ?_
                        refine wlVal (opIncr rfl rfl (by have q := of_decide_eq_true h85; have := selI_len (has (crewI (IntKind.wrap .i64 (1 + (bringI fl 2))))) (crewI (IntKind.wrap .i64 (1 + (bringI fl 2)))) (ins.take (min ins.length (3 * (IntKind.wrap .i64 (1 + (bringI fl 2))) + 1).toNat)); omega)) rfl ?_
                        refine wlVal (opAssign rfl) rfl ?_
                        refine wlRound ?_
                        exact (IH3 (g + 1) _ _ ⟨hC, hB.tail, hl, hs13, hs16, hs25, hr81⟩ (by have q := of_decide_eq_true h85; show (((selI (has (((crewI (IntKind.wrap .i64 (1 + ((bringI fl 2)))))))) (((crewI (IntKind.wrap .i64 (1 + ((bringI fl 2))))))) ((ins.take (((min ins.length (3 * (IntKind.wrap .i64 (1 + (bringI fl 2))) + 1).toNat)))))).2.1)).length - (g + 1) < (((selI (has (((crewI (IntKind.wrap .i64 (1 + ((bringI fl 2)))))))) (((crewI (IntKind.wrap .i64 (1 + ((bringI fl 2))))))) ((ins.take (((min ins.length (3 * (IntKind.wrap .i64 (1 + (bringI fl 2))) + 1).toNat)))))).2.1)).length - g; omega)).sub (fun _ ha => (((((ha.start.cons ha (t := 5) rfl).cons ha (t := 6) rfl).cons ha (t := 8) rfl).cons ha (t := 9) rfl).cons ha (t := 14) rfl))
                    · skip
                      refine wlOff rfl rfl rfl rfl ?_
                      refine wlOff rfl rfl rfl rfl ?_
                      refine wlOff rfl rfl rfl rfl ?_
                      refine wlOff rfl rfl rfl rfl ?_
                      refine wlOff rfl rfl rfl rfl ?_
                      refine wlOffU rfl rfl rfl ?_
                      refine wlOffU rfl rfl rfl ?_
                      refine wlOffU rfl rfl rfl ?_
                      refine wlOffU rfl rfl rfl ?_
                      refine wlOff rfl rfl rfl rfl ?_
                      refine wlVal (opPickT rfl rfl) rfl ?_
                      refine wlThen ?_
                      refine wcCondT rfl ?_
                      refine wcSeq ?_
                      refine wcRegion ?_
                      refine wlVal (opAssign rfl) rfl ?_
                      refine wlThen ?_
                      refine wcRet ?_
                      exact fun ac_ ha => hQ _ _ _ (results1 ha rfl rfl) ha.df (endS hC hw (by have hV := vouched_sel h12 (node_ok h12 hren h8) h24; have q0 := h96; have q1 := hV.2.2 _ _ hx87; rw [q1.1] at q0; simp at q0))
                  · skip
                    refine wcCondT rfl ?_
                    refine wcSkip ?_
                    refine wcOf ?_
                    refine wcSeq ?_
                    refine wcBlock ?_
                    refine wcSeq ?_
                    refine wcRegion ?_
                    refine wlVal (opAssign rfl) rfl ?_
                    refine wlThen ?_
                    refine wcBlock ?_
                    obtain ⟨x99, hx100⟩ : ∃ y_, ((ins.take (((min ins.length (3 * (IntKind.wrap .i64 (1 + (bringI fl 2))) + 1).toNat)))))[v]? = some y_ := ⟨_, List.getElem?_eq_getElem (by have q := of_decide_eq_true h95; simpa using q)⟩
                    obtain ⟨b101, o102, row103, hA106, hr104, hi105⟩ := hs16.elem hx100; subst hA106
                    obtain ⟨v107, v109, v111, rfl, hs108, hs110, hs112⟩ := Change.opIs hi105
                    obtain ⟨A113, cap114, rfl⟩ := hs108.form
                    obtain ⟨A115, cap116, rfl⟩ := hs110.form
                    obtain ⟨A117, cap118, rfl⟩ := hs112.form
                    refine WC.sub (wrInd (ι := Nat × Nat) (fun i => match i with | (i, u) => x99.q.length - i) (fun i G w => match i with | (i, u) => Cx w0 G0 G w ∧ Bxs G w w0.heap.size [(b94, 30, x86.cells), (b23, 30, (((selI (has (((crewI (IntKind.wrap .i64 (1 + ((bringI fl 2)))))))) (((crewI (IntKind.wrap .i64 (1 + ((bringI fl 2))))))) ((ins.take (((min ins.length (3 * (IntKind.wrap .i64 (1 + (bringI fl 2))) + 1).toNat)))))).1)).cells)] ∧ Sl G (.slice A1 l.length cap2) l ∧ Sl G (.slice A14 ((((crewI (IntKind.wrap .i64 (1 + ((bringI fl 2)))))).nodes).length) cap15) (((crewI (IntKind.wrap .i64 (1 + ((bringI fl 2)))))).nodes) ∧ Sl G (.slice (some ⟨b101, o102, none⟩) (((min ins.length (3 * (IntKind.wrap .i64 (1 + (bringI fl 2))) + 1).toNat))) insC) ((ins.take (((min ins.length (3 * (IntKind.wrap .i64 (1 + (bringI fl 2))) + 1).toNat))))) ∧ Sl G (.slice (some ⟨b78, o79, none⟩) ((((selI (has (((crewI (IntKind.wrap .i64 (1 + ((bringI fl 2)))))))) (((crewI (IntKind.wrap .i64 (1 + ((bringI fl 2))))))) ((ins.take (((min ins.length (3 * (IntKind.wrap .i64 (1 + (bringI fl 2))) + 1).toNat)))))).2.1)).length) cap19) (((selI (has (((crewI (IntKind.wrap .i64 (1 + ((bringI fl 2)))))))) (((crewI (IntKind.wrap .i64 (1 + ((bringI fl 2))))))) ((ins.take (((min ins.length (3 * (IntKind.wrap .i64 (1 + (bringI fl 2))) + 1).toNat)))))).2.1)) ∧ RowG G b78 (o79 + (((((selI (has (((crewI (IntKind.wrap .i64 (1 + ((bringI fl 2)))))))) (((crewI (IntKind.wrap .i64 (1 + ((bringI fl 2))))))) ((ins.take (((min ins.length (3 * (IntKind.wrap .i64 (1 + (bringI fl 2))) + 1).toNat)))))).2.1)).length - 1)) * 33) x76.cells ∧ RowG G b78 (o79 + g * 33) x86.cells ∧ Sl G (.slice A113 x99.marks.length cap114) x99.marks ∧ Sl G (.slice A115 x99.p.length cap116) x99.p ∧ Sl G (.slice A117 x99.q.length cap118) x99.q ∧ RowG G b101 (o102 + v * 6) [(.int .i64 x99.node), (.int .i64 x99.view), (.int .i64 x99.low), (.slice A113 x99.marks.length cap114), (.slice A115 x99.p.length cap116), (.slice A117 x99.q.length cap118)] ∧ u = vo ∧ (x99.q.drop i).any (fun z => (z.seq == x86.seq) && decide (z.dig = x86.dig)) = x99.q.any (fun z => (z.seq == x86.seq) && decide (z.dig = x86.dig))) (fun i => match i with | (i, u) => (((((((((Env.nil.put 5 (.int .i64 (IntKind.wrap .i64 (1 + ((bringI fl 2)))))).put 6 (.slice (some ⟨b101, o102, none⟩) (((min ins.length (3 * (IntKind.wrap .i64 (1 + (bringI fl 2))) + 1).toNat))) insC)).put 8 (.pointer (some ⟨b23, 0, none⟩))).put 9 (.slice (some ⟨b78, o79, none⟩) ((((selI (has (((crewI (IntKind.wrap .i64 (1 + ((bringI fl 2)))))))) (((crewI (IntKind.wrap .i64 (1 + ((bringI fl 2))))))) ((ins.take (((min ins.length (3 * (IntKind.wrap .i64 (1 + (bringI fl 2))) + 1).toNat)))))).2.1)).length) cap19)).put 14 (.int .i64 (((g : Nat) : Int)))).put 15 (.pointer (some ⟨b94, 0, none⟩))).put 16 (.int .i64 (((u : Nat) : Int)))).put 17 (.int .i64 (((v : Nat) : Int)))).put 18 (.int .i64 (((i : Nat) : Int))))) ?_ (0, vo) _ _ ⟨hC, hB, hl, hs13, hs16, hs25, hr81, hr91, hs108, hs110, hs112, hr104, rfl, rfl⟩) (fun _ ha => (((((((((ha.start.cons ha (t := 5) rfl).cons ha (t := 6) rfl).cons ha (t := 8) rfl).cons ha (t := 9) rfl).cons ha (t := 14) rfl).cons ha (t := 15) rfl).cons ha (t := 16) rfl).cons ha (t := 17) rfl).cons ha (t := 18) rfl))
                    rintro ⟨i, u⟩ G w N5 IH5 ⟨hC, hB, hl, hs13, hs16, hs25, hr81, hr91, hs108, hs110, hs112, hr104, hu, hJ⟩
                    show WC _ _ _ _ (((((((((Env.nil.put 5 (.int .i64 (IntKind.wrap .i64 (1 + ((bringI fl 2)))))).put 6 (.slice (some ⟨b101, o102, none⟩) (((min ins.length (3 * (IntKind.wrap .i64 (1 + (bringI fl 2))) + 1).toNat))) insC)).put 8 (.pointer (some ⟨b23, 0, none⟩))).put 9 (.slice (some ⟨b78, o79, none⟩) ((((selI (has (((crewI (IntKind.wrap .i64 (1 + ((bringI fl 2)))))))) (((crewI (IntKind.wrap .i64 (1 + ((bringI fl 2))))))) ((ins.take (((min ins.length (3 * (IntKind.wrap .i64 (1 + (bringI fl 2))) + 1).toNat)))))).2.1)).length) cap19)).put 14 (.int .i64 (((g : Nat) : Int)))).put 15 (.pointer (some ⟨b94, 0, none⟩))).put 16 (.int .i64 (((u : Nat) : Int)))).put 17 (.int .i64 (((v : Nat) : Int)))).put 18 (.int .i64 (((i : Nat) : Int)))) w
                    refine wcSeq ?_
                    refine wcSeq ?_
                    refine wcRegion ?_
                    refine wlVal (opMove rfl) rfl ?_
                    refine wlVal (opMove rfl) rfl ?_
                    refine wlVal (opMove rfl) rfl ?_
                    refine wlVal (opIndexAddr rfl rfl slo25 (by have q := of_decide_eq_true h95; simpa using q)) rfl ?_
                    refine wlVal (opFieldAddr rfl fo49_5) rfl ?_
                    refine wlVal (opLoadOne (v := (.slice A117 x99.q.length cap118)) rfl (RowG.cell hC.holds hr104 (j := 5) rfl) one47) rfl ?_
                    refine wlVal (opLen rfl isl47) rfl ?_
                    refine wlVal (opLssN rfl rfl) rfl ?_
                    refine wlThen ?_
                    cases h119 : decide (i < x99.q.length)
                    · skip
                      refine wcCondF rfl ?_
                      refine wcExit ?_
                      refine wcOf ?_
                      refine wcRegion ?_
                      refine wlVal (opMove rfl) rfl ?_
                      refine wlVal (opIncr rfl rfl (by have q := of_decide_eq_true h95; have q9 := copied_len l; have q8 := hlen; (try simp only [List.length_take] at q); omega)) rfl ?_
                      refine wlVal (opAssign rfl) rfl ?_
                      refine wlRound ?_
                      exact (IH4 (v + 1, u) _ _ ⟨hC, hB, hl, hs13, hs16, hs25, hr81, hr91, (by omega), (by have hA := hJ; rw [List.drop_eq_nil_of_le (Nat.le_of_not_lt (of_decide_eq_false h119))] at hA; simp only [List.any_cons, List.any_nil, h8, h24, h28, h29, h30, h84, h85, Bool.true_or, Bool.and_true, Bool.true_and] at hA; rw [List.take_add_one, hx100]; simp only [Option.toList_some, List.countP_append, List.countP_cons, List.countP_nil, ← hA, ← hwo]; simp; omega)⟩ (by have q := of_decide_eq_true h95; show (min ins.length (3 * (IntKind.wrap .i64 (1 + (bringI fl 2))) + 1).toNat) - (v + 1) < (min ins.length (3 * (IntKind.wrap .i64 (1 + (bringI fl 2))) + 1).toNat) - v; omega)).sub (fun _ ha => ((((((((ha.start.cons ha (t := 5) rfl).cons ha (t := 6) rfl).cons ha (t := 8) rfl).cons ha (t := 9) rfl).cons ha (t := 14) rfl).cons ha (t := 15) rfl).cons ha (t := 16) rfl).cons ha (t := 17) rfl))
                    · skip
                      refine wcCondT rfl ?_
                      refine wcSkip ?_
                      refine wcOf ?_
                      refine wcSeq ?_
                      refine wcBlock ?_
                      refine wcSeq ?_
                      obtain ⟨x120, hx121⟩ : ∃ y_, x99.q[i]? = some y_ := ⟨_, List.getElem?_eq_getElem (of_decide_eq_true h119)⟩
                      obtain ⟨b122, o123, row124, hA127, hr125, hi126⟩ := hs112.elem hx121; subst hA127
                      obtain rfl := hi126
                      cases h128 : x120.seq == x86.seq
                      · skip
                        refine wcDraw fmix (by kernel_rfl) (by kernel_rfl) (vAt [(fun _ v_ => v_ = (.slice (some ⟨b101, o102, none⟩) (((min ins.length (3 * (IntKind.wrap .i64 (1 + (bringI fl 2))) + 1).toNat))) insC)), (fun _ v_ => v_ = (.int .i64 (((v : Nat) : Int)))), (fun _ v_ => v_ = (.pointer (some ⟨b101, o102 + v * 6, none⟩))), (fun _ v_ => v_ = (.pointer (some ⟨b101, o102 + v * 6 + 5, none⟩))), (fun _ v_ => v_ = (.slice (some ⟨b122, o123, none⟩) x99.q.length cap118)), (fun _ v_ => v_ = (.int .i64 (((i : Nat) : Int)))), (fun _ v_ => v_ = (.pointer (some ⟨b122, o123 + i * 34, none⟩))), (fun _ v_ => v_ = (.pointer (some ⟨b122, o123 + i * 34, none⟩))), (fun _ v_ => v_ = (.int .i64 x120.seq)), (fun _ v_ => v_ = (.pointer (some ⟨b94, 0, none⟩))), (fun _ v_ => v_ = (.int .i64 x86.seq)), (fun _ v_ => v_ = (.bool false)), (fun _ v_ => v_ = (.bool false)), (fun _ v_ => v_ = undef), (fun _ v_ => v_ = undef), (fun _ v_ => v_ = undef), (fun _ v_ => v_ = undef), (fun _ v_ => v_ = undef), (fun _ v_ => v_ = undef), (fun _ v_ => v_ = undef), (fun _ v_ => v_ = undef), (fun _ v_ => v_ = undef), (fun _ v_ => v_ = undef), (fun _ v_ => v_ = undef), (fun _ v_ => v_ = undef), (fun _ v_ => v_ = (.bool false))]) (fun _ _ G' w => Cx w0 G0 G' w ∧ Bxs G' w w0.heap.size [(b94, 30, x86.cells), (b23, 30, (((selI (has (((crewI (IntKind.wrap .i64 (1 + ((bringI fl 2)))))))) (((crewI (IntKind.wrap .i64 (1 + ((bringI fl 2))))))) ((ins.take (((min ins.length (3 * (IntKind.wrap .i64 (1 + (bringI fl 2))) + 1).toNat)))))).1)).cells)] ∧ GLe G G') G (vAt_mono ⟨fun _ _ _ _ h => h, fun _ _ _ _ h => h, fun _ _ _ _ h => h, fun _ _ _ _ h => h, fun _ _ _ _ h => h, fun _ _ _ _ h => h, fun _ _ _ _ h => h, fun _ _ _ _ h => h, fun _ _ _ _ h => h, fun _ _ _ _ h => h, fun _ _ _ _ h => h, fun _ _ _ _ h => h, fun _ _ _ _ h => h, fun _ _ _ _ h => h, fun _ _ _ _ h => h, fun _ _ _ _ h => h, fun _ _ _ _ h => h, fun _ _ _ _ h => h, fun _ _ _ _ h => h, fun _ _ _ _ h => h, fun _ _ _ _ h => h, fun _ _ _ _ h => h, fun _ _ _ _ h => h, fun _ _ _ _ h => h, fun _ _ _ _ h => h, fun _ _ _ _ h => h, trivial⟩) (fun _ _ => ⟨hC.drew, hB.drew, fun _ _ h => h⟩) ?_ ?_
                        · refine dsNone (j := 1) rfl ?_ ?_
                          · intro done G w ac_ hd hp hn ⟨hC, hB, hg⟩ hM
                            have f6 : ac_.tmps[6]? = some (.slice (some ⟨b101, o102, none⟩) (((min ins.length (3 * (IntKind.wrap .i64 (1 + (bringI fl 2))) + 1).toNat))) insC) := hM.old0 rfl rfl
                            have hF : Fr 197 ac_ (Env.nil.put 6 (.slice (some ⟨b101, o102, none⟩) (((min ins.length (3 * (IntKind.wrap .i64 (1 + (bringI fl 2))) + 1).toNat))) insC)) := (hM.fr.add f6)
                            exact OpVal.draw hF (opMove rfl) ⟨G, fun _ _ h => h, ⟨hC, hB, hg⟩, rfl⟩
                          refine dsNone (j := 2) rfl ?_ ?_
                          · intro done G w ac_ hd hp hn ⟨hC, hB, hg⟩ hM
                            have f17 : ac_.tmps[17]? = some (.int .i64 (((v : Nat) : Int))) := hM.old0 rfl rfl
                            have hF : Fr 197 ac_ (Env.nil.put 17 (.int .i64 (((v : Nat) : Int)))) := (hM.fr.add f17)
                            exact OpVal.draw hF (opMove rfl) ⟨G, fun _ _ h => h, ⟨hC, hB, hg⟩, rfl⟩
                          refine dsNone (j := 3) rfl ?_ ?_
                          · intro done G w ac_ hd hp hn ⟨hC, hB, hg⟩ hM
                            have f148 : ac_.tmps[148]? = some (.slice (some ⟨b101, o102, none⟩) (((min ins.length (3 * (IntKind.wrap .i64 (1 + (bringI fl 2))) + 1).toNat))) insC) := hM.eqv 0 rfl (hp 0 rfl) rfl rfl
                            have f149 : ac_.tmps[149]? = some (.int .i64 (((v : Nat) : Int))) := hM.eqv 1 rfl (hp 1 rfl) rfl rfl
                            have hF : Fr 197 ac_ ((Env.nil.put 148 (.slice (some ⟨b101, o102, none⟩) (((min ins.length (3 * (IntKind.wrap .i64 (1 + (bringI fl 2))) + 1).toNat))) insC)).put 149 (.int .i64 (((v : Nat) : Int)))) := ((hM.fr.add f148).add f149)
                            exact OpVal.draw hF (opIndexAddr rfl rfl slo25 (by have q := of_decide_eq_true h95; simpa using q)) ⟨G, fun _ _ h => h, ⟨hC, hB, hg⟩, rfl⟩
                          refine dsNone (j := 4) rfl ?_ ?_
                          · intro done G w ac_ hd hp hn ⟨hC, hB, hg⟩ hM
                            have f150 : ac_.tmps[150]? = some (.pointer (some ⟨b101, o102 + v * 6, none⟩)) := hM.eqv 2 rfl (hp 2 rfl) rfl rfl
                            have hF : Fr 197 ac_ (Env.nil.put 150 (.pointer (some ⟨b101, o102 + v * 6, none⟩))) := (hM.fr.add f150)
                            exact OpVal.draw hF (opFieldAddr rfl fo49_5) ⟨G, fun _ _ h => h, ⟨hC, hB, hg⟩, rfl⟩
                          refine dsNone (j := 5) rfl ?_ ?_
                          · intro done G w ac_ hd hp hn ⟨hC, hB, hg⟩ hM
                            replace hr104 := hr104.mono hg
                            have f151 : ac_.tmps[151]? = some (.pointer (some ⟨b101, o102 + v * 6 + 5, none⟩)) := hM.eqv 3 rfl (hp 3 rfl) rfl rfl
                            have hF : Fr 197 ac_ (Env.nil.put 151 (.pointer (some ⟨b101, o102 + v * 6 + 5, none⟩))) := (hM.fr.add f151)
                            exact OpVal.draw hF (opLoadOne (v := (.slice (some ⟨b122, o123, none⟩) x99.q.length cap118)) rfl (RowG.cell hC.holds hr104 (j := 5) rfl) one47) ⟨G, fun _ _ h => h, ⟨hC, hB, hg⟩, rfl⟩
                          refine dsNone (j := 6) rfl ?_ ?_
                          · intro done G w ac_ hd hp hn ⟨hC, hB, hg⟩ hM
                            have f18 : ac_.tmps[18]? = some (.int .i64 (((i : Nat) : Int))) := hM.old0 rfl rfl
                            have hF : Fr 197 ac_ (Env.nil.put 18 (.int .i64 (((i : Nat) : Int)))) := (hM.fr.add f18)
                            exact OpVal.draw hF (opMove rfl) ⟨G, fun _ _ h => h, ⟨hC, hB, hg⟩, rfl⟩
                          refine dsNone (j := 7) rfl ?_ ?_
                          · intro done G w ac_ hd hp hn ⟨hC, hB, hg⟩ hM
                            have f152 : ac_.tmps[152]? = some (.slice (some ⟨b122, o123, none⟩) x99.q.length cap118) := hM.eqv 4 rfl (hp 4 rfl) rfl rfl
                            have f153 : ac_.tmps[153]? = some (.int .i64 (((i : Nat) : Int))) := hM.eqv 5 rfl (hp 5 rfl) rfl rfl
                            have hF : Fr 197 ac_ ((Env.nil.put 152 (.slice (some ⟨b122, o123, none⟩) x99.q.length cap118)).put 153 (.int .i64 (((i : Nat) : Int)))) := ((hM.fr.add f152).add f153)
                            exact OpVal.draw hF (opIndexAddr rfl rfl slo47 (of_decide_eq_true h119)) ⟨G, fun _ _ h => h, ⟨hC, hB, hg⟩, rfl⟩
                          refine dsNone (j := 8) rfl ?_ ?_
                          · intro done G w ac_ hd hp hn ⟨hC, hB, hg⟩ hM
                            have f154 : ac_.tmps[154]? = some (.pointer (some ⟨b122, o123 + i * 34, none⟩)) := hM.eqv 6 rfl (hp 6 rfl) rfl rfl
                            have hF : Fr 197 ac_ (Env.nil.put 154 (.pointer (some ⟨b122, o123 + i * 34, none⟩))) := (hM.fr.add f154)
                            exact OpVal.draw hF (opFieldAddr rfl fo58_0) ⟨G, fun _ _ h => h, ⟨hC, hB, hg⟩, rfl⟩
                          refine dsNone (j := 9) rfl ?_ ?_
                          · intro done G w ac_ hd hp hn ⟨hC, hB, hg⟩ hM
                            replace hr125 := hr125.mono hg
                            have f155 : ac_.tmps[155]? = some (.pointer (some ⟨b122, o123 + i * 34, none⟩)) := hM.eqv 7 rfl (hp 7 rfl) rfl rfl
                            have hF : Fr 197 ac_ (Env.nil.put 155 (.pointer (some ⟨b122, o123 + i * 34, none⟩))) := (hM.fr.add f155)
                            exact OpVal.draw hF (opLoadOne (v := (.int .i64 x120.seq)) rfl (RowG.cell0 hC.holds hr125 (by simp [Mark.cells, Stand.cells])) one3) ⟨G, fun _ _ h => h, ⟨hC, hB, hg⟩, rfl⟩
                          refine dsNone (j := 10) rfl ?_ ?_
                          · intro done G w ac_ hd hp hn ⟨hC, hB, hg⟩ hM
                            have f15 : ac_.tmps[15]? = some (.pointer (some ⟨b94, 0, none⟩)) := hM.old0 rfl rfl
                            have hF : Fr 197 ac_ (Env.nil.put 15 (.pointer (some ⟨b94, 0, none⟩))) := (hM.fr.add f15)
                            exact OpVal.draw hF (opFieldAddr rfl fo30_0) ⟨G, fun _ _ h => h, ⟨hC, hB, hg⟩, rfl⟩
                          refine dsNone (j := 11) rfl ?_ ?_
                          · intro done G w ac_ hd hp hn ⟨hC, hB, hg⟩ hM
                            have f157 : ac_.tmps[157]? = some (.pointer (some ⟨b94, 0, none⟩)) := hM.eqv 9 rfl (hp 9 rfl) rfl rfl
                            have hF : Fr 197 ac_ (Env.nil.put 157 (.pointer (some ⟨b94, 0, none⟩))) := (hM.fr.add f157)
                            exact OpVal.draw hF (opLoadOne (v := (.int .i64 x86.seq)) rfl (hB.cell (i := 0) rfl (by simp [Mark.cells, Stand.cells])) one3) ⟨G, fun _ _ h => h, ⟨hC, hB, hg⟩, rfl⟩
                          refine dsNone (j := 12) rfl ?_ ?_
                          · intro done G w ac_ hd hp hn ⟨hC, hB, hg⟩ hM
                            have f156 : ac_.tmps[156]? = some (.int .i64 x120.seq) := hM.eqv 8 rfl (hp 8 rfl) rfl rfl
                            have f158 : ac_.tmps[158]? = some (.int .i64 x86.seq) := hM.eqv 10 rfl (hp 10 rfl) rfl rfl
                            have hF : Fr 197 ac_ ((Env.nil.put 156 (.int .i64 x120.seq)).put 158 (.int .i64 x86.seq)) := ((hM.fr.add f156).add f158)
                            exact OpVal.draw hF (OpVal.cast (opEql rfl rfl) (congrArg Value.bool h128)) ⟨G, fun _ _ h => h, ⟨hC, hB, hg⟩, rfl⟩
                          refine dsNone (j := 13) rfl ?_ ?_
                          · intro done G w ac_ hd hp hn ⟨hC, hB, hg⟩ hM
                            have f159 : ac_.tmps[159]? = some (.bool false) := hM.eqv 11 rfl (hp 11 rfl) rfl rfl
                            have hF : Fr 197 ac_ (Env.nil.put 159 (.bool false)) := (hM.fr.add f159)
                            exact OpVal.draw hF (opMove rfl) ⟨G, fun _ _ h => h, ⟨hC, hB, hg⟩, rfl⟩
                          refine dsOff (j := 14) (b' := false) rfl rfl rfl ?_ ?_
                          · intro done G w ac_ hd hp hn ⟨hC, hB, hg⟩ hM
                            have f160 : ac_.tmps[160]? = some (.bool false) := hM.eqv 12 rfl (hp 12 rfl) rfl rfl
                            exact ⟨f160, ⟨hC, hB, hg⟩, rfl⟩
                          refine dsOff (j := 15) (b' := false) rfl rfl rfl ?_ ?_
                          · intro done G w ac_ hd hp hn ⟨hC, hB, hg⟩ hM
                            have f160 : ac_.tmps[160]? = some (.bool false) := hM.eqv 12 rfl (hp 12 rfl) rfl rfl
                            exact ⟨f160, ⟨hC, hB, hg⟩, rfl⟩
                          refine dsOff (j := 16) (b' := false) rfl rfl rfl ?_ ?_
                          · intro done G w ac_ hd hp hn ⟨hC, hB, hg⟩ hM
                            have f160 : ac_.tmps[160]? = some (.bool false) := hM.eqv 12 rfl (hp 12 rfl) rfl rfl
                            exact ⟨f160, ⟨hC, hB, hg⟩, rfl⟩
                          refine dsOff (j := 17) (b' := false) rfl rfl rfl ?_ ?_
                          · intro done G w ac_ hd hp hn ⟨hC, hB, hg⟩ hM
                            have f160 : ac_.tmps[160]? = some (.bool false) := hM.eqv 12 rfl (hp 12 rfl) rfl rfl
                            exact ⟨f160, ⟨hC, hB, hg⟩, rfl⟩
                          refine dsOff (j := 18) (b' := false) rfl rfl rfl ?_ ?_
                          · intro done G w ac_ hd hp hn ⟨hC, hB, hg⟩ hM
                            have f160 : ac_.tmps[160]? = some (.bool false) := hM.eqv 12 rfl (hp 12 rfl) rfl rfl
                            exact ⟨f160, ⟨hC, hB, hg⟩, rfl⟩
                          refine dsOff (j := 19) (b' := false) rfl rfl rfl ?_ ?_
                          · intro done G w ac_ hd hp hn ⟨hC, hB, hg⟩ hM
                            have f160 : ac_.tmps[160]? = some (.bool false) := hM.eqv 12 rfl (hp 12 rfl) rfl rfl
                            exact ⟨f160, ⟨hC, hB, hg⟩, rfl⟩
                          refine dsOff (j := 20) (b' := false) rfl rfl rfl ?_ ?_
                          · intro done G w ac_ hd hp hn ⟨hC, hB, hg⟩ hM
                            have f160 : ac_.tmps[160]? = some (.bool false) := hM.eqv 12 rfl (hp 12 rfl) rfl rfl
                            exact ⟨f160, ⟨hC, hB, hg⟩, rfl⟩
                          refine dsOff (j := 21) (b' := false) rfl rfl rfl ?_ ?_
                          · intro done G w ac_ hd hp hn ⟨hC, hB, hg⟩ hM
                            have f160 : ac_.tmps[160]? = some (.bool false) := hM.eqv 12 rfl (hp 12 rfl) rfl rfl
                            exact ⟨f160, ⟨hC, hB, hg⟩, rfl⟩
                          refine dsOff (j := 22) (b' := false) rfl rfl rfl ?_ ?_
                          · intro done G w ac_ hd hp hn ⟨hC, hB, hg⟩ hM
                            have f160 : ac_.tmps[160]? = some (.bool false) := hM.eqv 12 rfl (hp 12 rfl) rfl rfl
                            exact ⟨f160, ⟨hC, hB, hg⟩, rfl⟩
                          refine dsOff (j := 23) (b' := false) rfl rfl rfl ?_ ?_
                          · intro done G w ac_ hd hp hn ⟨hC, hB, hg⟩ hM
                            have f160 : ac_.tmps[160]? = some (.bool false) := hM.eqv 12 rfl (hp 12 rfl) rfl rfl
                            exact ⟨f160, ⟨hC, hB, hg⟩, rfl⟩
                          refine dsOff (j := 24) (b' := false) rfl rfl rfl ?_ ?_
                          · intro done G w ac_ hd hp hn ⟨hC, hB, hg⟩ hM
                            have f160 : ac_.tmps[160]? = some (.bool false) := hM.eqv 12 rfl (hp 12 rfl) rfl rfl
                            exact ⟨f160, ⟨hC, hB, hg⟩, rfl⟩
                          refine dsOff (j := 25) (b' := false) rfl rfl rfl ?_ ?_
                          · intro done G w ac_ hd hp hn ⟨hC, hB, hg⟩ hM
                            have f160 : ac_.tmps[160]? = some (.bool false) := hM.eqv 12 rfl (hp 12 rfl) rfl rfl
                            exact ⟨f160, ⟨hC, hB, hg⟩, rfl⟩
                          refine dsNone (j := 26) rfl ?_ ?_
                          · intro done G w ac_ hd hp hn ⟨hC, hB, hg⟩ hM
                            have f160 : ac_.tmps[160]? = some (.bool false) := hM.eqv 12 rfl (hp 12 rfl) rfl rfl
                            have f172 : ac_.tmps[172]? = some undef := hM.eqv 24 rfl (hp 24 rfl) rfl rfl
                            have hF : Fr 197 ac_ ((Env.nil.put 160 (.bool false)).put 172 undef) := ((hM.fr.add f160).add f172)
                            exact OpVal.draw hF (opPickF rfl rfl) ⟨G, fun _ _ h => h, ⟨hC, hB, hg⟩, rfl⟩
                          exact dsNil
                        · intro done G w ac_ hall ⟨hC, hB, hg⟩ hM
                          replace hl := hl.mono hg
                          replace hs13 := hs13.mono hg
                          replace hs16 := hs16.mono hg
                          replace hs25 := hs25.mono hg
                          replace hr81 := hr81.mono hg
                          replace hr91 := hr91.mono hg
                          replace hs108 := hs108.mono hg
                          replace hs110 := hs110.mono hg
                          replace hs112 := hs112.mono hg
                          replace hr104 := hr104.mono hg
                          replace hr125 := hr125.mono hg
                          have f5 : ac_.tmps[5]? = some (.int .i64 (IntKind.wrap .i64 (1 + ((bringI fl 2))))) := hM.old0 rfl rfl
                          have f6 : ac_.tmps[6]? = some (.slice (some ⟨b101, o102, none⟩) (((min ins.length (3 * (IntKind.wrap .i64 (1 + (bringI fl 2))) + 1).toNat))) insC) := hM.old0 rfl rfl
                          have f8 : ac_.tmps[8]? = some (.pointer (some ⟨b23, 0, none⟩)) := hM.old0 rfl rfl
                          have f9 : ac_.tmps[9]? = some (.slice (some ⟨b78, o79, none⟩) ((((selI (has (((crewI (IntKind.wrap .i64 (1 + ((bringI fl 2)))))))) (((crewI (IntKind.wrap .i64 (1 + ((bringI fl 2))))))) ((ins.take (((min ins.length (3 * (IntKind.wrap .i64 (1 + (bringI fl 2))) + 1).toNat)))))).2.1)).length) cap19) := hM.old0 rfl rfl
                          have f14 : ac_.tmps[14]? = some (.int .i64 (((g : Nat) : Int))) := hM.old0 rfl rfl
                          have f15 : ac_.tmps[15]? = some (.pointer (some ⟨b94, 0, none⟩)) := hM.old0 rfl rfl
                          have f16 : ac_.tmps[16]? = some (.int .i64 (((u : Nat) : Int))) := hM.old0 rfl rfl
                          have f17 : ac_.tmps[17]? = some (.int .i64 (((v : Nat) : Int))) := hM.old0 rfl rfl
                          have f18 : ac_.tmps[18]? = some (.int .i64 (((i : Nat) : Int))) := hM.old0 rfl rfl
                          have f173 : ac_.tmps[173]? = some (.bool false) := hM.eqv 25 rfl (hall 25 (by decide)) rfl rfl
                          refine ⟨((((((((((Env.nil.put 5 (.int .i64 (IntKind.wrap .i64 (1 + ((bringI fl 2)))))).put 6 (.slice (some ⟨b101, o102, none⟩) (((min ins.length (3 * (IntKind.wrap .i64 (1 + (bringI fl 2))) + 1).toNat))) insC)).put 8 (.pointer (some ⟨b23, 0, none⟩))).put 9 (.slice (some ⟨b78, o79, none⟩) ((((selI (has (((crewI (IntKind.wrap .i64 (1 + ((bringI fl 2)))))))) (((crewI (IntKind.wrap .i64 (1 + ((bringI fl 2))))))) ((ins.take (((min ins.length (3 * (IntKind.wrap .i64 (1 + (bringI fl 2))) + 1).toNat)))))).2.1)).length) cap19)).put 14 (.int .i64 (((g : Nat) : Int)))).put 15 (.pointer (some ⟨b94, 0, none⟩))).put 16 (.int .i64 (((u : Nat) : Int)))).put 17 (.int .i64 (((v : Nat) : Int)))).put 18 (.int .i64 (((i : Nat) : Int)))).put 173 (.bool false)), ((((((((((hM.fr.add f5).add f6).add f8).add f9).add f14).add f15).add f16).add f17).add f18).add f173), ?_⟩
                          clear hM hall
                          refine wcOf ?_
                          refine wcCondF rfl ?_
                          refine wcSkip ?_
                          refine wcOf ?_
                          refine wcRegion ?_
                          refine wlVal (opMove rfl) rfl ?_
                          refine wlVal (opIncr rfl rfl (incr_ok (of_decide_eq_true h119) hs112.le)) rfl ?_
                          refine wlVal (opAssign rfl) rfl ?_
                          refine wlRound ?_
                          exact (IH5 (i + 1, u) _ _ ⟨hC, hB, hl, hs13, hs16, hs25, hr81, hr91, hs108, hs110, hs112, hr104, hu, (by rw [← hJ, drop_get hx121]; simp only [List.any_cons, h8, h24, h27, h28, h29, h30, h84, h85, h95, h128, Bool.false_or, Bool.and_false, Bool.and_true, Bool.false_and])⟩ (by have q := of_decide_eq_true h119; show x99.q.length - (i + 1) < x99.q.length - i; omega)).sub (fun _ ha => (((((((((ha.start.cons ha (t := 5) rfl).cons ha (t := 6) rfl).cons ha (t := 8) rfl).cons ha (t := 9) rfl).cons ha (t := 14) rfl).cons ha (t := 15) rfl).cons ha (t := 16) rfl).cons ha (t := 17) rfl).cons ha (t := 18) rfl))
                      · skip
                        refine wcDraw fmix (by kernel_rfl) (by kernel_rfl) (vAt [(fun _ v_ => v_ = (.slice (some ⟨b101, o102, none⟩) (((min ins.length (3 * (IntKind.wrap .i64 (1 + (bringI fl 2))) + 1).toNat))) insC)), (fun _ v_ => v_ = (.int .i64 (((v : Nat) : Int)))), (fun _ v_ => v_ = (.pointer (some ⟨b101, o102 + v * 6, none⟩))), (fun _ v_ => v_ = (.pointer (some ⟨b101, o102 + v * 6 + 5, none⟩))), (fun _ v_ => v_ = (.slice (some ⟨b122, o123, none⟩) x99.q.length cap118)), (fun _ v_ => v_ = (.int .i64 (((i : Nat) : Int)))), (fun _ v_ => v_ = (.pointer (some ⟨b122, o123 + i * 34, none⟩))), (fun _ v_ => v_ = (.pointer (some ⟨b122, o123 + i * 34, none⟩))), (fun _ v_ => v_ = (.int .i64 x120.seq)), (fun _ v_ => v_ = (.pointer (some ⟨b94, 0, none⟩))), (fun _ v_ => v_ = (.int .i64 x86.seq)), (fun _ v_ => v_ = (.bool true)), (fun _ v_ => v_ = (.bool true)), (fun _ v_ => v_ = (.slice (some ⟨b101, o102, none⟩) (((min ins.length (3 * (IntKind.wrap .i64 (1 + (bringI fl 2))) + 1).toNat))) insC)), (fun _ v_ => v_ = (.int .i64 (((v : Nat) : Int)))), (fun _ v_ => v_ = (.pointer (some ⟨b101, o102 + v * 6, none⟩))), (fun _ v_ => v_ = (.pointer (some ⟨b101, o102 + v * 6 + 5, none⟩))), (fun _ v_ => v_ = (.slice (some ⟨b122, o123, none⟩) x99.q.length cap118)), (fun _ v_ => v_ = (.int .i64 (((i : Nat) : Int)))), (fun _ v_ => v_ = (.pointer (some ⟨b122, o123 + i * 34, none⟩))), (fun _ v_ => v_ = (.pointer (some ⟨b122, o123 + i * 34 + 1, none⟩))), (fun _ v_ => v_ = (.agg x120.dig.cells.toArray)), (fun _ v_ => v_ = (.pointer (some ⟨b94, 1, none⟩))), (fun _ v_ => v_ = (.agg x86.dig.cells.toArray)), (fun _ v_ => v_ = (.bool (decide (x120.dig = x86.dig)))), (fun _ v_ => v_ = (.bool (decide (x120.dig = x86.dig))))]) (fun _ _ G' w => Cx w0 G0 G' w ∧ Bxs G' w w0.heap.size [(b94, 30, x86.cells), (b23, 30, (((selI (has (((crewI (IntKind.wrap .i64 (1 + ((bringI fl 2)))))))) (((crewI (IntKind.wrap .i64 (1 + ((bringI fl 2))))))) ((ins.take (((min ins.length (3 * (IntKind.wrap .i64 (1 + (bringI fl 2))) + 1).toNat)))))).1)).cells)] ∧ GLe G G') G (vAt_mono ⟨fun _ _ _ _ h => h, fun _ _ _ _ h => h, fun _ _ _ _ h => h, fun _ _ _ _ h => h, fun _ _ _ _ h => h, fun _ _ _ _ h => h, fun _ _ _ _ h => h, fun _ _ _ _ h => h, fun _ _ _ _ h => h, fun _ _ _ _ h => h, fun _ _ _ _ h => h, fun _ _ _ _ h => h, fun _ _ _ _ h => h, fun _ _ _ _ h => h, fun _ _ _ _ h => h, fun _ _ _ _ h => h, fun _ _ _ _ h => h, fun _ _ _ _ h => h, fun _ _ _ _ h => h, fun _ _ _ _ h => h, fun _ _ _ _ h => h, fun _ _ _ _ h => h, fun _ _ _ _ h => h, fun _ _ _ _ h => h, fun _ _ _ _ h => h, fun _ _ _ _ h => h, trivial⟩) (fun _ _ => ⟨hC.drew, hB.drew, fun _ _ h => h⟩) ?_ ?_
                        · refine dsNone (j := 1) rfl ?_ ?_
                          · intro done G w ac_ hd hp hn ⟨hC, hB, hg⟩ hM
                            have f6 : ac_.tmps[6]? = some (.slice (some ⟨b101, o102, none⟩) (((min ins.length (3 * (IntKind.wrap .i64 (1 + (bringI fl 2))) + 1).toNat))) insC) := hM.old0 rfl rfl
                            have hF : Fr 197 ac_ (Env.nil.put 6 (.slice (some ⟨b101, o102, none⟩) (((min ins.length (3 * (IntKind.wrap .i64 (1 + (bringI fl 2))) + 1).toNat))) insC)) := (hM.fr.add f6)
                            exact OpVal.draw hF (opMove rfl) ⟨G, fun _ _ h => h, ⟨hC, hB, hg⟩, rfl⟩
                          refine dsNone (j := 2) rfl ?_ ?_
                          · intro done G w ac_ hd hp hn ⟨hC, hB, hg⟩ hM
                            have f17 : ac_.tmps[17]? = some (.int .i64 (((v : Nat) : Int))) := hM.old0 rfl rfl
                            have hF : Fr 197 ac_ (Env.nil.put 17 (.int .i64 (((v : Nat) : Int)))) := (hM.fr.add f17)
                            exact OpVal.draw hF (opMove rfl) ⟨G, fun _ _ h => h, ⟨hC, hB, hg⟩, rfl⟩
                          refine dsNone (j := 3) rfl ?_ ?_
                          · intro done G w ac_ hd hp hn ⟨hC, hB, hg⟩ hM
                            have f148 : ac_.tmps[148]? = some (.slice (some ⟨b101, o102, none⟩) (((min ins.length (3 * (IntKind.wrap .i64 (1 + (bringI fl 2))) + 1).toNat))) insC) := hM.eqv 0 rfl (hp 0 rfl) rfl rfl
                            have f149 : ac_.tmps[149]? = some (.int .i64 (((v : Nat) : Int))) := hM.eqv 1 rfl (hp 1 rfl) rfl rfl
                            have hF : Fr 197 ac_ ((Env.nil.put 148 (.slice (some ⟨b101, o102, none⟩) (((min ins.length (3 * (IntKind.wrap .i64 (1 + (bringI fl 2))) + 1).toNat))) insC)).put 149 (.int .i64 (((v : Nat) : Int)))) := ((hM.fr.add f148).add f149)
                            exact OpVal.draw hF (opIndexAddr rfl rfl slo25 (by have q := of_decide_eq_true h95; simpa using q)) ⟨G, fun _ _ h => h, ⟨hC, hB, hg⟩, rfl⟩
                          refine dsNone (j := 4) rfl ?_ ?_
                          · intro done G w ac_ hd hp hn ⟨hC, hB, hg⟩ hM
                            have f150 : ac_.tmps[150]? = some (.pointer (some ⟨b101, o102 + v * 6, none⟩)) := hM.eqv 2 rfl (hp 2 rfl) rfl rfl
                            have hF : Fr 197 ac_ (Env.nil.put 150 (.pointer (some ⟨b101, o102 + v * 6, none⟩))) := (hM.fr.add f150)
                            exact OpVal.draw hF (opFieldAddr rfl fo49_5) ⟨G, fun _ _ h => h, ⟨hC, hB, hg⟩, rfl⟩
                          refine dsNone (j := 5) rfl ?_ ?_
                          · intro done G w ac_ hd hp hn ⟨hC, hB, hg⟩ hM
                            replace hr104 := hr104.mono hg
                            have f151 : ac_.tmps[151]? = some (.pointer (some ⟨b101, o102 + v * 6 + 5, none⟩)) := hM.eqv 3 rfl (hp 3 rfl) rfl rfl
                            have hF : Fr 197 ac_ (Env.nil.put 151 (.pointer (some ⟨b101, o102 + v * 6 + 5, none⟩))) := (hM.fr.add f151)
                            exact OpVal.draw hF (opLoadOne (v := (.slice (some ⟨b122, o123, none⟩) x99.q.length cap118)) rfl (RowG.cell hC.holds hr104 (j := 5) rfl) one47) ⟨G, fun _ _ h => h, ⟨hC, hB, hg⟩, rfl⟩
                          refine dsNone (j := 6) rfl ?_ ?_
                          · intro done G w ac_ hd hp hn ⟨hC, hB, hg⟩ hM
                            have f18 : ac_.tmps[18]? = some (.int .i64 (((i : Nat) : Int))) := hM.old0 rfl rfl
                            have hF : Fr 197 ac_ (Env.nil.put 18 (.int .i64 (((i : Nat) : Int)))) := (hM.fr.add f18)
                            exact OpVal.draw hF (opMove rfl) ⟨G, fun _ _ h => h, ⟨hC, hB, hg⟩, rfl⟩
                          refine dsNone (j := 7) rfl ?_ ?_
                          · intro done G w ac_ hd hp hn ⟨hC, hB, hg⟩ hM
                            have f152 : ac_.tmps[152]? = some (.slice (some ⟨b122, o123, none⟩) x99.q.length cap118) := hM.eqv 4 rfl (hp 4 rfl) rfl rfl
                            have f153 : ac_.tmps[153]? = some (.int .i64 (((i : Nat) : Int))) := hM.eqv 5 rfl (hp 5 rfl) rfl rfl
                            have hF : Fr 197 ac_ ((Env.nil.put 152 (.slice (some ⟨b122, o123, none⟩) x99.q.length cap118)).put 153 (.int .i64 (((i : Nat) : Int)))) := ((hM.fr.add f152).add f153)
                            exact OpVal.draw hF (opIndexAddr rfl rfl slo47 (of_decide_eq_true h119)) ⟨G, fun _ _ h => h, ⟨hC, hB, hg⟩, rfl⟩
                          refine dsNone (j := 8) rfl ?_ ?_
                          · intro done G w ac_ hd hp hn ⟨hC, hB, hg⟩ hM
                            have f154 : ac_.tmps[154]? = some (.pointer (some ⟨b122, o123 + i * 34, none⟩)) := hM.eqv 6 rfl (hp 6 rfl) rfl rfl
                            have hF : Fr 197 ac_ (Env.nil.put 154 (.pointer (some ⟨b122, o123 + i * 34, none⟩))) := (hM.fr.add f154)
                            exact OpVal.draw hF (opFieldAddr rfl fo58_0) ⟨G, fun _ _ h => h, ⟨hC, hB, hg⟩, rfl⟩
                          refine dsNone (j := 9) rfl ?_ ?_
                          · intro done G w ac_ hd hp hn ⟨hC, hB, hg⟩ hM
                            replace hr125 := hr125.mono hg
                            have f155 : ac_.tmps[155]? = some (.pointer (some ⟨b122, o123 + i * 34, none⟩)) := hM.eqv 7 rfl (hp 7 rfl) rfl rfl
                            have hF : Fr 197 ac_ (Env.nil.put 155 (.pointer (some ⟨b122, o123 + i * 34, none⟩))) := (hM.fr.add f155)
                            exact OpVal.draw hF (opLoadOne (v := (.int .i64 x120.seq)) rfl (RowG.cell0 hC.holds hr125 (by simp [Mark.cells, Stand.cells])) one3) ⟨G, fun _ _ h => h, ⟨hC, hB, hg⟩, rfl⟩
                          refine dsNone (j := 10) rfl ?_ ?_
                          · intro done G w ac_ hd hp hn ⟨hC, hB, hg⟩ hM
                            have f15 : ac_.tmps[15]? = some (.pointer (some ⟨b94, 0, none⟩)) := hM.old0 rfl rfl
                            have hF : Fr 197 ac_ (Env.nil.put 15 (.pointer (some ⟨b94, 0, none⟩))) := (hM.fr.add f15)
                            exact OpVal.draw hF (opFieldAddr rfl fo30_0) ⟨G, fun _ _ h => h, ⟨hC, hB, hg⟩, rfl⟩
                          refine dsNone (j := 11) rfl ?_ ?_
                          · intro done G w ac_ hd hp hn ⟨hC, hB, hg⟩ hM
                            have f157 : ac_.tmps[157]? = some (.pointer (some ⟨b94, 0, none⟩)) := hM.eqv 9 rfl (hp 9 rfl) rfl rfl
                            have hF : Fr 197 ac_ (Env.nil.put 157 (.pointer (some ⟨b94, 0, none⟩))) := (hM.fr.add f157)
                            exact OpVal.draw hF (opLoadOne (v := (.int .i64 x86.seq)) rfl (hB.cell (i := 0) rfl (by simp [Mark.cells, Stand.cells])) one3) ⟨G, fun _ _ h => h, ⟨hC, hB, hg⟩, rfl⟩
                          refine dsNone (j := 12) rfl ?_ ?_
                          · intro done G w ac_ hd hp hn ⟨hC, hB, hg⟩ hM
                            have f156 : ac_.tmps[156]? = some (.int .i64 x120.seq) := hM.eqv 8 rfl (hp 8 rfl) rfl rfl
                            have f158 : ac_.tmps[158]? = some (.int .i64 x86.seq) := hM.eqv 10 rfl (hp 10 rfl) rfl rfl
                            have hF : Fr 197 ac_ ((Env.nil.put 156 (.int .i64 x120.seq)).put 158 (.int .i64 x86.seq)) := ((hM.fr.add f156).add f158)
                            exact OpVal.draw hF (OpVal.cast (opEql rfl rfl) (congrArg Value.bool h128)) ⟨G, fun _ _ h => h, ⟨hC, hB, hg⟩, rfl⟩
                          refine dsNone (j := 13) rfl ?_ ?_
                          · intro done G w ac_ hd hp hn ⟨hC, hB, hg⟩ hM
                            have f159 : ac_.tmps[159]? = some (.bool true) := hM.eqv 11 rfl (hp 11 rfl) rfl rfl
                            have hF : Fr 197 ac_ (Env.nil.put 159 (.bool true)) := (hM.fr.add f159)
                            exact OpVal.draw hF (opMove rfl) ⟨G, fun _ _ h => h, ⟨hC, hB, hg⟩, rfl⟩
                          refine dsOn (j := 14) rfl rfl ?_ ?_
                          · intro done G w ac_ hd hp hn ⟨hC, hB, hg⟩ hM
                            have f6 : ac_.tmps[6]? = some (.slice (some ⟨b101, o102, none⟩) (((min ins.length (3 * (IntKind.wrap .i64 (1 + (bringI fl 2))) + 1).toNat))) insC) := hM.old0 rfl rfl
                            have f160 : ac_.tmps[160]? = some (.bool true) := hM.eqv 12 rfl (hp 12 rfl) rfl rfl
                            refine ⟨f160, ?_⟩
                            have hF : Fr 197 ac_ (Env.nil.put 6 (.slice (some ⟨b101, o102, none⟩) (((min ins.length (3 * (IntKind.wrap .i64 (1 + (bringI fl 2))) + 1).toNat))) insC)) := (hM.fr.add f6)
                            exact OpVal.draw hF (opMove rfl) ⟨G, fun _ _ h => h, ⟨hC, hB, hg⟩, rfl⟩
                          refine dsOn (j := 15) rfl rfl ?_ ?_
                          · intro done G w ac_ hd hp hn ⟨hC, hB, hg⟩ hM
                            have f17 : ac_.tmps[17]? = some (.int .i64 (((v : Nat) : Int))) := hM.old0 rfl rfl
                            have f160 : ac_.tmps[160]? = some (.bool true) := hM.eqv 12 rfl (hp 12 rfl) rfl rfl
                            refine ⟨f160, ?_⟩
                            have hF : Fr 197 ac_ (Env.nil.put 17 (.int .i64 (((v : Nat) : Int)))) := (hM.fr.add f17)
                            exact OpVal.draw hF (opMove rfl) ⟨G, fun _ _ h => h, ⟨hC, hB, hg⟩, rfl⟩
                          refine dsOn (j := 16) rfl rfl ?_ ?_
                          · intro done G w ac_ hd hp hn ⟨hC, hB, hg⟩ hM
                            have f161 : ac_.tmps[161]? = some (.slice (some ⟨b101, o102, none⟩) (((min ins.length (3 * (IntKind.wrap .i64 (1 + (bringI fl 2))) + 1).toNat))) insC) := hM.eqv 13 rfl (hp 13 rfl) rfl rfl
                            have f162 : ac_.tmps[162]? = some (.int .i64 (((v : Nat) : Int))) := hM.eqv 14 rfl (hp 14 rfl) rfl rfl
                            have f160 : ac_.tmps[160]? = some (.bool true) := hM.eqv 12 rfl (hp 12 rfl) rfl rfl
                            refine ⟨f160, ?_⟩
                            have hF : Fr 197 ac_ ((Env.nil.put 161 (.slice (some ⟨b101, o102, none⟩) (((min ins.length (3 * (IntKind.wrap .i64 (1 + (bringI fl 2))) + 1).toNat))) insC)).put 162 (.int .i64 (((v : Nat) : Int)))) := ((hM.fr.add f161).add f162)
                            exact OpVal.draw hF (opIndexAddr rfl rfl slo25 (by have q := of_decide_eq_true h95; simpa using q)) ⟨G, fun _ _ h => h, ⟨hC, hB, hg⟩, rfl⟩
                          refine dsOn (j := 17) rfl rfl ?_ ?_
                          · intro done G w ac_ hd hp hn ⟨hC, hB, hg⟩ hM
                            have f163 : ac_.tmps[163]? = some (.pointer (some ⟨b101, o102 + v * 6, none⟩)) := hM.eqv 15 rfl (hp 15 rfl) rfl rfl
                            have f160 : ac_.tmps[160]? = some (.bool true) := hM.eqv 12 rfl (hp 12 rfl) rfl rfl
                            refine ⟨f160, ?_⟩
                            have hF : Fr 197 ac_ (Env.nil.put 163 (.pointer (some ⟨b101, o102 + v * 6, none⟩))) := (hM.fr.add f163)
                            exact OpVal.draw hF (opFieldAddr rfl fo49_5) ⟨G, fun _ _ h => h, ⟨hC, hB, hg⟩, rfl⟩
                          refine dsOn (j := 18) rfl rfl ?_ ?_
                          · intro done G w ac_ hd hp hn ⟨hC, hB, hg⟩ hM
                            replace hr104 := hr104.mono hg
                            have f164 : ac_.tmps[164]? = some (.pointer (some ⟨b101, o102 + v * 6 + 5, none⟩)) := hM.eqv 16 rfl (hp 16 rfl) rfl rfl
                            have f160 : ac_.tmps[160]? = some (.bool true) := hM.eqv 12 rfl (hp 12 rfl) rfl rfl
                            refine ⟨f160, ?_⟩
                            have hF : Fr 197 ac_ (Env.nil.put 164 (.pointer (some ⟨b101, o102 + v * 6 + 5, none⟩))) := (hM.fr.add f164)
                            exact OpVal.draw hF (opLoadOne (v := (.slice (some ⟨b122, o123, none⟩) x99.q.length cap118)) rfl (RowG.cell hC.holds hr104 (j := 5) rfl) one47) ⟨G, fun _ _ h => h, ⟨hC, hB, hg⟩, rfl⟩
                          refine dsOn (j := 19) rfl rfl ?_ ?_
                          · intro done G w ac_ hd hp hn ⟨hC, hB, hg⟩ hM
                            have f18 : ac_.tmps[18]? = some (.int .i64 (((i : Nat) : Int))) := hM.old0 rfl rfl
                            have f160 : ac_.tmps[160]? = some (.bool true) := hM.eqv 12 rfl (hp 12 rfl) rfl rfl
                            refine ⟨f160, ?_⟩
                            have hF : Fr 197 ac_ (Env.nil.put 18 (.int .i64 (((i : Nat) : Int)))) := (hM.fr.add f18)
                            exact OpVal.draw hF (opMove rfl) ⟨G, fun _ _ h => h, ⟨hC, hB, hg⟩, rfl⟩
                          refine dsOn (j := 20) rfl rfl ?_ ?_
                          · intro done G w ac_ hd hp hn ⟨hC, hB, hg⟩ hM
                            have f165 : ac_.tmps[165]? = some (.slice (some ⟨b122, o123, none⟩) x99.q.length cap118) := hM.eqv 17 rfl (hp 17 rfl) rfl rfl
                            have f166 : ac_.tmps[166]? = some (.int .i64 (((i : Nat) : Int))) := hM.eqv 18 rfl (hp 18 rfl) rfl rfl
                            have f160 : ac_.tmps[160]? = some (.bool true) := hM.eqv 12 rfl (hp 12 rfl) rfl rfl
                            refine ⟨f160, ?_⟩
                            have hF : Fr 197 ac_ ((Env.nil.put 165 (.slice (some ⟨b122, o123, none⟩) x99.q.length cap118)).put 166 (.int .i64 (((i : Nat) : Int)))) := ((hM.fr.add f165).add f166)
                            exact OpVal.draw hF (opIndexAddr rfl rfl slo47 (of_decide_eq_true h119)) ⟨G, fun _ _ h => h, ⟨hC, hB, hg⟩, rfl⟩
                          refine dsOn (j := 21) rfl rfl ?_ ?_
                          · intro done G w ac_ hd hp hn ⟨hC, hB, hg⟩ hM
                            have f167 : ac_.tmps[167]? = some (.pointer (some ⟨b122, o123 + i * 34, none⟩)) := hM.eqv 19 rfl (hp 19 rfl) rfl rfl
                            have f160 : ac_.tmps[160]? = some (.bool true) := hM.eqv 12 rfl (hp 12 rfl) rfl rfl
                            refine ⟨f160, ?_⟩
                            have hF : Fr 197 ac_ (Env.nil.put 167 (.pointer (some ⟨b122, o123 + i * 34, none⟩))) := (hM.fr.add f167)
                            exact OpVal.draw hF (opFieldAddr rfl fo58_1) ⟨G, fun _ _ h => h, ⟨hC, hB, hg⟩, rfl⟩
                          refine dsOn (j := 22) rfl rfl ?_ ?_
                          · intro done G w ac_ hd hp hn ⟨hC, hB, hg⟩ hM
                            replace hr125 := hr125.mono hg
                            have f168 : ac_.tmps[168]? = some (.pointer (some ⟨b122, o123 + i * 34 + 1, none⟩)) := hM.eqv 20 rfl (hp 20 rfl) rfl rfl
                            have f160 : ac_.tmps[160]? = some (.bool true) := hM.eqv 12 rfl (hp 12 rfl) rfl rfl
                            refine ⟨f160, ?_⟩
                            have hF : Fr 197 ac_ (Env.nil.put 168 (.pointer (some ⟨b122, o123 + i * 34 + 1, none⟩))) := (hM.fr.add f168)
                            exact OpVal.draw hF (opLoadRow (cs := x120.dig.cells) rfl (RowG.range hC.holds (hr125.part (i := 1) (m := 32) (by simp [Mark.cells, Stand.cells]))) row28 (by simp [Mark.cells, Stand.cells])) ⟨G, fun _ _ h => h, ⟨hC, hB, hg⟩, rfl⟩
                          refine dsOn (j := 23) rfl rfl ?_ ?_
                          · intro done G w ac_ hd hp hn ⟨hC, hB, hg⟩ hM
                            have f15 : ac_.tmps[15]? = some (.pointer (some ⟨b94, 0, none⟩)) := hM.old0 rfl rfl
                            have f160 : ac_.tmps[160]? = some (.bool true) := hM.eqv 12 rfl (hp 12 rfl) rfl rfl
                            refine ⟨f160, ?_⟩
                            have hF : Fr 197 ac_ (Env.nil.put 15 (.pointer (some ⟨b94, 0, none⟩))) := (hM.fr.add f15)
                            exact OpVal.draw hF (opFieldAddr rfl fo30_1) ⟨G, fun _ _ h => h, ⟨hC, hB, hg⟩, rfl⟩
                          refine dsOn (j := 24) rfl rfl ?_ ?_
                          · intro done G w ac_ hd hp hn ⟨hC, hB, hg⟩ hM
                            have f170 : ac_.tmps[170]? = some (.pointer (some ⟨b94, 1, none⟩)) := hM.eqv 22 rfl (hp 22 rfl) rfl rfl
                            have f160 : ac_.tmps[160]? = some (.bool true) := hM.eqv 12 rfl (hp 12 rfl) rfl rfl
                            refine ⟨f160, ?_⟩
                            have hF : Fr 197 ac_ (Env.nil.put 170 (.pointer (some ⟨b94, 1, none⟩))) := (hM.fr.add f170)
                            exact OpVal.draw hF (opLoadRow (cs := x86.dig.cells) rfl (hB.range (i := 0) (m := 32) rfl (by simp [Mark.cells, Stand.cells])) row28 (by simp [Mark.cells, Stand.cells])) ⟨G, fun _ _ h => h, ⟨hC, hB, hg⟩, rfl⟩
                          refine dsOn (j := 25) rfl rfl ?_ ?_
                          · intro done G w ac_ hd hp hn ⟨hC, hB, hg⟩ hM
                            have f169 : ac_.tmps[169]? = some (.agg x120.dig.cells.toArray) := hM.eqv 21 rfl (hp 21 rfl) rfl rfl
                            have f171 : ac_.tmps[171]? = some (.agg x86.dig.cells.toArray) := hM.eqv 23 rfl (hp 23 rfl) rfl rfl
                            have f160 : ac_.tmps[160]? = some (.bool true) := hM.eqv 12 rfl (hp 12 rfl) rfl rfl
                            refine ⟨f160, ?_⟩
                            have hF : Fr 197 ac_ ((Env.nil.put 169 (.agg x120.dig.cells.toArray)).put 171 (.agg x86.dig.cells.toArray)) := ((hM.fr.add f169).add f171)
                            exact OpVal.draw hF (opEqRow (eq28 _ x120.dig x86.dig) eg28 rfl rfl) ⟨G, fun _ _ h => h, ⟨hC, hB, hg⟩, rfl⟩
                          refine dsNone (j := 26) rfl ?_ ?_
                          · intro done G w ac_ hd hp hn ⟨hC, hB, hg⟩ hM
                            have f160 : ac_.tmps[160]? = some (.bool true) := hM.eqv 12 rfl (hp 12 rfl) rfl rfl
                            have f172 : ac_.tmps[172]? = some (.bool (decide (x120.dig = x86.dig))) := hM.eqv 24 rfl (hp 24 rfl) rfl rfl
                            have hF : Fr 197 ac_ ((Env.nil.put 160 (.bool true)).put 172 (.bool (decide (x120.dig = x86.dig)))) := ((hM.fr.add f160).add f172)
                            exact OpVal.draw hF (opPickT rfl rfl) ⟨G, fun _ _ h => h, ⟨hC, hB, hg⟩, rfl⟩
                          exact dsNil
                        · intro done G w ac_ hall ⟨hC, hB, hg⟩ hM
                          replace hl := hl.mono hg
                          replace hs13 := hs13.mono hg
                          replace hs16 := hs16.mono hg
                          replace hs25 := hs25.mono hg
                          replace hr81 := hr81.mono hg
                          replace hr91 := hr91.mono hg
                          replace hs108 := hs108.mono hg
                          replace hs110 := hs110.mono hg
                          replace hs112 := hs112.mono hg
                          replace hr104 := hr104.mono hg
                          replace hr125 := hr125.mono hg
                          have f5 : ac_.tmps[5]? = some (.int .i64 (IntKind.wrap .i64 (1 + ((bringI fl 2))))) := hM.old0 rfl rfl
                          have f6 : ac_.tmps[6]? = some (.slice (some ⟨b101, o102, none⟩) (((min ins.length (3 * (IntKind.wrap .i64 (1 + (bringI fl 2))) + 1).toNat))) insC) := hM.old0 rfl rfl
                          have f8 : ac_.tmps[8]? = some (.pointer (some ⟨b23, 0, none⟩)) := hM.old0 rfl rfl
                          have f9 : ac_.tmps[9]? = some (.slice (some ⟨b78, o79, none⟩) ((((selI (has (((crewI (IntKind.wrap .i64 (1 + ((bringI fl 2)))))))) (((crewI (IntKind.wrap .i64 (1 + ((bringI fl 2))))))) ((ins.take (((min ins.length (3 * (IntKind.wrap .i64 (1 + (bringI fl 2))) + 1).toNat)))))).2.1)).length) cap19) := hM.old0 rfl rfl
                          have f14 : ac_.tmps[14]? = some (.int .i64 (((g : Nat) : Int))) := hM.old0 rfl rfl
                          have f15 : ac_.tmps[15]? = some (.pointer (some ⟨b94, 0, none⟩)) := hM.old0 rfl rfl
                          have f16 : ac_.tmps[16]? = some (.int .i64 (((u : Nat) : Int))) := hM.old0 rfl rfl
                          have f17 : ac_.tmps[17]? = some (.int .i64 (((v : Nat) : Int))) := hM.old0 rfl rfl
                          have f18 : ac_.tmps[18]? = some (.int .i64 (((i : Nat) : Int))) := hM.old0 rfl rfl
                          have f173 : ac_.tmps[173]? = some (.bool (decide (x120.dig = x86.dig))) := hM.eqv 25 rfl (hall 25 (by decide)) rfl rfl
                          refine ⟨((((((((((Env.nil.put 5 (.int .i64 (IntKind.wrap .i64 (1 + ((bringI fl 2)))))).put 6 (.slice (some ⟨b101, o102, none⟩) (((min ins.length (3 * (IntKind.wrap .i64 (1 + (bringI fl 2))) + 1).toNat))) insC)).put 8 (.pointer (some ⟨b23, 0, none⟩))).put 9 (.slice (some ⟨b78, o79, none⟩) ((((selI (has (((crewI (IntKind.wrap .i64 (1 + ((bringI fl 2)))))))) (((crewI (IntKind.wrap .i64 (1 + ((bringI fl 2))))))) ((ins.take (((min ins.length (3 * (IntKind.wrap .i64 (1 + (bringI fl 2))) + 1).toNat)))))).2.1)).length) cap19)).put 14 (.int .i64 (((g : Nat) : Int)))).put 15 (.pointer (some ⟨b94, 0, none⟩))).put 16 (.int .i64 (((u : Nat) : Int)))).put 17 (.int .i64 (((v : Nat) : Int)))).put 18 (.int .i64 (((i : Nat) : Int)))).put 173 (.bool (decide (x120.dig = x86.dig)))), ((((((((((hM.fr.add f5).add f6).add f8).add f9).add f14).add f15).add f16).add f17).add f18).add f173), ?_⟩
                          clear hM hall
                          refine wcOf ?_
                          cases h129 : decide (x120.dig = x86.dig)
                          · skip
                            refine wcCondF rfl ?_
                            refine wcSkip ?_
                            refine wcOf ?_
                            refine wcRegion ?_
                            refine wlVal (opMove rfl) rfl ?_
                            refine wlVal (opIncr rfl rfl (incr_ok (of_decide_eq_true h119) hs112.le)) rfl ?_
                            refine wlVal (opAssign rfl) rfl ?_
                            refine wlRound ?_
                            exact (IH5 (i + 1, u) _ _ ⟨hC, hB, hl, hs13, hs16, hs25, hr81, hr91, hs108, hs110, hs112, hr104, hu, (by rw [← hJ, drop_get hx121]; simp only [List.any_cons, h8, h24, h27, h28, h29, h30, h84, h85, h95, h128, h129, Bool.false_or, Bool.and_false, Bool.and_true, Bool.false_and])⟩ (by have q := of_decide_eq_true h119; show x99.q.length - (i + 1) < x99.q.length - i; omega)).sub (fun _ ha => (((((((((ha.start.cons ha (t := 5) rfl).cons ha (t := 6) rfl).cons ha (t := 8) rfl).cons ha (t := 9) rfl).cons ha (t := 14) rfl).cons ha (t := 15) rfl).cons ha (t := 16) rfl).cons ha (t := 17) rfl).cons ha (t := 18) rfl))
                          · skip
                            refine wcCondT rfl ?_
                            refine wcSeq ?_
                            refine wcRegion ?_
                            refine wlVal (opMove rfl) rfl ?_
                            refine wlVal (opIncr rfl rfl (by have q9 := copied_len l; have q8 := hlen; have := hu; first | (have := htk; have q := of_decide_eq_true h95; (try simp only [List.length_take] at q); omega) | (have := hvo; have q := of_decide_eq_true h95; (try simp only [List.length_take] at q); omega))) rfl ?_
                            refine wlVal (opAssign rfl) rfl ?_
                            refine wlThen ?_
                            refine wcExit ?_
                            refine wcOf ?_
                            refine wcRegion ?_
                            refine wlVal (opMove rfl) rfl ?_
                            refine wlVal (opIncr rfl rfl (by have q := of_decide_eq_true h95; have q9 := copied_len l; have q8 := hlen; (try simp only [List.length_take] at q); omega)) rfl ?_
                            refine wlVal (opAssign rfl) rfl ?_
                            refine wlRound ?_
                            exact (IH4 (v + 1, u + 1) _ _ ⟨hC, hB, hl, hs13, hs16, hs25, hr81, hr91, (by omega), (by have hA := hJ; rw [drop_get hx121] at hA; simp only [List.any_cons, List.any_nil, h8, h24, h28, h29, h30, h84, h85, h128, h129, Bool.true_or, Bool.and_true, Bool.true_and] at hA; rw [List.take_add_one, hx100]; simp only [Option.toList_some, List.countP_append, List.countP_cons, List.countP_nil, ← hA, ← hwo]; simp; omega)⟩ (by have q := of_decide_eq_true h95; show (min ins.length (3 * (IntKind.wrap .i64 (1 + (bringI fl 2))) + 1).toNat) - (v + 1) < (min ins.length (3 * (IntKind.wrap .i64 (1 + (bringI fl 2))) + 1).toNat) - v; omega)).sub (fun _ ha => ((((((((ha.start.cons ha (t := 5) rfl).cons ha (t := 6) rfl).cons ha (t := 8) rfl).cons ha (t := 9) rfl).cons ha (t := 14) rfl).cons ha (t := 15) rfl).cons ha (t := 16) rfl).cons ha (t := 17) rfl))
              · skip
                refine wcCondT rfl ?_
                refine wcSeq ?_
                refine wcRegion ?_
                refine wlVal (opAssign rfl) rfl ?_
                refine wlThen ?_
                refine wcRet ?_
                exact fun ac_ ha => hQ _ _ _ (results1 ha rfl rfl) ha.df (endS hC hw (by have hV := vouched_sel h12 (node_ok h12 hren h8) h24; exact absurd (of_decide_eq_true h84) (hV.2.1 _ hx77)))
          · skip
            refine wlOff rfl rfl rfl rfl ?_
            refine wlOff rfl rfl rfl rfl ?_
            refine wlOff rfl rfl rfl rfl ?_
            refine wlOff rfl rfl rfl rfl ?_
            refine wlOffU rfl rfl rfl ?_
            refine wlOffU rfl rfl rfl ?_
            refine wlOffU rfl rfl rfl ?_
            refine wlOffU rfl rfl rfl ?_
            refine wlOffU rfl rfl rfl ?_
            refine wlOffU rfl rfl rfl ?_
            refine wlOffU rfl rfl rfl ?_
            refine wlOffU rfl rfl rfl ?_
            refine wlOffU rfl rfl rfl ?_
            refine wlOff rfl rfl rfl rfl ?_
            refine wlVal (opPickT rfl rfl) rfl ?_
            refine wlThen ?_
            refine wcCondT rfl ?_
            refine wcSeq ?_
            refine wcRegion ?_
            refine wlVal (opAssign rfl) rfl ?_
            refine wlThen ?_
            refine wcRet ?_
            exact fun ac_ ha => hQ _ _ _ (results1 ha rfl rfl) ha.df (endS hC hw (by have q := of_decide_eq_true h29; have := selI_len (has (crewI (IntKind.wrap .i64 (1 + (bringI fl 2))))) (crewI (IntKind.wrap .i64 (1 + (bringI fl 2)))) (ins.take (min ins.length (3 * (IntKind.wrap .i64 (1 + (bringI fl 2))) + 1).toNat)); omega))
        · skip
          refine wlOff rfl rfl rfl rfl ?_
          refine wlOff rfl rfl rfl rfl ?_
          refine wlOff rfl rfl rfl rfl ?_
          refine wlVal (opPickT rfl rfl) rfl ?_
          refine wlVal (opMove rfl) rfl ?_
          refine wlOff rfl rfl rfl rfl ?_
          refine wlOff rfl rfl rfl rfl ?_
          refine wlOff rfl rfl rfl rfl ?_
          refine wlOff rfl rfl rfl rfl ?_
          refine wlOffU rfl rfl rfl ?_
          refine wlOffU rfl rfl rfl ?_
          refine wlOffU rfl rfl rfl ?_
          refine wlOffU rfl rfl rfl ?_
          refine wlOffU rfl rfl rfl ?_
          refine wlOffU rfl rfl rfl ?_
          refine wlOffU rfl rfl rfl ?_
          refine wlOffU rfl rfl rfl ?_
          refine wlOffU rfl rfl rfl ?_
          refine wlOff rfl rfl rfl rfl ?_
          refine wlVal (opPickT rfl rfl) rfl ?_
          refine wlThen ?_
          refine wcCondT rfl ?_
          refine wcSeq ?_
          refine wcRegion ?_
          refine wlVal (opAssign rfl) rfl ?_
          refine wlThen ?_
          refine wcRet ?_
          exact fun ac_ ha => hQ _ _ _ (results1 ha rfl rfl) ha.df (endS hC hw (by have hV := vouched_sel h12 (node_ok h12 hren h8) h24; have q := of_decide_eq_true h28; have e4 : List.take t (ins.take (min ins.length (3 * (IntKind.wrap .i64 (1 + (bringI fl 2))) + 1).toNat)) = (ins.take (min ins.length (3 * (IntKind.wrap .i64 (1 + (bringI fl 2))) + 1).toNat)) := List.take_of_length_le (by have q4 := of_decide_eq_false h27; simp only [List.length_take]; omega); rw [IntWalk.i64_in _ (by have := h12; omega), ht, e4] at q; have := hV.1; omega))
      · skip
        refine wcCondT rfl ?_
        refine wcSkip ?_
        refine wcOf ?_
        refine wcSeq ?_
        refine wcBlock ?_
        refine wcSeq ?_
        refine wcRegion ?_
        refine wlVal (opAssign rfl) rfl ?_
        refine wlThen ?_
        refine wcBlock ?_
        obtain ⟨x130, hx131⟩ : ∃ y_, ((ins.take (((min ins.length (3 * (IntKind.wrap .i64 (1 + (bringI fl 2))) + 1).toNat)))))[t]? = some y_ := ⟨_, List.getElem?_eq_getElem (by have q := of_decide_eq_true h27; simpa using q)⟩
        obtain ⟨b132, o133, row134, hA137, hr135, hi136⟩ := hs16.elem hx131; subst hA137
        obtain ⟨v138, v140, v142, rfl, hs139, hs141, hs143⟩ := Change.opIs hi136
        obtain ⟨A144, cap145, rfl⟩ := hs139.form
        obtain ⟨A146, cap147, rfl⟩ := hs141.form
        obtain ⟨A148, cap149, rfl⟩ := hs143.form
        refine WC.sub (wrInd (ι := Nat × Nat) (fun i => match i with | (i, u) => x130.marks.length - i) (fun i G w => match i with | (i, u) => Cx w0 G0 G w ∧ Bxs G w w0.heap.size [(b23, 30, (((selI (has (((crewI (IntKind.wrap .i64 (1 + ((bringI fl 2)))))))) (((crewI (IntKind.wrap .i64 (1 + ((bringI fl 2))))))) ((ins.take (((min ins.length (3 * (IntKind.wrap .i64 (1 + (bringI fl 2))) + 1).toNat)))))).1)).cells)] ∧ Sl G (.slice A1 l.length cap2) l ∧ Sl G (.slice A14 ((((crewI (IntKind.wrap .i64 (1 + ((bringI fl 2)))))).nodes).length) cap15) (((crewI (IntKind.wrap .i64 (1 + ((bringI fl 2)))))).nodes) ∧ Sl G (.slice (some ⟨b132, o133, none⟩) (((min ins.length (3 * (IntKind.wrap .i64 (1 + (bringI fl 2))) + 1).toNat))) insC) ((ins.take (((min ins.length (3 * (IntKind.wrap .i64 (1 + (bringI fl 2))) + 1).toNat))))) ∧ Sl G (.slice A18 ((((selI (has (((crewI (IntKind.wrap .i64 (1 + ((bringI fl 2)))))))) (((crewI (IntKind.wrap .i64 (1 + ((bringI fl 2))))))) ((ins.take (((min ins.length (3 * (IntKind.wrap .i64 (1 + (bringI fl 2))) + 1).toNat)))))).2.1)).length) cap19) (((selI (has (((crewI (IntKind.wrap .i64 (1 + ((bringI fl 2)))))))) (((crewI (IntKind.wrap .i64 (1 + ((bringI fl 2))))))) ((ins.take (((min ins.length (3 * (IntKind.wrap .i64 (1 + (bringI fl 2))) + 1).toNat)))))).2.1)) ∧ Sl G (.slice A144 x130.marks.length cap145) x130.marks ∧ Sl G (.slice A146 x130.p.length cap147) x130.p ∧ Sl G (.slice A148 x130.q.length cap149) x130.q ∧ RowG G b132 (o133 + t * 6) [(.int .i64 x130.node), (.int .i64 x130.view), (.int .i64 x130.low), (.slice A144 x130.marks.length cap145), (.slice A146 x130.p.length cap147), (.slice A148 x130.q.length cap149)] ∧ u = told ∧ (x130.marks.drop i).any (fun y => decide (y = (selI (has (crewI (IntKind.wrap .i64 (1 + (bringI fl 2))))) (crewI (IntKind.wrap .i64 (1 + (bringI fl 2)))) (ins.take (min ins.length (3 * (IntKind.wrap .i64 (1 + (bringI fl 2))) + 1).toNat))).1)) = x130.marks.any (fun y => decide (y = (selI (has (crewI (IntKind.wrap .i64 (1 + (bringI fl 2))))) (crewI (IntKind.wrap .i64 (1 + (bringI fl 2)))) (ins.take (min ins.length (3 * (IntKind.wrap .i64 (1 + (bringI fl 2))) + 1).toNat))).1))) (fun i => match i with | (i, u) => (((((((Env.nil.put 5 (.int .i64 (IntKind.wrap .i64 (1 + ((bringI fl 2)))))).put 6 (.slice (some ⟨b132, o133, none⟩) (((min ins.length (3 * (IntKind.wrap .i64 (1 + (bringI fl 2))) + 1).toNat))) insC)).put 8 (.pointer (some ⟨b23, 0, none⟩))).put 9 (.slice A18 ((((selI (has (((crewI (IntKind.wrap .i64 (1 + ((bringI fl 2)))))))) (((crewI (IntKind.wrap .i64 (1 + ((bringI fl 2))))))) ((ins.take (((min ins.length (3 * (IntKind.wrap .i64 (1 + (bringI fl 2))) + 1).toNat)))))).2.1)).length) cap19)).put 11 (.int .i64 (((u : Nat) : Int)))).put 12 (.int .i64 (((t : Nat) : Int)))).put 13 (.int .i64 (((i : Nat) : Int))))) ?_ (0, told) _ _ ⟨hC, hB, hl, hs13, hs16, hs25, hs139, hs141, hs143, hr135, rfl, rfl⟩) (fun _ ha => (((((((ha.start.cons ha (t := 5) rfl).cons ha (t := 6) rfl).cons ha (t := 8) rfl).cons ha (t := 9) rfl).cons ha (t := 11) rfl).cons ha (t := 12) rfl).cons ha (t := 13) rfl))
        rintro ⟨i, u⟩ G w N2 IH2 ⟨hC, hB, hl, hs13, hs16, hs25, hs139, hs141, hs143, hr135, hu, hJ⟩
        show WC _ _ _ _ (((((((Env.nil.put 5 (.int .i64 (IntKind.wrap .i64 (1 + ((bringI fl 2)))))).put 6 (.slice (some ⟨b132, o133, none⟩) (((min ins.length (3 * (IntKind.wrap .i64 (1 + (bringI fl 2))) + 1).toNat))) insC)).put 8 (.pointer (some ⟨b23, 0, none⟩))).put 9 (.slice A18 ((((selI (has (((crewI (IntKind.wrap .i64 (1 + ((bringI fl 2)))))))) (((crewI (IntKind.wrap .i64 (1 + ((bringI fl 2))))))) ((ins.take (((min ins.length (3 * (IntKind.wrap .i64 (1 + (bringI fl 2))) + 1).toNat)))))).2.1)).length) cap19)).put 11 (.int .i64 (((u : Nat) : Int)))).put 12 (.int .i64 (((t : Nat) : Int)))).put 13 (.int .i64 (((i : Nat) : Int)))) w
        refine wcSeq ?_
        refine wcSeq ?_
        refine wcRegion ?_
        refine wlVal (opMove rfl) rfl ?_
        refine wlVal (opMove rfl) rfl ?_
        refine wlVal (opMove rfl) rfl ?_
        refine wlVal (opIndexAddr rfl rfl slo25 (by have q := of_decide_eq_true h27; simpa using q)) rfl ?_
        refine wlVal (opFieldAddr rfl fo49_3) rfl ?_
        refine wlVal (opLoadOne (v := (.slice A144 x130.marks.length cap145)) rfl (RowG.cell hC.holds hr135 (j := 3) rfl) one31) rfl ?_
        refine wlVal (opLen rfl isl31) rfl ?_
        refine wlVal (opLssN rfl rfl) rfl ?_
        refine wlThen ?_
        cases h150 : decide (i < x130.marks.length)
        · skip
          refine wcCondF rfl ?_
          refine wcExit ?_
          refine wcOf ?_
          refine wcRegion ?_
          refine wlVal (opMove rfl) rfl ?_
          refine wlVal (opIncr rfl rfl (by have q := of_decide_eq_true h27; have q9 := copied_len l; have q8 := hlen; (try simp only [List.length_take] at q); omega)) rfl ?_
          refine wlVal (opAssign rfl) rfl ?_
          refine wlRound ?_
          exact (IH1 (t + 1, u) _ _ ⟨hC, hB, hl, hs13, hs16, hs25, (by omega), (by have hA := hJ; rw [List.drop_eq_nil_of_le (Nat.le_of_not_lt (of_decide_eq_false h150))] at hA; simp only [List.any_cons, List.any_nil, h8, h24, Bool.true_or, Bool.and_true, Bool.true_and] at hA; rw [List.take_add_one, hx131]; simp only [Option.toList_some, List.countP_append, List.countP_cons, List.countP_nil, ← hA, ← ht]; simp; omega)⟩ (by have q := of_decide_eq_true h27; show (min ins.length (3 * (IntKind.wrap .i64 (1 + (bringI fl 2))) + 1).toNat) - (t + 1) < (min ins.length (3 * (IntKind.wrap .i64 (1 + (bringI fl 2))) + 1).toNat) - t; omega)).sub (fun _ ha => ((((((ha.start.cons ha (t := 5) rfl).cons ha (t := 6) rfl).cons ha (t := 8) rfl).cons ha (t := 9) rfl).cons ha (t := 11) rfl).cons ha (t := 12) rfl))
        · skip
          refine wcCondT rfl ?_
          refine wcSkip ?_
          refine wcOf ?_
          refine wcSeq ?_
          refine wcBlock ?_
          refine wcSeq ?_
          obtain ⟨x151, hx152⟩ : ∃ y_, x130.marks[i]? = some y_ := ⟨_, List.getElem?_eq_getElem (of_decide_eq_true h150)⟩
          obtain ⟨b153, o154, row155, hA158, hr156, hi157⟩ := hs139.elem hx152; subst hA158
          obtain rfl := hi157
          refine wcDraw fmix (by kernel_rfl) (by kernel_rfl) (vAt [(fun _ v_ => v_ = (.slice (some ⟨b132, o133, none⟩) (((min ins.length (3 * (IntKind.wrap .i64 (1 + (bringI fl 2))) + 1).toNat))) insC)), (fun _ v_ => v_ = (.int .i64 (((t : Nat) : Int)))), (fun _ v_ => v_ = (.pointer (some ⟨b132, o133 + t * 6, none⟩))), (fun _ v_ => v_ = (.pointer (some ⟨b132, o133 + t * 6 + 3, none⟩))), (fun _ v_ => v_ = (.slice (some ⟨b153, o154, none⟩) x130.marks.length cap145)), (fun _ v_ => v_ = (.int .i64 (((i : Nat) : Int)))), (fun _ v_ => v_ = (.pointer (some ⟨b153, o154 + i * 33, none⟩))), (fun _ v_ => v_ = (.agg x151.cells.toArray)), (fun _ v_ => v_ = (.agg (((selI (has (((crewI (IntKind.wrap .i64 (1 + ((bringI fl 2)))))))) (((crewI (IntKind.wrap .i64 (1 + ((bringI fl 2))))))) ((ins.take (((min ins.length (3 * (IntKind.wrap .i64 (1 + (bringI fl 2))) + 1).toNat)))))).1)).cells.toArray)), (fun _ v_ => v_ = (.bool (decide (x151 = ((selI (has (((crewI (IntKind.wrap .i64 (1 + ((bringI fl 2)))))))) (((crewI (IntKind.wrap .i64 (1 + ((bringI fl 2))))))) ((ins.take (((min ins.length (3 * (IntKind.wrap .i64 (1 + (bringI fl 2))) + 1).toNat)))))).1)))))]) (fun _ _ G' w => Cx w0 G0 G' w ∧ Bxs G' w w0.heap.size [(b23, 30, (((selI (has (((crewI (IntKind.wrap .i64 (1 + ((bringI fl 2)))))))) (((crewI (IntKind.wrap .i64 (1 + ((bringI fl 2))))))) ((ins.take (((min ins.length (3 * (IntKind.wrap .i64 (1 + (bringI fl 2))) + 1).toNat)))))).1)).cells)] ∧ GLe G G') G (vAt_mono ⟨fun _ _ _ _ h => h, fun _ _ _ _ h => h, fun _ _ _ _ h => h, fun _ _ _ _ h => h, fun _ _ _ _ h => h, fun _ _ _ _ h => h, fun _ _ _ _ h => h, fun _ _ _ _ h => h, fun _ _ _ _ h => h, fun _ _ _ _ h => h, trivial⟩) (fun _ _ => ⟨hC.drew, hB.drew, fun _ _ h => h⟩) ?_ ?_
          · refine dsNone (j := 1) rfl ?_ ?_
            · intro done G w ac_ hd hp hn ⟨hC, hB, hg⟩ hM
              have f6 : ac_.tmps[6]? = some (.slice (some ⟨b132, o133, none⟩) (((min ins.length (3 * (IntKind.wrap .i64 (1 + (bringI fl 2))) + 1).toNat))) insC) := hM.old0 rfl rfl
              have hF : Fr 197 ac_ (Env.nil.put 6 (.slice (some ⟨b132, o133, none⟩) (((min ins.length (3 * (IntKind.wrap .i64 (1 + (bringI fl 2))) + 1).toNat))) insC)) := (hM.fr.add f6)
              exact OpVal.draw hF (opMove rfl) ⟨G, fun _ _ h => h, ⟨hC, hB, hg⟩, rfl⟩
            refine dsNone (j := 2) rfl ?_ ?_
            · intro done G w ac_ hd hp hn ⟨hC, hB, hg⟩ hM
              have f12 : ac_.tmps[12]? = some (.int .i64 (((t : Nat) : Int))) := hM.old0 rfl rfl
              have hF : Fr 197 ac_ (Env.nil.put 12 (.int .i64 (((t : Nat) : Int)))) := (hM.fr.add f12)
              exact OpVal.draw hF (opMove rfl) ⟨G, fun _ _ h => h, ⟨hC, hB, hg⟩, rfl⟩
            refine dsNone (j := 3) rfl ?_ ?_
            · intro done G w ac_ hd hp hn ⟨hC, hB, hg⟩ hM
              have f85 : ac_.tmps[85]? = some (.slice (some ⟨b132, o133, none⟩) (((min ins.length (3 * (IntKind.wrap .i64 (1 + (bringI fl 2))) + 1).toNat))) insC) := hM.eqv 0 rfl (hp 0 rfl) rfl rfl
              have f86 : ac_.tmps[86]? = some (.int .i64 (((t : Nat) : Int))) := hM.eqv 1 rfl (hp 1 rfl) rfl rfl
              have hF : Fr 197 ac_ ((Env.nil.put 85 (.slice (some ⟨b132, o133, none⟩) (((min ins.length (3 * (IntKind.wrap .i64 (1 + (bringI fl 2))) + 1).toNat))) insC)).put 86 (.int .i64 (((t : Nat) : Int)))) := ((hM.fr.add f85).add f86)
              exact OpVal.draw hF (opIndexAddr rfl rfl slo25 (by have q := of_decide_eq_true h27; simpa using q)) ⟨G, fun _ _ h => h, ⟨hC, hB, hg⟩, rfl⟩
            refine dsNone (j := 4) rfl ?_ ?_
            · intro done G w ac_ hd hp hn ⟨hC, hB, hg⟩ hM
              have f87 : ac_.tmps[87]? = some (.pointer (some ⟨b132, o133 + t * 6, none⟩)) := hM.eqv 2 rfl (hp 2 rfl) rfl rfl
              have hF : Fr 197 ac_ (Env.nil.put 87 (.pointer (some ⟨b132, o133 + t * 6, none⟩))) := (hM.fr.add f87)
              exact OpVal.draw hF (opFieldAddr rfl fo49_3) ⟨G, fun _ _ h => h, ⟨hC, hB, hg⟩, rfl⟩
            refine dsNone (j := 5) rfl ?_ ?_
            · intro done G w ac_ hd hp hn ⟨hC, hB, hg⟩ hM
              replace hr135 := hr135.mono hg
              have f88 : ac_.tmps[88]? = some (.pointer (some ⟨b132, o133 + t * 6 + 3, none⟩)) := hM.eqv 3 rfl (hp 3 rfl) rfl rfl
              have hF : Fr 197 ac_ (Env.nil.put 88 (.pointer (some ⟨b132, o133 + t * 6 + 3, none⟩))) := (hM.fr.add f88)
              exact OpVal.draw hF (opLoadOne (v := (.slice (some ⟨b153, o154, none⟩) x130.marks.length cap145)) rfl (RowG.cell hC.holds hr135 (j := 3) rfl) one31) ⟨G, fun _ _ h => h, ⟨hC, hB, hg⟩, rfl⟩
            refine dsNone (j := 6) rfl ?_ ?_
            · intro done G w ac_ hd hp hn ⟨hC, hB, hg⟩ hM
              have f13 : ac_.tmps[13]? = some (.int .i64 (((i : Nat) : Int))) := hM.old0 rfl rfl
              have hF : Fr 197 ac_ (Env.nil.put 13 (.int .i64 (((i : Nat) : Int)))) := (hM.fr.add f13)
              exact OpVal.draw hF (opMove rfl) ⟨G, fun _ _ h => h, ⟨hC, hB, hg⟩, rfl⟩
            refine dsNone (j := 7) rfl ?_ ?_
            · intro done G w ac_ hd hp hn ⟨hC, hB, hg⟩ hM
              have f89 : ac_.tmps[89]? = some (.slice (some ⟨b153, o154, none⟩) x130.marks.length cap145) := hM.eqv 4 rfl (hp 4 rfl) rfl rfl
              have f90 : ac_.tmps[90]? = some (.int .i64 (((i : Nat) : Int))) := hM.eqv 5 rfl (hp 5 rfl) rfl rfl
              have hF : Fr 197 ac_ ((Env.nil.put 89 (.slice (some ⟨b153, o154, none⟩) x130.marks.length cap145)).put 90 (.int .i64 (((i : Nat) : Int)))) := ((hM.fr.add f89).add f90)
              exact OpVal.draw hF (opIndexAddr rfl rfl slo31 (of_decide_eq_true h150)) ⟨G, fun _ _ h => h, ⟨hC, hB, hg⟩, rfl⟩
            refine dsNone (j := 8) rfl ?_ ?_
            · intro done G w ac_ hd hp hn ⟨hC, hB, hg⟩ hM
              replace hr156 := hr156.mono hg
              have f91 : ac_.tmps[91]? = some (.pointer (some ⟨b153, o154 + i * 33, none⟩)) := hM.eqv 6 rfl (hp 6 rfl) rfl rfl
              have hF : Fr 197 ac_ (Env.nil.put 91 (.pointer (some ⟨b153, o154 + i * 33, none⟩))) := (hM.fr.add f91)
              exact OpVal.draw hF (opLoadRow (cs := x151.cells) rfl (RowG.range hC.holds hr156) row30 (by simp [Mark.cells, Stand.cells])) ⟨G, fun _ _ h => h, ⟨hC, hB, hg⟩, rfl⟩
            refine dsNone (j := 9) rfl ?_ ?_
            · intro done G w ac_ hd hp hn ⟨hC, hB, hg⟩ hM
              have f8 : ac_.tmps[8]? = some (.pointer (some ⟨b23, 0, none⟩)) := hM.old0 rfl rfl
              have hF : Fr 197 ac_ (Env.nil.put 8 (.pointer (some ⟨b23, 0, none⟩))) := (hM.fr.add f8)
              exact OpVal.draw hF (opLoadRow (cs := (((selI (has (((crewI (IntKind.wrap .i64 (1 + ((bringI fl 2)))))))) (((crewI (IntKind.wrap .i64 (1 + ((bringI fl 2))))))) ((ins.take (((min ins.length (3 * (IntKind.wrap .i64 (1 + (bringI fl 2))) + 1).toNat)))))).1)).cells) rfl (hB.range (i := 0) (m := 33) rfl (by simp [Mark.cells, Stand.cells])) row30 (by simp [Mark.cells, Stand.cells])) ⟨G, fun _ _ h => h, ⟨hC, hB, hg⟩, rfl⟩
            refine dsNone (j := 10) rfl ?_ ?_
            · intro done G w ac_ hd hp hn ⟨hC, hB, hg⟩ hM
              have f92 : ac_.tmps[92]? = some (.agg x151.cells.toArray) := hM.eqv 7 rfl (hp 7 rfl) rfl rfl
              have f93 : ac_.tmps[93]? = some (.agg (((selI (has (((crewI (IntKind.wrap .i64 (1 + ((bringI fl 2)))))))) (((crewI (IntKind.wrap .i64 (1 + ((bringI fl 2))))))) ((ins.take (((min ins.length (3 * (IntKind.wrap .i64 (1 + (bringI fl 2))) + 1).toNat)))))).1)).cells.toArray) := hM.eqv 8 rfl (hp 8 rfl) rfl rfl
              have hF : Fr 197 ac_ ((Env.nil.put 92 (.agg x151.cells.toArray)).put 93 (.agg (((selI (has (((crewI (IntKind.wrap .i64 (1 + ((bringI fl 2)))))))) (((crewI (IntKind.wrap .i64 (1 + ((bringI fl 2))))))) ((ins.take (((min ins.length (3 * (IntKind.wrap .i64 (1 + (bringI fl 2))) + 1).toNat)))))).1)).cells.toArray)) := ((hM.fr.add f92).add f93)
              exact OpVal.draw hF (opEqRow (eq30 _ x151 (((selI (has (((crewI (IntKind.wrap .i64 (1 + ((bringI fl 2)))))))) (((crewI (IntKind.wrap .i64 (1 + ((bringI fl 2))))))) ((ins.take (((min ins.length (3 * (IntKind.wrap .i64 (1 + (bringI fl 2))) + 1).toNat)))))).1))) eg30 rfl rfl) ⟨G, fun _ _ h => h, ⟨hC, hB, hg⟩, rfl⟩
            exact dsNil
          · intro done G w ac_ hall ⟨hC, hB, hg⟩ hM
            replace hl := hl.mono hg
            replace hs13 := hs13.mono hg
            replace hs16 := hs16.mono hg
            replace hs25 := hs25.mono hg
            replace hs139 := hs139.mono hg
            replace hs141 := hs141.mono hg
            replace hs143 := hs143.mono hg
            replace hr135 := hr135.mono hg
            replace hr156 := hr156.mono hg
            have f5 : ac_.tmps[5]? = some (.int .i64 (IntKind.wrap .i64 (1 + ((bringI fl 2))))) := hM.old0 rfl rfl
            have f6 : ac_.tmps[6]? = some (.slice (some ⟨b132, o133, none⟩) (((min ins.length (3 * (IntKind.wrap .i64 (1 + (bringI fl 2))) + 1).toNat))) insC) := hM.old0 rfl rfl
            have f8 : ac_.tmps[8]? = some (.pointer (some ⟨b23, 0, none⟩)) := hM.old0 rfl rfl
            have f9 : ac_.tmps[9]? = some (.slice A18 ((((selI (has (((crewI (IntKind.wrap .i64 (1 + ((bringI fl 2)))))))) (((crewI (IntKind.wrap .i64 (1 + ((bringI fl 2))))))) ((ins.take (((min ins.length (3 * (IntKind.wrap .i64 (1 + (bringI fl 2))) + 1).toNat)))))).2.1)).length) cap19) := hM.old0 rfl rfl
            have f11 : ac_.tmps[11]? = some (.int .i64 (((u : Nat) : Int))) := hM.old0 rfl rfl
            have f12 : ac_.tmps[12]? = some (.int .i64 (((t : Nat) : Int))) := hM.old0 rfl rfl
            have f13 : ac_.tmps[13]? = some (.int .i64 (((i : Nat) : Int))) := hM.old0 rfl rfl
            have f94 : ac_.tmps[94]? = some (.bool (decide (x151 = ((selI (has (((crewI (IntKind.wrap .i64 (1 + ((bringI fl 2)))))))) (((crewI (IntKind.wrap .i64 (1 + ((bringI fl 2))))))) ((ins.take (((min ins.length (3 * (IntKind.wrap .i64 (1 + (bringI fl 2))) + 1).toNat)))))).1)))) := hM.eqv 9 rfl (hall 9 (by decide)) rfl rfl
            refine ⟨((((((((Env.nil.put 5 (.int .i64 (IntKind.wrap .i64 (1 + ((bringI fl 2)))))).put 6 (.slice (some ⟨b132, o133, none⟩) (((min ins.length (3 * (IntKind.wrap .i64 (1 + (bringI fl 2))) + 1).toNat))) insC)).put 8 (.pointer (some ⟨b23, 0, none⟩))).put 9 (.slice A18 ((((selI (has (((crewI (IntKind.wrap .i64 (1 + ((bringI fl 2)))))))) (((crewI (IntKind.wrap .i64 (1 + ((bringI fl 2))))))) ((ins.take (((min ins.length (3 * (IntKind.wrap .i64 (1 + (bringI fl 2))) + 1).toNat)))))).2.1)).length) cap19)).put 11 (.int .i64 (((u : Nat) : Int)))).put 12 (.int .i64 (((t : Nat) : Int)))).put 13 (.int .i64 (((i : Nat) : Int)))).put 94 (.bool (decide (x151 = ((selI (has (((crewI (IntKind.wrap .i64 (1 + ((bringI fl 2)))))))) (((crewI (IntKind.wrap .i64 (1 + ((bringI fl 2))))))) ((ins.take (((min ins.length (3 * (IntKind.wrap .i64 (1 + (bringI fl 2))) + 1).toNat)))))).1))))), ((((((((hM.fr.add f5).add f6).add f8).add f9).add f11).add f12).add f13).add f94), ?_⟩
            clear hM hall
            refine wcOf ?_
            cases h159 : decide (x151 = ((selI (has (((crewI (IntKind.wrap .i64 (1 + ((bringI fl 2)))))))) (((crewI (IntKind.wrap .i64 (1 + ((bringI fl 2))))))) ((ins.take (((min ins.length (3 * (IntKind.wrap .i64 (1 + (bringI fl 2))) + 1).toNat)))))).1))
            · skip
              refine wcCondF rfl ?_
              refine wcSkip ?_
              refine wcOf ?_
              refine wcRegion ?_
              refine wlVal (opMove rfl) rfl ?_
              refine wlVal (opIncr rfl rfl (incr_ok (of_decide_eq_true h150) hs139.le)) rfl ?_
              refine wlVal (opAssign rfl) rfl ?_
              refine wlRound ?_
              exact (IH2 (i + 1, u) _ _ ⟨hC, hB, hl, hs13, hs16, hs25, hs139, hs141, hs143, hr135, hu, (by rw [← hJ, drop_get hx152]; simp only [List.any_cons, h8, h24, h27, h159, Bool.false_or, Bool.and_false, Bool.and_true, Bool.false_and])⟩ (by have q := of_decide_eq_true h150; show x130.marks.length - (i + 1) < x130.marks.length - i; omega)).sub (fun _ ha => (((((((ha.start.cons ha (t := 5) rfl).cons ha (t := 6) rfl).cons ha (t := 8) rfl).cons ha (t := 9) rfl).cons ha (t := 11) rfl).cons ha (t := 12) rfl).cons ha (t := 13) rfl))
            · skip
              refine wcCondT rfl ?_
              refine wcSeq ?_
              refine wcRegion ?_
              refine wlVal (opMove rfl) rfl ?_
              refine wlVal (opIncr rfl rfl (by have q9 := copied_len l; have q8 := hlen; have := hu; first | (have := htk; have q := of_decide_eq_true h27; (try simp only [List.length_take] at q); omega) | (have := hvo; have q := of_decide_eq_true h27; (try simp only [List.length_take] at q); omega))) rfl ?_
              refine wlVal (opAssign rfl) rfl ?_
              refine wlThen ?_
              refine wcExit ?_
              refine wcOf ?_
              refine wcRegion ?_
              refine wlVal (opMove rfl) rfl ?_
              refine wlVal (opIncr rfl rfl (by have q := of_decide_eq_true h27; have q9 := copied_len l; have q8 := hlen; (try simp only [List.length_take] at q); omega)) rfl ?_
              refine wlVal (opAssign rfl) rfl ?_
              refine wlRound ?_
              exact (IH1 (t + 1, u + 1) _ _ ⟨hC, hB, hl, hs13, hs16, hs25, (by omega), (by have hA := hJ; rw [drop_get hx152] at hA; simp only [List.any_cons, List.any_nil, h8, h24, h159, Bool.true_or, Bool.and_true, Bool.true_and] at hA; rw [List.take_add_one, hx131]; simp only [Option.toList_some, List.countP_append, List.countP_cons, List.countP_nil, ← hA, ← ht]; simp; omega)⟩ (by have q := of_decide_eq_true h27; show (min ins.length (3 * (IntKind.wrap .i64 (1 + (bringI fl 2))) + 1).toNat) - (t + 1) < (min ins.length (3 * (IntKind.wrap .i64 (1 + (bringI fl 2))) + 1).toNat) - t; omega)).sub (fun _ ha => ((((((ha.start.cons ha (t := 5) rfl).cons ha (t := 6) rfl).cons ha (t := 8) rfl).cons ha (t := 9) rfl).cons ha (t := 11) rfl).cons ha (t := 12) rfl))
    · skip
      refine wcCondT rfl ?_
      refine wcSeq ?_
      refine wcRegion ?_
      refine wlVal (opMove rfl) rfl ?_
      refine wlVal (opEql rfl rfl) rfl ?_
      refine wlVal (opMove rfl) rfl ?_
      cases h160 : (((selI (has (((crewI (IntKind.wrap .i64 (1 + ((bringI fl 2)))))))) (((crewI (IntKind.wrap .i64 (1 + ((bringI fl 2))))))) ((ins.take (((min ins.length (3 * (IntKind.wrap .i64 (1 + (bringI fl 2))) + 1).toNat)))))).2.2)) == 210
      · skip
        refine wlOff rfl rfl rfl rfl ?_
        refine wlOff rfl rfl rfl rfl ?_
        refine wlOff rfl rfl rfl rfl ?_
        refine wlVal (opPickF rfl rfl) rfl ?_
        refine wlVal (opMove rfl) rfl ?_
        refine wlOff rfl rfl rfl rfl ?_
        refine wlOff rfl rfl rfl rfl ?_
        refine wlOff rfl rfl rfl rfl ?_
        refine wlVal (opPickF rfl rfl) rfl ?_
        refine wlVal (opMove rfl) rfl ?_
        refine wlOff rfl rfl rfl rfl ?_
        refine wlVal (opPickF rfl rfl) rfl ?_
        refine wlVal (opAssign rfl) rfl ?_
        refine wlThen ?_
        refine wcRet ?_
        exact fun ac_ ha => hQ _ _ _ (results1 ha rfl rfl) ha.df (endS hC hw (by rw [sel_fails h12 (node_ok h12 hren h8) h24] at h160; simp at h160))
      · skip
        refine wlOn rfl rfl ?_
        refine wlVal (opMove rfl) rfl ?_
        refine wlOn rfl rfl ?_
        refine wlVal (opLen rfl isl31) rfl ?_
        refine wlOn rfl rfl ?_
        refine wlVal (opEql rfl rfl) rfl ?_
        refine wlVal (opPickT rfl rfl) rfl ?_
        refine wlVal (opMove rfl) rfl ?_
        cases h161 : ((((((selI (has (((crewI (IntKind.wrap .i64 (1 + ((bringI fl 2)))))))) (((crewI (IntKind.wrap .i64 (1 + ((bringI fl 2))))))) ((ins.take (((min ins.length (3 * (IntKind.wrap .i64 (1 + (bringI fl 2))) + 1).toNat)))))).2.1)).length : Nat) : Int)) == 0
        · skip
          refine wlOff rfl rfl rfl rfl ?_
          refine wlOff rfl rfl rfl rfl ?_
          refine wlOff rfl rfl rfl rfl ?_
          refine wlVal (opPickF rfl rfl) rfl ?_
          refine wlVal (opMove rfl) rfl ?_
          refine wlOff rfl rfl rfl rfl ?_
          refine wlVal (opPickF rfl rfl) rfl ?_
          refine wlVal (opAssign rfl) rfl ?_
          refine wlThen ?_
          refine wcRet ?_
          exact fun ac_ ha => hQ _ _ _ (results1 ha rfl rfl) ha.df (endS hC hw (by rw [sel_fails h12 (node_ok h12 hren h8) h24] at h161; simp at h161))
        · skip
          refine wlOn rfl rfl ?_
          refine wlVal (opLoadRow (cs := (((selI (has (((crewI (IntKind.wrap .i64 (1 + ((bringI fl 2)))))))) (((crewI (IntKind.wrap .i64 (1 + ((bringI fl 2))))))) ((ins.take (((min ins.length (3 * (IntKind.wrap .i64 (1 + (bringI fl 2))) + 1).toNat)))))).1)).cells) rfl (hB.range (i := 0) (m := 33) rfl (by simp [Mark.cells, Stand.cells])) row30 (by simp [Mark.cells, Stand.cells])) rfl ?_
          refine wlOn rfl rfl ?_
          refine wlVal (opBuild (ps := []) (cs := ((.int .i64 0) :: (Dig.zero.cells ++ []))) so30 zero30 rfl rfl (by simp [buildCells, Value.cells])) rfl ?_
          refine wlOn rfl rfl ?_
          refine wlVal (opEqRow (eq30 _ (((selI (has (((crewI (IntKind.wrap .i64 (1 + ((bringI fl 2)))))))) (((crewI (IntKind.wrap .i64 (1 + ((bringI fl 2))))))) ((ins.take (((min ins.length (3 * (IntKind.wrap .i64 (1 + (bringI fl 2))) + 1).toNat)))))).1)) ((Mark.mk 0 Dig.zero))) eg30 rfl rfl) rfl ?_
          refine wlVal (opPickT rfl rfl) rfl ?_
          refine wlVal (opMove rfl) rfl ?_
          cases h162 : decide (((selI (has (((crewI (IntKind.wrap .i64 (1 + ((bringI fl 2)))))))) (((crewI (IntKind.wrap .i64 (1 + ((bringI fl 2))))))) ((ins.take (((min ins.length (3 * (IntKind.wrap .i64 (1 + (bringI fl 2))) + 1).toNat)))))).1) = (Mark.mk 0 Dig.zero))
          · skip
            refine wlOff rfl rfl rfl rfl ?_
            refine wlVal (opPickF rfl rfl) rfl ?_
            refine wlVal (opAssign rfl) rfl ?_
            refine wlThen ?_
            refine wcRet ?_
            exact fun ac_ ha => hQ _ _ _ (results1 ha rfl rfl) ha.df (endS hC hw (by rw [sel_fails h12 (node_ok h12 hren h8) h24] at h162; simp at h162))
          · skip
            refine wlOn rfl rfl ?_
            refine wlCallS hC hB rfl co14 rfl rfl (awake_ret _ _ hC.holds ) ?_; intro w hk hC hB
            refine wlVal (opPickT rfl rfl) rfl ?_
            refine wlVal (opAssign rfl) rfl ?_
            refine wlThen ?_
            refine wcRet ?_
            exact fun ac_ ha => hQ _ _ _ (results1 ha rfl rfl) ha.df (endS hC hw rfl)
  · skip
    refine wcCondT rfl ?_
    refine wcSkip ?_
    refine wcOf ?_
    refine wcSeq ?_
    refine wcBlock ?_
    refine wcRegion ?_
    refine wlVal (opMove rfl) rfl ?_
    refine wlVal (opMove rfl) rfl ?_
    refine wlVal (opMove rfl) rfl ?_
    refine wlVal (opIncr rfl rfl (by have q := of_decide_eq_true h8; have q9 := copied_len l; omega)) rfl ?_
    obtain ⟨x163, hx164⟩ : ∃ y_, ins[k]? = some y_ := ⟨_, List.getElem?_eq_getElem (of_decide_eq_true h8)⟩
    obtain ⟨g165, cs166, rfl, rfl⟩ := hOins.addr (of_decide_eq_true h8)
    refine wlVal (opIndexAddr rfl rfl slo25 (of_decide_eq_true h8)) rfl ?_
    refine wlVal (opFieldAddr rfl fo49_0) rfl ?_
    refine wlStoreOw (α := Change) (bl := []) (r := []) (vs := [(.int .i64 (((k + 1 : Nat) : Int)))]) (off := 0) (y := (Change.mk (((k + 1 : Nat) : Int)) x163.view x163.low x163.marks x163.p x163.q)) hC hB hOins hx164 rfl (by show _ = _ * 6 + 0; omega) rfl sz3 rfl rfl rfl (by decide) (fun row h => by obtain ⟨v0_, v1_, v2_, rfl, h0_, h1_, h2_⟩ := Change.opIs h; exact Change.mkIs (x := (Change.mk (((k + 1 : Nat) : Int)) x163.view x163.low x163.marks x163.p x163.q)) h0_ h1_ h2_) rfl ?_; intro cs167 w hC hB hO168
    refine wlNil ?_
    refine wcOf ?_
    refine wcRegion ?_
    refine wlVal (opMove rfl) rfl ?_
    refine wlVal (opIncr rfl rfl (by have q := of_decide_eq_true h8; have q9 := copied_len l; omega)) rfl ?_
    refine wlVal (opAssign rfl) rfl ?_
    refine wlRound ?_
    exact (IH0 (k + 1, (some ⟨g165, 0, none⟩), insC, (some (g165, 49, cs167)), (List.set ins k (Change.mk (((k + 1 : Nat) : Int)) x163.view x163.low x163.marks x163.p x163.q))) _ _ ⟨hC, hB, hl, (by simpa using hO168), (by simpa using hlen), (renK_step hren hx164)⟩ (by have q := of_decide_eq_true h8; simp; omega)).sub (fun _ ha => (((ha.start.cons ha (t := 5) rfl).cons ha (t := 6) (congrArg (fun n_ => some (Value.slice (some ⟨g165, 0, none⟩) n_ insC)) (by simp))).cons ha (t := 7) rfl))

end Go.Proofs.Ytbhkoipmojdkhaa
