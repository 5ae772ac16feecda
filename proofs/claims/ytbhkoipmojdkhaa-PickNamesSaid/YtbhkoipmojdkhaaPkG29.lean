/- What functions of the pick seat return, part 29. No condition. -/
import Derived.Test.YtbhkoipmojdkhaaPkG28
set_option linter.all false
namespace Go.Proofs.Ytbhkoipmojdkhaa
open Go Go.Gx Go.RowKit
theorem sq_rng (n : Int) : 1 ≤ IntKind.wrap .i64 (1 + (bringI n 8)) ∧ IntKind.wrap .i64 (1 + (bringI n 8)) ≤ 8 := by
  have h : 0 ≤ bringI n 8 ∧ bringI n 8 < 8 := bring_rng n (m := 8) (by decide) (by decide)
  rw [IntWalk.i64_in _ (by omega)]; omega
def KX (f sq : Int) (x : Change) : Prop :=
  (f < x.node → x.low = 0 ∧ x.marks = [baseI] ∧ ∀ y ∈ x.q, y.dig = digI 50 ∨ y.view ≤ 4) ∧ (2 * f < x.node → ∃ v, 4 ≤ v ∧ x.p = [⟨sq, digI 50, v⟩]) ∧ x.marks.length ≤ 40 ∧ x.p.length ≤ 40
def KL (f sq : Int) (n : Nat) (l : List Change) : Prop := (∀ x ∈ l, 1 ≤ x.node ∧ x.node < (n : Int) ∧ KX f sq x) ∧ (l.map (·.node)).Pairwise (· < ·)
theorem pw_len : ∀ (l : List Int) (a b : Int), l.Pairwise (· < ·) → (∀ x ∈ l, a ≤ x ∧ x < b) → (l.length : Int) ≤ max (b - a) 0
  | [], a, b, _, _ => by simp; omega
  | x :: r, a, b, hp, h => by
    rw [List.pairwise_cons] at hp
    have h1 := h x (by simp)
    have := pw_len r (x + 1) b hp.2 (fun y hy => ⟨by have := hp.1 y hy; omega, (h y (by simp [hy])).2⟩)
    simp only [List.length_cons]
    omega
theorem kl_nil (f sq : Int) : KL f sq 1 [] := ⟨by simp, by simp⟩
theorem kl_skip {f sq : Int} {n : Nat} {l : List Change} (h : KL f sq n l) : KL f sq (n + 1) l := ⟨fun x hx => by obtain ⟨a, b, c⟩ := h.1 x hx; exact ⟨a, by omega, c⟩, h.2⟩
theorem kl_len {f sq : Int} {n : Nat} {l : List Change} (h : KL f sq n l) : (l.length : Int) ≤ max ((n : Int) - 1) 0 := by
  have := pw_len (l.map (·.node)) 1 n h.2 (fun x hx => by
    obtain ⟨y, hy, rfl⟩ := List.mem_map.1 hx
    obtain ⟨a, b, _⟩ := h.1 y hy
    exact ⟨a, b⟩)
  simpa using this
theorem kl_add {f sq : Int} {n : Nat} {l : List Change} (h : KL f sq n l) {x : Change} (hn : x.node = (n : Int)) (h0 : 0 < n) (hx : KX f sq x) : KL f sq (n + 1) (l ++ [x]) := by
  refine ⟨fun y hy => ?_, ?_⟩
  · rcases List.mem_append.1 hy with hy | hy
    · obtain ⟨a, b, c⟩ := h.1 y hy; exact ⟨a, by omega, c⟩
    · have : y = x := by simpa using hy
      subst this; exact ⟨by omega, by omega, hx⟩
  · rw [List.map_append, List.pairwise_append]
    refine ⟨h.2, by simp, fun a ha b hb => ?_⟩
    obtain ⟨y, hy, rfl⟩ := List.mem_map.1 ha
    have : b = x.node := by simpa using hb
    subst this
    have := (h.1 y hy).2.1
    omega
theorem kl_liar {f sq : Int} (hf : f = 1 ∨ f = 2) {n : Nat} {l : List Change} (h : KL f sq n l) (h0 : 0 < n) {x : Change} (hn : x.node = (n : Int)) (hle : (n : Int) ≤ f) (hm : x.marks.length ≤ 40) (hp : x.p.length ≤ 40) : KL f sq (n + 1) (l ++ [x]) :=
  kl_add h hn h0 ⟨fun h => by omega, fun h => by omega, hm, hp⟩
theorem cpy_lens {y : Change} {i : Nat} {x : Change} (h : (copiedI [y])[i]? = some x) : x.marks.length ≤ 40 ∧ x.p.length ≤ 40 := by
  have hm := List.mem_of_getElem? h
  have : x = cpyI y := by simpa [copiedI] using hm
  subst this
  simp [cpyI]; omega
theorem kl_told {f sq : Int} (hf : f = 1 ∨ f = 2) {n : Nat} {l : List Change} (h : KL f sq n l) (h0 : 0 < n) {p : Past} (hn : ¬ (n : Int) ≤ f) : KL f sq (n + 1) (l ++ [toldI p (n : Int) sq (digI 50) (decide (IntKind.wrap .i64 (2 * f) < (n : Int)))]) := by
  have h2f : IntKind.wrap .i64 (2 * f) = 2 * f := by rcases hf with rfl | rfl <;> rfl
  have hv : 4 ≤ IntKind.wrap .i64 (4 + bringI p.view 3) := by
    have h : 0 ≤ bringI p.view 3 ∧ bringI p.view 3 < 3 := bring_rng p.view (m := 3) (by decide) (by decide)
    rw [IntWalk.i64_in _ (by omega)]; omega
  have hQ : ∀ (kp : Bool) (k : Nat), ∀ y ∈ toldQ p sq kp k, y.view ≤ 4 := by
    intro kp k y hy
    obtain ⟨i, _, rfl⟩ := List.mem_map.1 hy
    unfold toldS
    cases ((((((i : Nat) : Int)) == (((p.proposed.length - 1 : Nat) : Int))) && !kp) && !p.same) <;> simp <;> omega
  rw [h2f]
  refine kl_add h ?_ h0 ⟨fun _ => ?_, fun hk => ?_, ?_, ?_⟩
  · unfold toldI; cases (decide (2 * f < (n : Int)) || p.same) <;> cases p.other <;> rfl
  · unfold toldI
    cases hc : (decide (2 * f < (n : Int)) || p.same) with
    | true =>
      refine ⟨rfl, rfl, fun y hy => ?_⟩
      rcases List.mem_append.1 hy with hy | hy
      · exact .inr (hQ _ _ y hy)
      · have : y = ⟨sq, digI 50, IntKind.wrap .i64 (4 + bringI p.view 3)⟩ := by simpa using hy
        subst this; exact .inl rfl
    | false =>
      cases p.other with
      | true => exact ⟨rfl, rfl, fun y hy => .inr (hQ _ _ y hy)⟩
      | false => exact ⟨rfl, rfl, fun y hy => .inr (hQ _ _ y hy)⟩
  · unfold toldI at hk ⊢
    have hk2 : 2 * f < (n : Int) := by revert hk; cases (decide (2 * f < (n : Int)) || p.same) <;> cases p.other <;> exact fun h => h
    have : decide (2 * f < (n : Int)) = true := decide_eq_true hk2
    rw [this]
    exact ⟨_, hv, rfl⟩
  · unfold toldI; cases (decide (2 * f < (n : Int)) || p.same) <;> cases p.other <;> simp
  · unfold toldI; cases (decide (2 * f < (n : Int)) || p.same) <;> cases p.other <;> simp
theorem kl_sum {β : Type} (g : Change → List β) {f sq : Int} (hf : f = 1 ∨ f = 2) {n : Nat} {l : List Change} (hn : (n : Int) ≤ 3 * f + 2) (h : KL f sq n l) (hg : ∀ x, KX f sq x → (g x).length ≤ 40) : (l.flatMap g).length ≤ 1000000 := by
  have key : ∀ l : List Change, (∀ x ∈ l, KX f sq x) → (l.flatMap g).length ≤ l.length * 40 := by
    intro l
    induction l with
    | nil => simp
    | cons x r ih => intro hx; simp only [List.flatMap_cons, List.length_append, List.length_cons]; have := hg x (hx x (by simp)); have := ih (fun y hy => hx y (by simp [hy])); omega
  have h1 := key l (fun x hx => (h.1 x hx).2.2)
  have h2 := kl_len h
  omega
theorem kl_marks {f sq : Int} (hf : f = 1 ∨ f = 2) {n : Nat} {l : List Change} (hn : (n : Int) ≤ 3 * f + 2) (h : KL f sq n l) : (l.flatMap (·.marks)).length ≤ 1000000 := kl_sum _ hf hn h (fun _ hx => hx.2.2.1)
theorem kl_p {f sq : Int} (hf : f = 1 ∨ f = 2) {n : Nat} {l : List Change} (hn : (n : Int) ≤ 3 * f + 2) (h : KL f sq n l) : (l.flatMap (·.p)).length ≤ 1000000 := kl_sum _ hf hn h (fun _ hx => hx.2.2.2)
theorem kl_bad {f sq : Int} (hf : f = 1 ∨ f = 2) {n : Nat} {l : List Change} (hn : (n : Int) ≤ 3 * f + 2) (h : KL f sq n l) : badB (has (crewI f)) [] l = false := by
  refine (badB_iff _ _ _).2 ⟨fun x hx => ?_, by simp, ?_⟩
  · obtain ⟨a, b, _⟩ := h.1 x hx; exact has_crew hf a (by omega)
  · rw [List.nodup_iff_pairwise_ne]; exact h.2.imp (fun h => by omega)
theorem kl_fails {f sq : Int} (hf : f = 1 ∨ f = 2) {n : Nat} {l : List Change} (hn : (n : Int) ≤ 3 * f + 2) (h : KL f sq n l) (he : ((selI (has (crewI f)) (crewI f) l).2.2 != 0) = true) : selI (has (crewI f)) (crewI f) l = (Mark.mk 0 Dig.zero, [], 210) := by
  rcases sel_struct hf (kl_bad hf hn h) with h1 | ⟨_, _, outs, m, h1, _⟩
  · exact h1
  · rw [h1] at he; simp at he
theorem big {f sq : Int} {n : Nat} {l : List Change} (h : KL f sq n l) {q : Change → Bool} {m : Int} (hm : 0 ≤ m) (hc : m + 1 ≤ ((l.countP q : Nat) : Int)) : ∃ x ∈ l, q x = true ∧ m < x.node := by
  apply Classical.byContradiction
  intro hno
  have hall : ∀ x ∈ l, q x = true → x.node ≤ m := fun x hx hq => by
    rcases Int.lt_or_le m x.node with h | h
    · exact absurd ⟨x, hx, hq, h⟩ hno
    · exact h
  have hlen := pw_len ((l.filter q).map (·.node)) 1 (m + 1) (h.2.sublist (List.filter_sublist.map (fun x : Change => x.node))) (fun x hx => by
    obtain ⟨y, hy, rfl⟩ := List.mem_map.1 hx
    obtain ⟨hy1, hy2⟩ := List.mem_filter.1 hy
    have := hall y hy1 hy2
    have := (h.1 y hy1).1
    omega)
  rw [List.length_map, ← List.countP_eq_length_filter] at hlen
  omega
theorem kl_law {f sq : Int} (hf : f = 1 ∨ f = 2) (hs : 1 ≤ sq ∧ sq ≤ 8) {n : Nat} {l : List Change} (hn : (n : Int) ≤ 3 * f + 2) (h : KL f sq n l) (he : ((selI (has (crewI f)) (crewI f) l).2.2 != 0) = false) :
    (selI (has (crewI f)) (crewI f) l).1 = baseI ∧ (selI (has (crewI f)) (crewI f) l).2.1[sq.toNat - 1]? = some (Mark.mk sq (digI 50)) := by
  obtain ⟨c1, c2, c3⟩ := crew_nums hf
  rcases sel_struct hf (kl_bad hf hn h) with h1 | ⟨_, hlo, outs, m, h1, g1, g2, g3, g4, g5⟩
  · rw [h1] at he; simp at he
  · rw [h1]
    simp only []
    have hmay : lowMayB ⟨most (crewI f), some_ (crewI f), l⟩ (lowI ⟨most (crewI f), some_ (crewI f), l⟩).1 = true := bestG_may (fun x => lowMayB ⟨most (crewI f), some_ (crewI f), l⟩ x) _ _ _ _ (by intro h; cases h) hlo
    rw [lowMayB, Bool.and_eq_true, Bool.and_eq_true, Bool.and_eq_true] at hmay
    have hc := of_decide_eq_true hmay.2.2.2
    simp only [cnt] at hc
    obtain ⟨x, hx, hq, hnode⟩ := big h (q := fun x => low12B (lowI ⟨most (crewI f), some_ (crewI f), l⟩).1 x) (m := f) (by omega) (by
      have h0 : f + 1 ≤ some_ (crewI f) := by omega
      exact Int.le_trans h0 hc)
    have hbase : (lowI ⟨most (crewI f), some_ (crewI f), l⟩).1 = baseI := by
      rw [low12B_eq, ((h.1 x hx).2.2.1 hnode).2.1] at hq
      simp at hq
      exact hq.symm
    refine ⟨hbase, ?_⟩
    rw [hbase] at g2
    have hb0 : baseI.seq = 0 := rfl
    rw [hb0] at g2
    have hlt : sq.toNat - 1 < outs.length := by omega
    obtain ⟨e1, e2⟩ := g2 (sq.toNat - 1) outs[sq.toNat - 1] (List.getElem?_eq_getElem hlt)
    have hk : (0 : Int) + 1 + ((sq.toNat - 1 : Nat) : Int) = sq := by omega
    rw [hk] at e1 e2
    -- what is picked there
    have hat : (atI ⟨most (crewI f), some_ (crewI f), l⟩ sq).1 = Mark.mk sq (digI 50) := by
      unfold atI at e2 ⊢
      cases hb : (atB ⟨most (crewI f), some_ (crewI f), l⟩ sq).2 with
      | false =>
        rw [hb] at e2
        simp only [cond_false] at e2
        have e2 := of_decide_eq_true e2
        simp only [cnt] at e2
        obtain ⟨x, hx, hq, hnode⟩ := big h (q := fun x => at3B sq x) (m := 2 * f) (by omega) (by
          have h0 : 2 * f + 1 ≤ most (crewI f) := by omega
          exact Int.le_trans h0 e2)
        obtain ⟨v, _, hp⟩ := (h.1 x hx).2.2.2.1 hnode
        simp only [at3B, hp] at hq
        simp at hq
      | true =>
        simp only [cond_true]
        have hm : at1B sq ⟨most (crewI f), some_ (crewI f), l⟩ (atB ⟨most (crewI f), some_ (crewI f), l⟩ sq).1 = true := bestG_may (fun x => at1B sq ⟨most (crewI f), some_ (crewI f), l⟩ x) _ _ _ _ (by intro h; cases h) hb
        revert hm
        generalize (atB ⟨most (crewI f), some_ (crewI f), l⟩ sq).1 = s
        intro hm
        rw [at1B, Bool.and_eq_true, standsB, Bool.and_eq_true] at hm
        obtain ⟨m1, m2, m3⟩ := hm
        have m1 : s.seq = sq := by simpa using m1
        have m2 := of_decide_eq_true m2
        have m3 := of_decide_eq_true m3
        simp only [cnt] at m2 m3
        obtain ⟨x, hx, hq, hnode⟩ := big h (q := fun x => st1B s x) (m := 2 * f) (by omega) (by
          have h0 : 2 * f + 1 ≤ most (crewI f) := by omega
          exact Int.le_trans h0 m2)
        obtain ⟨v, hv, hp⟩ := (h.1 x hx).2.2.2.1 hnode
        simp only [st1B, hp, List.any_cons, List.any_nil, Bool.or_false, st11B, m1, beq_self_eq_true, Bool.true_and, Bool.and_eq_true, Bool.not_eq_true', Bool.and_eq_false_iff, decide_eq_false_iff_not, Bool.not_eq_false', decide_eq_true_eq] at hq
        have hd : s.dig = digI 50 := by
          rcases hq.2 with hq | hq
          · obtain ⟨x', hx', hq', hnode'⟩ := big h (q := fun x => st2B s x) (m := f) (by omega) (by
              have h0 : f + 1 ≤ some_ (crewI f) := by omega
              exact Int.le_trans h0 m3)
            simp only [st2B, List.any_eq_true, st21B, Bool.and_eq_true, decide_eq_true_eq] at hq'
            obtain ⟨y, hy, _, hy2, hy3⟩ := hq'
            rcases ((h.1 x' hx').2.2.1 hnode').2.2 y hy with hy4 | hy4
            · rw [← hy2, hy4]
            · omega
          · rw [← hq]
        rw [hd]
    rw [hat] at e1
    have hmlt : sq.toNat - 1 < m := by
      rcases Nat.lt_or_ge (sq.toNat - 1) m with h | h
      · exact h
      · have := g5 (sq.toNat - 1) outs[sq.toNat - 1] (List.getElem?_eq_getElem hlt) h
        rw [e1] at this
        have this : digI 50 = Dig.zero := this
        exact absurd this (by decide)
    rw [List.getElem?_take, if_pos hmlt, List.getElem?_eq_getElem hlt, e1]
theorem ar41 : arrOk Try.prog 41 3 3 1 = true := by kernel_rfl
theorem zero46 : (Try.prog.info? 46).bind (fun i => i.zero.map Value.cells) = some ([(.bool false), (.bool false), (.int .u8 0), (.int .i64 0), (.slice none 0 0)] : List Value).toArray := by kernel_rfl
theorem isl40 : isSlice Try.prog 40 = true := by kernel_rfl
theorem row46 : rowOk Try.prog 46 5 = true := by kernel_rfl
theorem co17 : callOk Try.prog 17 = true := by kernel_rfl
theorem isl39 : isSlice Try.prog 39 = true := by kernel_rfl
theorem slo39 : sliceOk Try.prog 39 53 6 = true := by kernel_rfl
theorem fo53_0 : fieldOk Try.prog 53 0 0 = true := by kernel_rfl
theorem slo40 : sliceOk Try.prog 40 46 5 = true := by kernel_rfl
theorem sz46 : (Try.prog.info? 46).map (·.size) = some 5 := by kernel_rfl
set_option maxHeartbeats 4000000 in
theorem keeps_ret (G0 : Gh) (w0 : World) (hw : Holds G0 w0) (vlies : Value) (lies : List Liar) (hlies : Sl G0 vlies lies) (vpasts : Value) (pasts : List Past) (hpasts : Sl G0 vpasts pasts) (how : A3) :
  RetS Try.prog 4 #[vlies, vpasts, .agg how.cells.toArray] G0 w0 (.bool true) := by
 have hC := Cx.refl hw
 have hB : Bxs G0 w0 w0.heap.size [] := Bxs.nil _ _ _
 obtain ⟨A1, cap2, rfl⟩ := hlies.form
 obtain ⟨A3, cap4, rfl⟩ := hpasts.form
 have h12 := f12 how.x0
 refine callsOf Try.func4 rfl _ Try.ntmps4 rfl _ (argsCons (argsCons (argsCons argsNil (t := 0) rfl) (t := 1) rfl) (t := 2) rfl) ?_; intro Q0 hQ
 refine wcSeq (wcRegion ?_)
 refine wlBox (cs := how.cells) hC hB rfl rfl rfl ?_; intro b5 w hk hC hB
 refine wlVal (opAssign rfl) rfl ?_
 refine wlThen (wcSeq (wcRegion ?_))
 refine wlVal (opIndexArr (i := 0) rfl rfl ar41 (by decide)) rfl ?_
 refine wlVal (opLoadOne (v := (.int .i64 how.x0)) rfl (hB.cell (i := 0) rfl rfl) one3) rfl ?_
 refine wlCallS hC hB rfl co15 rfl rfl (bring_ret _ _ hC.holds how.x0 2) ?_; intro w hk hC hB
 refine wlVal (opAdd rfl rfl) rfl ?_
 refine wlVal (opAssign rfl) rfl ?_
 refine wlThen (wcSeq (wcRegion ?_))
 refine wlVal (opIndexArr (i := 1) rfl rfl ar41 (by decide)) rfl ?_
 refine wlVal (opLoadOne (v := (.int .i64 how.x1)) rfl (hB.cell (i := 0) rfl rfl) one3) rfl ?_
 refine wlCallS hC hB rfl co15 rfl rfl (bring_ret _ _ hC.holds how.x1 8) ?_; intro w hk hC hB
 refine wlVal (opAdd rfl rfl) rfl ?_
 refine wlVal (opAssign rfl) rfl ?_
 refine wlThen (wcSeq (wcRegion ?_))
 refine wlCallS hC hB rfl co16 rfl rfl (digest_ret _ _ hC.holds ((50 : UInt8))) ?_; intro w hk hC hB
 refine wlAlloc hC hB zero28 rfl ?_; intro b6 w hk hC hB
 refine wlStore 0 (vs := ((digI ((50 : UInt8)))).cells) (cs := Dig.zero.cells) (cs' := ((digI ((50 : UInt8)))).cells) hC hB rfl rfl rfl sz28 rfl (by simp [Mark.cells, Stand.cells]) (by simp [Mark.cells, Stand.cells, Value.oneCell']) (by simp [Mark.cells, Stand.cells]) (by simp [Mark.cells, Stand.cells]) rfl ?_; intro w hC hB
 refine wlThen (wcSeq (wcRegion ?_))
 refine wlVal (opAssign rfl) rfl ?_
 refine wlThen (wcSeq (wcSeq (wcRegion ?_)))
 refine wlVal (opAssign rfl) rfl ?_
 refine wlThen ?_
 refine wcBlock ?_
 refine WC.sub (wrInd (ι := Nat × (Option Addr) × Nat × (Option Bx) × (List Change)) (fun i => match i with | (n, lsA, lsC, lsO, ls) => 9 - n) (fun i G w => match i with | (n, lsA, lsC, lsO, ls) => Cx w0 G0 G w ∧ Bxs G w w0.heap.size ([(b6, 28, ((digI ((50 : UInt8)))).cells), (b5, 41, how.cells)] ++ (Option.toList lsO ++ [])) ∧ Sl G (.slice A1 lies.length cap2) lies ∧ Sl G (.slice A3 pasts.length cap4) pasts ∧ Ow G lsO 49 (.slice lsA ls.length lsC) ls ∧ 0 < n ∧ (n : Int) ≤ 3 * (IntKind.wrap .i64 (1 + (bringI how.x0 2))) + 2 ∧ KL (IntKind.wrap .i64 (1 + (bringI how.x0 2))) (IntKind.wrap .i64 (1 + (bringI how.x1 8))) n ls) (fun i => match i with | (n, lsA, lsC, lsO, ls) => ((((((((Env.nil.put 0 (.slice A1 lies.length cap2)).put 1 (.slice A3 pasts.length cap4)).put 5 (.pointer (some ⟨b5, 0, none⟩))).put 7 (.int .i64 (IntKind.wrap .i64 (1 + ((bringI how.x0 2)))))).put 8 (.int .i64 (IntKind.wrap .i64 (1 + ((bringI how.x1 8)))))).put 9 (.pointer (some ⟨b6, 0, none⟩))).put 10 (.slice lsA ls.length lsC)).put 11 (.int .i64 (((n : Nat) : Int))))) ?_ (1, none, 0, none, []) _ _ ⟨hC, hB, hlies, hpasts, (Ow.nil_ _ 49), (by decide), (by have := h12; omega), (kl_nil _ _)⟩) (fun _ ha => ((((((((ha.start.cons ha (t := 0) rfl).cons ha (t := 1) rfl).cons ha (t := 5) rfl).cons ha (t := 7) rfl).cons ha (t := 8) rfl).cons ha (t := 9) rfl).cons ha (t := 10) rfl).cons ha (t := 11) rfl))
 rintro ⟨n, lsA, lsC, lsO, ls⟩ G w N0 IH0 ⟨hC, hB, hlies, hpasts, hOls, hn1, hn8, hI⟩
 show WC _ _ _ _ ((((((((Env.nil.put 0 (.slice A1 lies.length cap2)).put 1 (.slice A3 pasts.length cap4)).put 5 (.pointer (some ⟨b5, 0, none⟩))).put 7 (.int .i64 (IntKind.wrap .i64 (1 + ((bringI how.x0 2)))))).put 8 (.int .i64 (IntKind.wrap .i64 (1 + ((bringI how.x1 8)))))).put 9 (.pointer (some ⟨b6, 0, none⟩))).put 10 (.slice lsA ls.length lsC)).put 11 (.int .i64 (((n : Nat) : Int)))) w
 refine wcSeq (wcSeq (wcRegion ?_))
 refine wlVal (opMove rfl) rfl ?_
 refine wlVal (opMove rfl) rfl ?_
 refine wlVal (opMul rfl rfl) rfl ?_
 refine wlVal (opAdd rfl rfl) rfl ?_
 refine wlVal (opLeq rfl rfl) rfl ?_
 refine wlThen ?_
 cases h7 : decide (((n : Nat) : Int) ≤ IntKind.wrap .i64 (IntKind.wrap .i64 (3 * IntKind.wrap .i64 (1 + ((bringI how.x0 2)))) + 1))
 ·
  skip
  refine wcCondF rfl ?_
  refine wcExit ?_
  refine wcOf ?_
  refine wcSeq (wcRegion ?_)
  refine wlVal (opMove rfl) rfl ?_
  refine wlCallG hC hB rfl co19 rfl rfl (crewOf_ret _ _ hC.holds (IntKind.wrap .i64 (1 + ((bringI how.x0 2)))) h12) ?_; rintro v10 G w hk hC hB ⟨r8, rfl, hr9⟩
  replace hlies := hlies.mono hk.gle; replace hpasts := hpasts.mono hk.gle; replace hOls := hOls.mono hk.gle
  obtain ⟨v11, rfl, hs12⟩ := Crew.opIs hr9
  obtain ⟨A13, cap14, rfl⟩ := hs12.form
  refine wlVal (opMove rfl) rfl ?_
  obtain ⟨G, hg16, hC, hB, hs15⟩ := Ow.freeze' (bl := [(b6, 28, ((digI ((50 : UInt8)))).cells), (b5, 41, how.cells)]) (r := []) hOls hC (Nat.le_refl _) hB (by have q1 := kl_len hI; have q2 := h12; unfold maxL; omega)
  replace hlies := hlies.mono hg16; replace hpasts := hpasts.mono hg16; replace hs12 := hs12.mono hg16
  refine wlCallO (bl := [(b6, 28, ((digI ((50 : UInt8)))).cells), (b5, 41, how.cells)]) (r := []) hC hB rfl co10 rfl rfl (select_ret _ _ hC.holds _ (((crewI (IntKind.wrap .i64 (1 + ((bringI how.x0 2))))))) (Crew.mkIs (x := ((crewI (IntKind.wrap .i64 (1 + ((bringI how.x0 2))))))) hs12) _ ls hs15 (kl_marks h12 hn8 hI) (kl_p h12 hn8 hI)) ?_; rintro v21 G o19 w hk hC hB ⟨A17, cap18, rfl, hO20⟩
  replace hlies := hlies.mono hk.gle; replace hpasts := hpasts.mono hk.gle
  refine wlVal (opMove rfl) rfl ?_
  refine wlVal (opExtract rfl rfl) rfl ?_
  refine wlVal (opExtract rfl rfl) rfl ?_
  refine wlVal (opExtract rfl rfl) rfl ?_
  refine wlAlloc hC hB zero30 rfl ?_; intro b22 w hk hC hB
  replace hB : Bxs G w w0.heap.size ([(b22, 30, ((.int .i64 0) :: (Dig.zero.cells ++ []))), (b6, 28, ((digI ((50 : UInt8)))).cells), (b5, 41, how.cells)] ++ (Option.toList o19 ++ [])) := hB
  refine wlStore 0 (vs := (((selI (has (((crewI (IntKind.wrap .i64 (1 + ((bringI how.x0 2)))))))) (((crewI (IntKind.wrap .i64 (1 + ((bringI how.x0 2))))))) ls).1)).cells) (cs := ((.int .i64 0) :: (Dig.zero.cells ++ []))) (cs' := (((selI (has (((crewI (IntKind.wrap .i64 (1 + ((bringI how.x0 2)))))))) (((crewI (IntKind.wrap .i64 (1 + ((bringI how.x0 2))))))) ls).1)).cells) hC hB rfl rfl rfl sz30 rfl (by simp [Mark.cells, Stand.cells]) (by simp [Mark.cells, Stand.cells, Value.oneCell']) (by simp [Mark.cells, Stand.cells]) (by simp [Mark.cells, Stand.cells]) rfl ?_; intro w hC hB
  replace hB : Bxs G w w0.heap.size ([(b22, 30, (((selI (has (((crewI (IntKind.wrap .i64 (1 + ((bringI how.x0 2)))))))) (((crewI (IntKind.wrap .i64 (1 + ((bringI how.x0 2))))))) ls).1)).cells), (b6, 28, ((digI ((50 : UInt8)))).cells), (b5, 41, how.cells)] ++ (Option.toList o19 ++ [])) := hB
  refine wlVal (opAssign rfl) rfl ?_
  refine wlVal (opAssign rfl) rfl ?_
  refine wlThen (wcSeq (wcSeq (wcRegion ?_)))
  refine wlVal (opMove rfl) rfl ?_
  refine wlVal (opNeq rfl rfl) rfl ?_
  refine wlThen ?_
  cases h23 : (((selI (has (((crewI (IntKind.wrap .i64 (1 + ((bringI how.x0 2)))))))) (((crewI (IntKind.wrap .i64 (1 + ((bringI how.x0 2))))))) ls).2.2)) != 0
  ·
   skip
   refine wcCondF rfl ?_
   refine wcSkip ?_
   refine wcOf ?_
   refine wcSeq (wcSeq ?_)
   refine wcDraw fmix (by kernel_rfl) (by kernel_rfl) (vAt [(fun _ v_ => v_ = (.agg (((selI (has (((crewI (IntKind.wrap .i64 (1 + ((bringI how.x0 2)))))))) (((crewI (IntKind.wrap .i64 (1 + ((bringI how.x0 2))))))) ls).1)).cells.toArray)), (fun _ v_ => v_ = (.agg baseI.cells.toArray)), (fun _ v_ => v_ = (.bool (!(decide (((selI (has (((crewI (IntKind.wrap .i64 (1 + ((bringI how.x0 2)))))))) (((crewI (IntKind.wrap .i64 (1 + ((bringI how.x0 2))))))) ls).1) = baseI)))))]) (fun _ _ G' w => Cx w0 G0 G' w ∧ Bxs G' w w0.heap.size ([(b22, 30, (((selI (has (((crewI (IntKind.wrap .i64 (1 + ((bringI how.x0 2)))))))) (((crewI (IntKind.wrap .i64 (1 + ((bringI how.x0 2))))))) ls).1)).cells), (b6, 28, ((digI ((50 : UInt8)))).cells), (b5, 41, how.cells)] ++ (Option.toList o19 ++ [])) ∧ GLe G G') G (vAt_mono ⟨fun _ _ _ _ h => h, fun _ _ _ _ h => h, fun _ _ _ _ h => h, trivial⟩) (fun _ _ => ⟨hC.drew, hB.drew, fun _ _ h => h⟩) ?_ ?_
   ·
    refine dsNone (j := 1) rfl ?_ ?_
    ·
     intro done G w ac_ hd hp hn ⟨hC, hB, hg⟩ hM
     have f14 : ac_.tmps[14]? = some (.pointer (some ⟨b22, 0, none⟩)) := hM.old0 rfl rfl
     have hF := (hM.fr.add f14)
     exact OpVal.draw hF (opLoadRow (cs := (((selI (has (((crewI (IntKind.wrap .i64 (1 + ((bringI how.x0 2)))))))) (((crewI (IntKind.wrap .i64 (1 + ((bringI how.x0 2))))))) ls).1)).cells) rfl (hB.range (i := 0) (m := 33) rfl (by simp [Mark.cells, Stand.cells])) row30 (by simp [Mark.cells, Stand.cells])) ⟨G, fun _ _ h => h, ⟨hC, hB, hg⟩, rfl⟩
    refine dsNone (j := 2) rfl ?_ ?_
    ·
     intro done G w ac_ hd hp hn ⟨hC, hB, hg⟩ hM
     have hF := hM.fr
     exact drawCallS hF rfl co20 rfl (base_ret _ _ hC.holds ) (fun w' hk => ⟨G, fun _ _ h => h, ⟨hC.trans hk, hB.ext hk, hg⟩, rfl⟩)
    refine dsNone (j := 3) rfl ?_ ?_
    ·
     intro done G w ac_ hd hp hn ⟨hC, hB, hg⟩ hM
     have f99 := hM.eqv (s := 99) 0 rfl (hp 0 rfl) rfl rfl
     have f100 := hM.eqv (s := 100) 1 rfl (hp 1 rfl) rfl rfl
     have hF := ((hM.fr.add f99).add f100)
     exact OpVal.draw hF (opNeRow (eq30 _ (((selI (has (((crewI (IntKind.wrap .i64 (1 + ((bringI how.x0 2)))))))) (((crewI (IntKind.wrap .i64 (1 + ((bringI how.x0 2))))))) ls).1)) baseI) eg30 rfl rfl) ⟨G, fun _ _ h => h, ⟨hC, hB, hg⟩, rfl⟩
    exact dsNil
   ·
    intro done G w ac_ hall ⟨hC, hB, hg⟩ hM
    replace hlies := hlies.mono hg
    replace hpasts := hpasts.mono hg
    replace hO20 := hO20.mono hg
    have f8 : ac_.tmps[8]? = some (.int .i64 (IntKind.wrap .i64 (1 + ((bringI how.x1 8))))) := hM.old0 rfl rfl
    have f9 : ac_.tmps[9]? = some (.pointer (some ⟨b6, 0, none⟩)) := hM.old0 rfl rfl
    have f15 : ac_.tmps[15]? = some (.slice A17 ((((selI (has (((crewI (IntKind.wrap .i64 (1 + ((bringI how.x0 2)))))))) (((crewI (IntKind.wrap .i64 (1 + ((bringI how.x0 2))))))) ls).2.1)).length) cap18) := hM.old0 rfl rfl
    have f101 := hM.eqv (s := 101) 2 rfl (hall 2 (by decide)) rfl rfl
    refine ⟨((((Env.nil.put 8 (.int .i64 (IntKind.wrap .i64 (1 + ((bringI how.x1 8)))))).put 9 (.pointer (some ⟨b6, 0, none⟩))).put 15 (.slice A17 ((((selI (has (((crewI (IntKind.wrap .i64 (1 + ((bringI how.x0 2)))))))) (((crewI (IntKind.wrap .i64 (1 + ((bringI how.x0 2))))))) ls).2.1)).length) cap18)).put 101 (.bool (!(decide (((selI (has (((crewI (IntKind.wrap .i64 (1 + ((bringI how.x0 2)))))))) (((crewI (IntKind.wrap .i64 (1 + ((bringI how.x0 2))))))) ls).1) = baseI))))), ((((hM.fr.add f8).add f9).add f15).add f101), ?_⟩
    clear hM hall
    refine wcOf ?_
    cases h24 : decide (((selI (has (((crewI (IntKind.wrap .i64 (1 + ((bringI how.x0 2)))))))) (((crewI (IntKind.wrap .i64 (1 + ((bringI how.x0 2))))))) ls).1) = baseI)
    ·
     skip
     refine wcCondT rfl ?_
     refine wcSeq (wcRegion ?_)
     refine wlVal (opAssign rfl) rfl ?_
     refine wlThen ?_
     refine wcRet ?_
     exact fun ac_ ha => hQ _ _ _ (results1 ha rfl rfl) ha.df (endS hC hw (by have hK := kl_law h12 (sq_rng how.x1) hn8 hI h23; exact absurd hK.1 (of_decide_eq_false h24)))
    ·
     skip
     refine wcCondF rfl ?_
     refine wcSkip ?_
     refine wcOf ?_
     refine wcSeq ?_
     cases h25 : decide (IntKind.wrap .i64 (1 + ((bringI how.x1 8))) ≤ (((((selI (has (((crewI (IntKind.wrap .i64 (1 + ((bringI how.x0 2)))))))) (((crewI (IntKind.wrap .i64 (1 + ((bringI how.x0 2))))))) ls).2.1)).length : Nat) : Int))
     ·
      skip
      refine wcDraw fmix (by kernel_rfl) (by kernel_rfl) (vAt [(fun _ v_ => v_ = (.slice A17 ((((selI (has (((crewI (IntKind.wrap .i64 (1 + ((bringI how.x0 2)))))))) (((crewI (IntKind.wrap .i64 (1 + ((bringI how.x0 2))))))) ls).2.1)).length) cap18)), (fun _ v_ => v_ = (.int .i64 ((((((selI (has (((crewI (IntKind.wrap .i64 (1 + ((bringI how.x0 2)))))))) (((crewI (IntKind.wrap .i64 (1 + ((bringI how.x0 2))))))) ls).2.1)).length : Nat) : Int)))), (fun _ v_ => v_ = (.int .i64 (IntKind.wrap .i64 (1 + ((bringI how.x1 8)))))), (fun _ v_ => v_ = (.bool false)), (fun _ v_ => v_ = (.bool false)), (fun _ v_ => v_ = undef), (fun _ v_ => v_ = undef), (fun _ v_ => v_ = undef), (fun _ v_ => v_ = undef), (fun _ v_ => v_ = undef), (fun _ v_ => v_ = undef), (fun _ v_ => v_ = undef), (fun _ v_ => v_ = undef), (fun _ v_ => v_ = undef), (fun _ v_ => v_ = (.bool false)), (fun _ v_ => v_ = (.bool false)), (fun _ v_ => v_ = undef), (fun _ v_ => v_ = (.bool false)), (fun _ v_ => v_ = (.bool false))]) (fun _ _ G' w => Cx w0 G0 G' w ∧ Bxs G' w w0.heap.size ([(b22, 30, (((selI (has (((crewI (IntKind.wrap .i64 (1 + ((bringI how.x0 2)))))))) (((crewI (IntKind.wrap .i64 (1 + ((bringI how.x0 2))))))) ls).1)).cells), (b6, 28, ((digI ((50 : UInt8)))).cells), (b5, 41, how.cells)] ++ (Option.toList o19 ++ [])) ∧ GLe G G') G (vAt_mono ⟨fun _ _ _ _ h => h, fun _ _ _ _ h => h, fun _ _ _ _ h => h, fun _ _ _ _ h => h, fun _ _ _ _ h => h, fun _ _ _ _ h => h, fun _ _ _ _ h => h, fun _ _ _ _ h => h, fun _ _ _ _ h => h, fun _ _ _ _ h => h, fun _ _ _ _ h => h, fun _ _ _ _ h => h, fun _ _ _ _ h => h, fun _ _ _ _ h => h, fun _ _ _ _ h => h, fun _ _ _ _ h => h, fun _ _ _ _ h => h, fun _ _ _ _ h => h, fun _ _ _ _ h => h, trivial⟩) (fun _ _ => ⟨hC.drew, hB.drew, fun _ _ h => h⟩) ?_ ?_
      ·
       refine dsNone (j := 1) rfl ?_ ?_
       ·
        intro done G w ac_ hd hp hn ⟨hC, hB, hg⟩ hM
        have f15 : ac_.tmps[15]? = some (.slice A17 ((((selI (has (((crewI (IntKind.wrap .i64 (1 + ((bringI how.x0 2)))))))) (((crewI (IntKind.wrap .i64 (1 + ((bringI how.x0 2))))))) ls).2.1)).length) cap18) := hM.old0 rfl rfl
        have hF := (hM.fr.add f15)
        exact OpVal.draw hF (opMove rfl) ⟨G, fun _ _ h => h, ⟨hC, hB, hg⟩, rfl⟩
       refine dsNone (j := 2) rfl ?_ ?_
       ·
        intro done G w ac_ hd hp hn ⟨hC, hB, hg⟩ hM
        have f102 := hM.eqv (s := 102) 0 rfl (hp 0 rfl) rfl rfl
        have hF := (hM.fr.add f102)
        exact OpVal.draw hF (opLen rfl isl31) ⟨G, fun _ _ h => h, ⟨hC, hB, hg⟩, rfl⟩
       refine dsNone (j := 3) rfl ?_ ?_
       ·
        intro done G w ac_ hd hp hn ⟨hC, hB, hg⟩ hM
        have f8 : ac_.tmps[8]? = some (.int .i64 (IntKind.wrap .i64 (1 + ((bringI how.x1 8))))) := hM.old0 rfl rfl
        have hF := (hM.fr.add f8)
        exact OpVal.draw hF (opMove rfl) ⟨G, fun _ _ h => h, ⟨hC, hB, hg⟩, rfl⟩
       refine dsNone (j := 4) rfl ?_ ?_
       ·
        intro done G w ac_ hd hp hn ⟨hC, hB, hg⟩ hM
        have f103 := hM.eqv (s := 103) 1 rfl (hp 1 rfl) rfl rfl
        have f104 := hM.eqv (s := 104) 2 rfl (hp 2 rfl) rfl rfl
        have hF := ((hM.fr.add f103).add f104)
        exact OpVal.draw hF (OpVal.cast (opGeq rfl rfl) (congrArg Value.bool h25)) ⟨G, fun _ _ h => h, ⟨hC, hB, hg⟩, rfl⟩
       refine dsNone (j := 5) rfl ?_ ?_
       ·
        intro done G w ac_ hd hp hn ⟨hC, hB, hg⟩ hM
        have f105 := hM.eqv (s := 105) 3 rfl (hp 3 rfl) rfl rfl
        have hF := (hM.fr.add f105)
        exact OpVal.draw hF (opMove rfl) ⟨G, fun _ _ h => h, ⟨hC, hB, hg⟩, rfl⟩
       refine dsOff (j := 6) (b' := false) rfl rfl rfl ?_ ?_
       ·
        intro done G w ac_ hd hp hn ⟨hC, hB, hg⟩ hM
        have f106 := hM.eqv (s := 106) 4 rfl (hp 4 rfl) rfl rfl
        exact ⟨f106, ⟨hC, hB, hg⟩, rfl⟩
       refine dsOff (j := 7) (b' := false) rfl rfl rfl ?_ ?_
       ·
        intro done G w ac_ hd hp hn ⟨hC, hB, hg⟩ hM
        have f106 := hM.eqv (s := 106) 4 rfl (hp 4 rfl) rfl rfl
        exact ⟨f106, ⟨hC, hB, hg⟩, rfl⟩
       refine dsOff (j := 8) (b' := false) rfl rfl rfl ?_ ?_
       ·
        intro done G w ac_ hd hp hn ⟨hC, hB, hg⟩ hM
        have f106 := hM.eqv (s := 106) 4 rfl (hp 4 rfl) rfl rfl
        exact ⟨f106, ⟨hC, hB, hg⟩, rfl⟩
       refine dsOff (j := 9) (b' := false) rfl rfl rfl ?_ ?_
       ·
        intro done G w ac_ hd hp hn ⟨hC, hB, hg⟩ hM
        have f106 := hM.eqv (s := 106) 4 rfl (hp 4 rfl) rfl rfl
        exact ⟨f106, ⟨hC, hB, hg⟩, rfl⟩
       refine dsOff (j := 10) (b' := false) rfl rfl rfl ?_ ?_
       ·
        intro done G w ac_ hd hp hn ⟨hC, hB, hg⟩ hM
        have f106 := hM.eqv (s := 106) 4 rfl (hp 4 rfl) rfl rfl
        exact ⟨f106, ⟨hC, hB, hg⟩, rfl⟩
       refine dsOff (j := 11) (b' := false) rfl rfl rfl ?_ ?_
       ·
        intro done G w ac_ hd hp hn ⟨hC, hB, hg⟩ hM
        have f106 := hM.eqv (s := 106) 4 rfl (hp 4 rfl) rfl rfl
        exact ⟨f106, ⟨hC, hB, hg⟩, rfl⟩
       refine dsOff (j := 12) (b' := false) rfl rfl rfl ?_ ?_
       ·
        intro done G w ac_ hd hp hn ⟨hC, hB, hg⟩ hM
        have f106 := hM.eqv (s := 106) 4 rfl (hp 4 rfl) rfl rfl
        exact ⟨f106, ⟨hC, hB, hg⟩, rfl⟩
       refine dsOff (j := 13) (b' := false) rfl rfl rfl ?_ ?_
       ·
        intro done G w ac_ hd hp hn ⟨hC, hB, hg⟩ hM
        have f106 := hM.eqv (s := 106) 4 rfl (hp 4 rfl) rfl rfl
        exact ⟨f106, ⟨hC, hB, hg⟩, rfl⟩
       refine dsOff (j := 14) (b' := false) rfl rfl rfl ?_ ?_
       ·
        intro done G w ac_ hd hp hn ⟨hC, hB, hg⟩ hM
        have f106 := hM.eqv (s := 106) 4 rfl (hp 4 rfl) rfl rfl
        exact ⟨f106, ⟨hC, hB, hg⟩, rfl⟩
       refine dsNone (j := 15) rfl ?_ ?_
       ·
        intro done G w ac_ hd hp hn ⟨hC, hB, hg⟩ hM
        have f106 := hM.eqv (s := 106) 4 rfl (hp 4 rfl) rfl rfl
        have f115 := hM.eqv (s := 115) 13 rfl (hp 13 rfl) rfl rfl
        have hF := ((hM.fr.add f106).add f115)
        exact OpVal.draw hF (opPickF rfl rfl) ⟨G, fun _ _ h => h, ⟨hC, hB, hg⟩, rfl⟩
       refine dsNone (j := 16) rfl ?_ ?_
       ·
        intro done G w ac_ hd hp hn ⟨hC, hB, hg⟩ hM
        have f116 := hM.eqv (s := 116) 14 rfl (hp 14 rfl) rfl rfl
        have hF := (hM.fr.add f116)
        exact OpVal.draw hF (opMove rfl) ⟨G, fun _ _ h => h, ⟨hC, hB, hg⟩, rfl⟩
       refine dsOff (j := 17) (b' := false) rfl rfl rfl ?_ ?_
       ·
        intro done G w ac_ hd hp hn ⟨hC, hB, hg⟩ hM
        have f117 := hM.eqv (s := 117) 15 rfl (hp 15 rfl) rfl rfl
        exact ⟨f117, ⟨hC, hB, hg⟩, rfl⟩
       refine dsNone (j := 18) rfl ?_ ?_
       ·
        intro done G w ac_ hd hp hn ⟨hC, hB, hg⟩ hM
        have f117 := hM.eqv (s := 117) 15 rfl (hp 15 rfl) rfl rfl
        have f118 := hM.eqv (s := 118) 16 rfl (hp 16 rfl) rfl rfl
        have hF := ((hM.fr.add f117).add f118)
        exact OpVal.draw hF (opPickF rfl rfl) ⟨G, fun _ _ h => h, ⟨hC, hB, hg⟩, rfl⟩
       refine dsNone (j := 19) rfl ?_ ?_
       ·
        intro done G w ac_ hd hp hn ⟨hC, hB, hg⟩ hM
        have f119 := hM.eqv (s := 119) 17 rfl (hp 17 rfl) rfl rfl
        have hF := (hM.fr.add f119)
        exact OpVal.draw hF (opAssign rfl) ⟨G, fun _ _ h => h, ⟨hC, hB, hg⟩, rfl⟩
       exact dsNil
      ·
       intro done G w ac_ hall ⟨hC, hB, hg⟩ hM
       replace hlies := hlies.mono hg
       replace hpasts := hpasts.mono hg
       replace hO20 := hO20.mono hg
       have f6 := hM.eqv (s := 6) 18 rfl (hall 18 (by decide)) rfl rfl
       refine ⟨(Env.nil.put 6 (.bool false)), (hM.fr.add f6), ?_⟩
       clear hM hall
       refine wcOf ?_
       refine wcRet ?_
       exact fun ac_ ha => hQ _ _ _ (results1 ha rfl rfl) ha.df (endS hC hw (by have hK := kl_law h12 (sq_rng how.x1) hn8 hI h23; have q := of_decide_eq_false h25; have q2 := (List.getElem?_eq_some_iff.1 hK.2).1; omega))
     ·
      skip
      obtain ⟨G, hg27, hC, hB, hs26⟩ := Ow.freeze' (bl := [(b22, 30, (((selI (has (((crewI (IntKind.wrap .i64 (1 + ((bringI how.x0 2)))))))) (((crewI (IntKind.wrap .i64 (1 + ((bringI how.x0 2))))))) ls).1)).cells), (b6, 28, ((digI ((50 : UInt8)))).cells), (b5, 41, how.cells)]) (r := []) hO20 hC (Nat.le_refl _) hB (Nat.le_trans (selI_len _ _ _) (by decide))
      replace hlies := hlies.mono hg27; replace hpasts := hpasts.mono hg27
      obtain ⟨x28, hx29⟩ : ∃ y_, (((selI (has (((crewI (IntKind.wrap .i64 (1 + ((bringI how.x0 2)))))))) (((crewI (IntKind.wrap .i64 (1 + ((bringI how.x0 2))))))) ls).2.1))[((IntKind.wrap .i64 (1 + (bringI how.x1 8))).toNat - 1)]? = some y_ := ⟨_, List.getElem?_eq_getElem (by have q := of_decide_eq_true h25; have q2 := sq_rng how.x1; omega)⟩
      obtain ⟨b30, o31, row32, hA35, hr33, hi34⟩ := hs26.elem hx29; subst hA35
      obtain rfl := hi34
      cases h36 : decide (x28 = (Mark.mk (IntKind.wrap .i64 (1 + ((bringI how.x1 8)))) ((digI ((50 : UInt8))))))
      ·
       skip
       refine wcDraw fmix (by kernel_rfl) (by kernel_rfl) (vAt [(fun _ v_ => v_ = (.slice (some ⟨b30, o31, none⟩) ((((selI (has (((crewI (IntKind.wrap .i64 (1 + ((bringI how.x0 2)))))))) (((crewI (IntKind.wrap .i64 (1 + ((bringI how.x0 2))))))) ls).2.1)).length) cap18)), (fun _ v_ => v_ = (.int .i64 ((((((selI (has (((crewI (IntKind.wrap .i64 (1 + ((bringI how.x0 2)))))))) (((crewI (IntKind.wrap .i64 (1 + ((bringI how.x0 2))))))) ls).2.1)).length : Nat) : Int)))), (fun _ v_ => v_ = (.int .i64 (IntKind.wrap .i64 (1 + ((bringI how.x1 8)))))), (fun _ v_ => v_ = (.bool true)), (fun _ v_ => v_ = (.bool true)), (fun _ v_ => v_ = (.slice (some ⟨b30, o31, none⟩) ((((selI (has (((crewI (IntKind.wrap .i64 (1 + ((bringI how.x0 2)))))))) (((crewI (IntKind.wrap .i64 (1 + ((bringI how.x0 2))))))) ls).2.1)).length) cap18)), (fun _ v_ => v_ = (.int .i64 (IntKind.wrap .i64 (1 + ((bringI how.x1 8)))))), (fun _ v_ => v_ = (.int .i64 (((((IntKind.wrap .i64 (1 + (bringI how.x1 8))).toNat - 1) : Nat) : Int)))), (fun _ v_ => v_ = (.pointer (some ⟨b30, o31 + (((IntKind.wrap .i64 (1 + (bringI how.x1 8))).toNat - 1)) * 33, none⟩))), (fun _ v_ => v_ = (.agg x28.cells.toArray)), (fun _ v_ => v_ = (.int .i64 (IntKind.wrap .i64 (1 + ((bringI how.x1 8)))))), (fun _ v_ => v_ = (.agg ((digI ((50 : UInt8)))).cells.toArray)), (fun _ v_ => v_ = (.agg ((.int .i64 (IntKind.wrap .i64 (1 + ((bringI how.x1 8))))) :: (((digI ((50 : UInt8)))).cells ++ [])).toArray)), (fun _ v_ => v_ = (.bool false)), (fun _ v_ => v_ = (.bool false)), (fun _ v_ => v_ = (.bool false)), (fun _ v_ => v_ = undef), (fun _ v_ => v_ = (.bool false)), (fun _ v_ => v_ = (.bool false))]) (fun _ _ G' w => Cx w0 G0 G' w ∧ Bxs G' w w0.heap.size [(b22, 30, (((selI (has (((crewI (IntKind.wrap .i64 (1 + ((bringI how.x0 2)))))))) (((crewI (IntKind.wrap .i64 (1 + ((bringI how.x0 2))))))) ls).1)).cells), (b6, 28, ((digI ((50 : UInt8)))).cells), (b5, 41, how.cells)] ∧ GLe G G') G (vAt_mono ⟨fun _ _ _ _ h => h, fun _ _ _ _ h => h, fun _ _ _ _ h => h, fun _ _ _ _ h => h, fun _ _ _ _ h => h, fun _ _ _ _ h => h, fun _ _ _ _ h => h, fun _ _ _ _ h => h, fun _ _ _ _ h => h, fun _ _ _ _ h => h, fun _ _ _ _ h => h, fun _ _ _ _ h => h, fun _ _ _ _ h => h, fun _ _ _ _ h => h, fun _ _ _ _ h => h, fun _ _ _ _ h => h, fun _ _ _ _ h => h, fun _ _ _ _ h => h, fun _ _ _ _ h => h, trivial⟩) (fun _ _ => ⟨hC.drew, hB.drew, fun _ _ h => h⟩) ?_ ?_
       ·
        refine dsNone (j := 1) rfl ?_ ?_
        ·
         intro done G w ac_ hd hp hn ⟨hC, hB, hg⟩ hM
         have f15 : ac_.tmps[15]? = some (.slice (some ⟨b30, o31, none⟩) ((((selI (has (((crewI (IntKind.wrap .i64 (1 + ((bringI how.x0 2)))))))) (((crewI (IntKind.wrap .i64 (1 + ((bringI how.x0 2))))))) ls).2.1)).length) cap18) := hM.old0 rfl rfl
         have hF := (hM.fr.add f15)
         exact OpVal.draw hF (opMove rfl) ⟨G, fun _ _ h => h, ⟨hC, hB, hg⟩, rfl⟩
        refine dsNone (j := 2) rfl ?_ ?_
        ·
         intro done G w ac_ hd hp hn ⟨hC, hB, hg⟩ hM
         have f102 := hM.eqv (s := 102) 0 rfl (hp 0 rfl) rfl rfl
         have hF := (hM.fr.add f102)
         exact OpVal.draw hF (opLen rfl isl31) ⟨G, fun _ _ h => h, ⟨hC, hB, hg⟩, rfl⟩
        refine dsNone (j := 3) rfl ?_ ?_
        ·
         intro done G w ac_ hd hp hn ⟨hC, hB, hg⟩ hM
         have f8 : ac_.tmps[8]? = some (.int .i64 (IntKind.wrap .i64 (1 + ((bringI how.x1 8))))) := hM.old0 rfl rfl
         have hF := (hM.fr.add f8)
         exact OpVal.draw hF (opMove rfl) ⟨G, fun _ _ h => h, ⟨hC, hB, hg⟩, rfl⟩
        refine dsNone (j := 4) rfl ?_ ?_
        ·
         intro done G w ac_ hd hp hn ⟨hC, hB, hg⟩ hM
         have f103 := hM.eqv (s := 103) 1 rfl (hp 1 rfl) rfl rfl
         have f104 := hM.eqv (s := 104) 2 rfl (hp 2 rfl) rfl rfl
         have hF := ((hM.fr.add f103).add f104)
         exact OpVal.draw hF (OpVal.cast (opGeq rfl rfl) (congrArg Value.bool h25)) ⟨G, fun _ _ h => h, ⟨hC, hB, hg⟩, rfl⟩
        refine dsNone (j := 5) rfl ?_ ?_
        ·
         intro done G w ac_ hd hp hn ⟨hC, hB, hg⟩ hM
         have f105 := hM.eqv (s := 105) 3 rfl (hp 3 rfl) rfl rfl
         have hF := (hM.fr.add f105)
         exact OpVal.draw hF (opMove rfl) ⟨G, fun _ _ h => h, ⟨hC, hB, hg⟩, rfl⟩
        refine dsOn (j := 6) rfl rfl ?_ ?_
        ·
         intro done G w ac_ hd hp hn ⟨hC, hB, hg⟩ hM
         have f15 : ac_.tmps[15]? = some (.slice (some ⟨b30, o31, none⟩) ((((selI (has (((crewI (IntKind.wrap .i64 (1 + ((bringI how.x0 2)))))))) (((crewI (IntKind.wrap .i64 (1 + ((bringI how.x0 2))))))) ls).2.1)).length) cap18) := hM.old0 rfl rfl
         have f106 := hM.eqv (s := 106) 4 rfl (hp 4 rfl) rfl rfl
         refine ⟨f106, ?_⟩
         have hF := (hM.fr.add f15)
         exact OpVal.draw hF (opMove rfl) ⟨G, fun _ _ h => h, ⟨hC, hB, hg⟩, rfl⟩
        refine dsOn (j := 7) rfl rfl ?_ ?_
        ·
         intro done G w ac_ hd hp hn ⟨hC, hB, hg⟩ hM
         have f8 : ac_.tmps[8]? = some (.int .i64 (IntKind.wrap .i64 (1 + ((bringI how.x1 8))))) := hM.old0 rfl rfl
         have f106 := hM.eqv (s := 106) 4 rfl (hp 4 rfl) rfl rfl
         refine ⟨f106, ?_⟩
         have hF := (hM.fr.add f8)
         exact OpVal.draw hF (opMove rfl) ⟨G, fun _ _ h => h, ⟨hC, hB, hg⟩, rfl⟩
        refine dsOn (j := 8) rfl rfl ?_ ?_
        ·
         intro done G w ac_ hd hp hn ⟨hC, hB, hg⟩ hM
         have f108 := hM.eqv (s := 108) 6 rfl (hp 6 rfl) rfl rfl
         have f106 := hM.eqv (s := 106) 4 rfl (hp 4 rfl) rfl rfl
         refine ⟨f106, ?_⟩
         have hF := (hM.fr.add f108)
         exact OpVal.draw hF (OpVal.cast (v' := .int .i64 ((((IntKind.wrap .i64 (1 + (bringI how.x1 8))).toNat - 1) : Nat) : Int)) (opSub rfl rfl) (congrArg (Value.int .i64) (by have q2 := sq_rng how.x1; rw [IntWalk.i64_in _ (by omega)]; omega))) ⟨G, fun _ _ h => h, ⟨hC, hB, hg⟩, rfl⟩
        refine dsOn (j := 9) rfl rfl ?_ ?_
        ·
         intro done G w ac_ hd hp hn ⟨hC, hB, hg⟩ hM
         have f107 := hM.eqv (s := 107) 5 rfl (hp 5 rfl) rfl rfl
         have f109 := hM.eqv (s := 109) 7 rfl (hp 7 rfl) rfl rfl
         have f106 := hM.eqv (s := 106) 4 rfl (hp 4 rfl) rfl rfl
         refine ⟨f106, ?_⟩
         have hF := ((hM.fr.add f107).add f109)
         exact OpVal.draw hF (opIndexAddr rfl rfl slo31 (by have q := of_decide_eq_true h25; have q2 := sq_rng how.x1; omega)) ⟨G, fun _ _ h => h, ⟨hC, hB, hg⟩, rfl⟩
        refine dsOn (j := 10) rfl rfl ?_ ?_
        ·
         intro done G w ac_ hd hp hn ⟨hC, hB, hg⟩ hM
         replace hr33 := hr33.mono hg
         have f110 := hM.eqv (s := 110) 8 rfl (hp 8 rfl) rfl rfl
         have f106 := hM.eqv (s := 106) 4 rfl (hp 4 rfl) rfl rfl
         refine ⟨f106, ?_⟩
         have hF := (hM.fr.add f110)
         exact OpVal.draw hF (opLoadRow (cs := x28.cells) rfl (RowG.range hC.holds hr33) row30 (by simp [Mark.cells, Stand.cells])) ⟨G, fun _ _ h => h, ⟨hC, hB, hg⟩, rfl⟩
        refine dsOn (j := 11) rfl rfl ?_ ?_
        ·
         intro done G w ac_ hd hp hn ⟨hC, hB, hg⟩ hM
         have f8 : ac_.tmps[8]? = some (.int .i64 (IntKind.wrap .i64 (1 + ((bringI how.x1 8))))) := hM.old0 rfl rfl
         have f106 := hM.eqv (s := 106) 4 rfl (hp 4 rfl) rfl rfl
         refine ⟨f106, ?_⟩
         have hF := (hM.fr.add f8)
         exact OpVal.draw hF (opMove rfl) ⟨G, fun _ _ h => h, ⟨hC, hB, hg⟩, rfl⟩
        refine dsOn (j := 12) rfl rfl ?_ ?_
        ·
         intro done G w ac_ hd hp hn ⟨hC, hB, hg⟩ hM
         have f9 : ac_.tmps[9]? = some (.pointer (some ⟨b6, 0, none⟩)) := hM.old0 rfl rfl
         have f106 := hM.eqv (s := 106) 4 rfl (hp 4 rfl) rfl rfl
         refine ⟨f106, ?_⟩
         have hF := (hM.fr.add f9)
         exact OpVal.draw hF (opLoadRow (cs := ((digI ((50 : UInt8)))).cells) rfl (hB.range (i := 1) (m := 32) rfl (by simp [Mark.cells, Stand.cells])) row28 (by simp [Mark.cells, Stand.cells])) ⟨G, fun _ _ h => h, ⟨hC, hB, hg⟩, rfl⟩
        refine dsOn (j := 13) rfl rfl ?_ ?_
        ·
         intro done G w ac_ hd hp hn ⟨hC, hB, hg⟩ hM
         have f112 := hM.eqv (s := 112) 10 rfl (hp 10 rfl) rfl rfl
         have f113 := hM.eqv (s := 113) 11 rfl (hp 11 rfl) rfl rfl
         have f106 := hM.eqv (s := 106) 4 rfl (hp 4 rfl) rfl rfl
         refine ⟨f106, ?_⟩
         have hF := ((hM.fr.add f112).add f113)
         exact OpVal.draw hF (opBuild (ps := [(0, .tmp 112), (1, .tmp 113)]) (cs := ((.int .i64 (IntKind.wrap .i64 (1 + ((bringI how.x1 8))))) :: (((digI ((50 : UInt8)))).cells ++ []))) so30 zero30 rfl rfl (by simp [buildCells, Value.cells])) ⟨G, fun _ _ h => h, ⟨hC, hB, hg⟩, rfl⟩
        refine dsOn (j := 14) rfl rfl ?_ ?_
        ·
         intro done G w ac_ hd hp hn ⟨hC, hB, hg⟩ hM
         have f111 := hM.eqv (s := 111) 9 rfl (hp 9 rfl) rfl rfl
         have f114 := hM.eqv (s := 114) 12 rfl (hp 12 rfl) rfl rfl
         have f106 := hM.eqv (s := 106) 4 rfl (hp 4 rfl) rfl rfl
         refine ⟨f106, ?_⟩
         have hF := ((hM.fr.add f111).add f114)
         exact OpVal.draw hF (OpVal.cast (opEqRow (eq30 _ x28 ((Mark.mk (IntKind.wrap .i64 (1 + ((bringI how.x1 8)))) ((digI ((50 : UInt8))))))) eg30 rfl rfl) (congrArg Value.bool h36)) ⟨G, fun _ _ h => h, ⟨hC, hB, hg⟩, rfl⟩
        refine dsNone (j := 15) rfl ?_ ?_
        ·
         intro done G w ac_ hd hp hn ⟨hC, hB, hg⟩ hM
         have f106 := hM.eqv (s := 106) 4 rfl (hp 4 rfl) rfl rfl
         have f115 := hM.eqv (s := 115) 13 rfl (hp 13 rfl) rfl rfl
         have hF := ((hM.fr.add f106).add f115)
         exact OpVal.draw hF (opPickT rfl rfl) ⟨G, fun _ _ h => h, ⟨hC, hB, hg⟩, rfl⟩
        refine dsNone (j := 16) rfl ?_ ?_
        ·
         intro done G w ac_ hd hp hn ⟨hC, hB, hg⟩ hM
         have f116 := hM.eqv (s := 116) 14 rfl (hp 14 rfl) rfl rfl
         have hF := (hM.fr.add f116)
         exact OpVal.draw hF (opMove rfl) ⟨G, fun _ _ h => h, ⟨hC, hB, hg⟩, rfl⟩
        refine dsOff (j := 17) (b' := false) rfl rfl rfl ?_ ?_
        ·
         intro done G w ac_ hd hp hn ⟨hC, hB, hg⟩ hM
         have f117 := hM.eqv (s := 117) 15 rfl (hp 15 rfl) rfl rfl
         exact ⟨f117, ⟨hC, hB, hg⟩, rfl⟩
        refine dsNone (j := 18) rfl ?_ ?_
        ·
         intro done G w ac_ hd hp hn ⟨hC, hB, hg⟩ hM
         have f117 := hM.eqv (s := 117) 15 rfl (hp 15 rfl) rfl rfl
         have f118 := hM.eqv (s := 118) 16 rfl (hp 16 rfl) rfl rfl
         have hF := ((hM.fr.add f117).add f118)
         exact OpVal.draw hF (opPickF rfl rfl) ⟨G, fun _ _ h => h, ⟨hC, hB, hg⟩, rfl⟩
        refine dsNone (j := 19) rfl ?_ ?_
        ·
         intro done G w ac_ hd hp hn ⟨hC, hB, hg⟩ hM
         have f119 := hM.eqv (s := 119) 17 rfl (hp 17 rfl) rfl rfl
         have hF := (hM.fr.add f119)
         exact OpVal.draw hF (opAssign rfl) ⟨G, fun _ _ h => h, ⟨hC, hB, hg⟩, rfl⟩
        exact dsNil
       ·
        intro done G w ac_ hall ⟨hC, hB, hg⟩ hM
        replace hlies := hlies.mono hg
        replace hpasts := hpasts.mono hg
        replace hr33 := hr33.mono hg
        have f6 := hM.eqv (s := 6) 18 rfl (hall 18 (by decide)) rfl rfl
        refine ⟨(Env.nil.put 6 (.bool false)), (hM.fr.add f6), ?_⟩
        clear hM hall
        refine wcOf ?_
        refine wcRet ?_
        exact fun ac_ ha => hQ _ _ _ (results1 ha rfl rfl) ha.df (endS hC hw (by have hK := kl_law h12 (sq_rng how.x1) hn8 hI h23; rw [hK.2] at hx29; exact absurd (Option.some.inj hx29).symm (of_decide_eq_false h36)))
      ·
       skip
       refine wcDraw fmix (by kernel_rfl) (by kernel_rfl) (vAt [(fun _ v_ => v_ = (.slice (some ⟨b30, o31, none⟩) ((((selI (has (((crewI (IntKind.wrap .i64 (1 + ((bringI how.x0 2)))))))) (((crewI (IntKind.wrap .i64 (1 + ((bringI how.x0 2))))))) ls).2.1)).length) cap18)), (fun _ v_ => v_ = (.int .i64 ((((((selI (has (((crewI (IntKind.wrap .i64 (1 + ((bringI how.x0 2)))))))) (((crewI (IntKind.wrap .i64 (1 + ((bringI how.x0 2))))))) ls).2.1)).length : Nat) : Int)))), (fun _ v_ => v_ = (.int .i64 (IntKind.wrap .i64 (1 + ((bringI how.x1 8)))))), (fun _ v_ => v_ = (.bool true)), (fun _ v_ => v_ = (.bool true)), (fun _ v_ => v_ = (.slice (some ⟨b30, o31, none⟩) ((((selI (has (((crewI (IntKind.wrap .i64 (1 + ((bringI how.x0 2)))))))) (((crewI (IntKind.wrap .i64 (1 + ((bringI how.x0 2))))))) ls).2.1)).length) cap18)), (fun _ v_ => v_ = (.int .i64 (IntKind.wrap .i64 (1 + ((bringI how.x1 8)))))), (fun _ v_ => v_ = (.int .i64 (((((IntKind.wrap .i64 (1 + (bringI how.x1 8))).toNat - 1) : Nat) : Int)))), (fun _ v_ => v_ = (.pointer (some ⟨b30, o31 + (((IntKind.wrap .i64 (1 + (bringI how.x1 8))).toNat - 1)) * 33, none⟩))), (fun _ v_ => v_ = (.agg x28.cells.toArray)), (fun _ v_ => v_ = (.int .i64 (IntKind.wrap .i64 (1 + ((bringI how.x1 8)))))), (fun _ v_ => v_ = (.agg ((digI ((50 : UInt8)))).cells.toArray)), (fun _ v_ => v_ = (.agg ((.int .i64 (IntKind.wrap .i64 (1 + ((bringI how.x1 8))))) :: (((digI ((50 : UInt8)))).cells ++ [])).toArray)), (fun _ v_ => v_ = (.bool true)), (fun _ v_ => v_ = (.bool true)), (fun _ v_ => v_ = (.bool true)), (fun _ v_ => v_ = (.bool true)), (fun _ v_ => v_ = (.bool true)), (fun _ v_ => v_ = (.bool true))]) (fun _ _ G' w => Cx w0 G0 G' w ∧ Bxs G' w w0.heap.size [(b22, 30, (((selI (has (((crewI (IntKind.wrap .i64 (1 + ((bringI how.x0 2)))))))) (((crewI (IntKind.wrap .i64 (1 + ((bringI how.x0 2))))))) ls).1)).cells), (b6, 28, ((digI ((50 : UInt8)))).cells), (b5, 41, how.cells)] ∧ GLe G G') G (vAt_mono ⟨fun _ _ _ _ h => h, fun _ _ _ _ h => h, fun _ _ _ _ h => h, fun _ _ _ _ h => h, fun _ _ _ _ h => h, fun _ _ _ _ h => h, fun _ _ _ _ h => h, fun _ _ _ _ h => h, fun _ _ _ _ h => h, fun _ _ _ _ h => h, fun _ _ _ _ h => h, fun _ _ _ _ h => h, fun _ _ _ _ h => h, fun _ _ _ _ h => h, fun _ _ _ _ h => h, fun _ _ _ _ h => h, fun _ _ _ _ h => h, fun _ _ _ _ h => h, fun _ _ _ _ h => h, trivial⟩) (fun _ _ => ⟨hC.drew, hB.drew, fun _ _ h => h⟩) ?_ ?_
       ·
        refine dsNone (j := 1) rfl ?_ ?_
        ·
         intro done G w ac_ hd hp hn ⟨hC, hB, hg⟩ hM
         have f15 : ac_.tmps[15]? = some (.slice (some ⟨b30, o31, none⟩) ((((selI (has (((crewI (IntKind.wrap .i64 (1 + ((bringI how.x0 2)))))))) (((crewI (IntKind.wrap .i64 (1 + ((bringI how.x0 2))))))) ls).2.1)).length) cap18) := hM.old0 rfl rfl
         have hF := (hM.fr.add f15)
         exact OpVal.draw hF (opMove rfl) ⟨G, fun _ _ h => h, ⟨hC, hB, hg⟩, rfl⟩
        refine dsNone (j := 2) rfl ?_ ?_
        ·
         intro done G w ac_ hd hp hn ⟨hC, hB, hg⟩ hM
         have f102 := hM.eqv (s := 102) 0 rfl (hp 0 rfl) rfl rfl
         have hF := (hM.fr.add f102)
         exact OpVal.draw hF (opLen rfl isl31) ⟨G, fun _ _ h => h, ⟨hC, hB, hg⟩, rfl⟩
        refine dsNone (j := 3) rfl ?_ ?_
        ·
         intro done G w ac_ hd hp hn ⟨hC, hB, hg⟩ hM
         have f8 : ac_.tmps[8]? = some (.int .i64 (IntKind.wrap .i64 (1 + ((bringI how.x1 8))))) := hM.old0 rfl rfl
         have hF := (hM.fr.add f8)
         exact OpVal.draw hF (opMove rfl) ⟨G, fun _ _ h => h, ⟨hC, hB, hg⟩, rfl⟩
        refine dsNone (j := 4) rfl ?_ ?_
        ·
         intro done G w ac_ hd hp hn ⟨hC, hB, hg⟩ hM
         have f103 := hM.eqv (s := 103) 1 rfl (hp 1 rfl) rfl rfl
         have f104 := hM.eqv (s := 104) 2 rfl (hp 2 rfl) rfl rfl
         have hF := ((hM.fr.add f103).add f104)
         exact OpVal.draw hF (OpVal.cast (opGeq rfl rfl) (congrArg Value.bool h25)) ⟨G, fun _ _ h => h, ⟨hC, hB, hg⟩, rfl⟩
        refine dsNone (j := 5) rfl ?_ ?_
        ·
         intro done G w ac_ hd hp hn ⟨hC, hB, hg⟩ hM
         have f105 := hM.eqv (s := 105) 3 rfl (hp 3 rfl) rfl rfl
         have hF := (hM.fr.add f105)
         exact OpVal.draw hF (opMove rfl) ⟨G, fun _ _ h => h, ⟨hC, hB, hg⟩, rfl⟩
        refine dsOn (j := 6) rfl rfl ?_ ?_
        ·
         intro done G w ac_ hd hp hn ⟨hC, hB, hg⟩ hM
         have f15 : ac_.tmps[15]? = some (.slice (some ⟨b30, o31, none⟩) ((((selI (has (((crewI (IntKind.wrap .i64 (1 + ((bringI how.x0 2)))))))) (((crewI (IntKind.wrap .i64 (1 + ((bringI how.x0 2))))))) ls).2.1)).length) cap18) := hM.old0 rfl rfl
         have f106 := hM.eqv (s := 106) 4 rfl (hp 4 rfl) rfl rfl
         refine ⟨f106, ?_⟩
         have hF := (hM.fr.add f15)
         exact OpVal.draw hF (opMove rfl) ⟨G, fun _ _ h => h, ⟨hC, hB, hg⟩, rfl⟩
        refine dsOn (j := 7) rfl rfl ?_ ?_
        ·
         intro done G w ac_ hd hp hn ⟨hC, hB, hg⟩ hM
         have f8 : ac_.tmps[8]? = some (.int .i64 (IntKind.wrap .i64 (1 + ((bringI how.x1 8))))) := hM.old0 rfl rfl
         have f106 := hM.eqv (s := 106) 4 rfl (hp 4 rfl) rfl rfl
         refine ⟨f106, ?_⟩
         have hF := (hM.fr.add f8)
         exact OpVal.draw hF (opMove rfl) ⟨G, fun _ _ h => h, ⟨hC, hB, hg⟩, rfl⟩
        refine dsOn (j := 8) rfl rfl ?_ ?_
        ·
         intro done G w ac_ hd hp hn ⟨hC, hB, hg⟩ hM
         have f108 := hM.eqv (s := 108) 6 rfl (hp 6 rfl) rfl rfl
         have f106 := hM.eqv (s := 106) 4 rfl (hp 4 rfl) rfl rfl
         refine ⟨f106, ?_⟩
         have hF := (hM.fr.add f108)
         exact OpVal.draw hF (OpVal.cast (v' := .int .i64 ((((IntKind.wrap .i64 (1 + (bringI how.x1 8))).toNat - 1) : Nat) : Int)) (opSub rfl rfl) (congrArg (Value.int .i64) (by have q2 := sq_rng how.x1; rw [IntWalk.i64_in _ (by omega)]; omega))) ⟨G, fun _ _ h => h, ⟨hC, hB, hg⟩, rfl⟩
        refine dsOn (j := 9) rfl rfl ?_ ?_
        ·
         intro done G w ac_ hd hp hn ⟨hC, hB, hg⟩ hM
         have f107 := hM.eqv (s := 107) 5 rfl (hp 5 rfl) rfl rfl
         have f109 := hM.eqv (s := 109) 7 rfl (hp 7 rfl) rfl rfl
         have f106 := hM.eqv (s := 106) 4 rfl (hp 4 rfl) rfl rfl
         refine ⟨f106, ?_⟩
         have hF := ((hM.fr.add f107).add f109)
         exact OpVal.draw hF (opIndexAddr rfl rfl slo31 (by have q := of_decide_eq_true h25; have q2 := sq_rng how.x1; omega)) ⟨G, fun _ _ h => h, ⟨hC, hB, hg⟩, rfl⟩
        refine dsOn (j := 10) rfl rfl ?_ ?_
        ·
         intro done G w ac_ hd hp hn ⟨hC, hB, hg⟩ hM
         replace hr33 := hr33.mono hg
         have f110 := hM.eqv (s := 110) 8 rfl (hp 8 rfl) rfl rfl
         have f106 := hM.eqv (s := 106) 4 rfl (hp 4 rfl) rfl rfl
         refine ⟨f106, ?_⟩
         have hF := (hM.fr.add f110)
         exact OpVal.draw hF (opLoadRow (cs := x28.cells) rfl (RowG.range hC.holds hr33) row30 (by simp [Mark.cells, Stand.cells])) ⟨G, fun _ _ h => h, ⟨hC, hB, hg⟩, rfl⟩
        refine dsOn (j := 11) rfl rfl ?_ ?_
        ·
         intro done G w ac_ hd hp hn ⟨hC, hB, hg⟩ hM
         have f8 : ac_.tmps[8]? = some (.int .i64 (IntKind.wrap .i64 (1 + ((bringI how.x1 8))))) := hM.old0 rfl rfl
         have f106 := hM.eqv (s := 106) 4 rfl (hp 4 rfl) rfl rfl
         refine ⟨f106, ?_⟩
         have hF := (hM.fr.add f8)
         exact OpVal.draw hF (opMove rfl) ⟨G, fun _ _ h => h, ⟨hC, hB, hg⟩, rfl⟩
        refine dsOn (j := 12) rfl rfl ?_ ?_
        ·
         intro done G w ac_ hd hp hn ⟨hC, hB, hg⟩ hM
         have f9 : ac_.tmps[9]? = some (.pointer (some ⟨b6, 0, none⟩)) := hM.old0 rfl rfl
         have f106 := hM.eqv (s := 106) 4 rfl (hp 4 rfl) rfl rfl
         refine ⟨f106, ?_⟩
         have hF := (hM.fr.add f9)
         exact OpVal.draw hF (opLoadRow (cs := ((digI ((50 : UInt8)))).cells) rfl (hB.range (i := 1) (m := 32) rfl (by simp [Mark.cells, Stand.cells])) row28 (by simp [Mark.cells, Stand.cells])) ⟨G, fun _ _ h => h, ⟨hC, hB, hg⟩, rfl⟩
        refine dsOn (j := 13) rfl rfl ?_ ?_
        ·
         intro done G w ac_ hd hp hn ⟨hC, hB, hg⟩ hM
         have f112 := hM.eqv (s := 112) 10 rfl (hp 10 rfl) rfl rfl
         have f113 := hM.eqv (s := 113) 11 rfl (hp 11 rfl) rfl rfl
         have f106 := hM.eqv (s := 106) 4 rfl (hp 4 rfl) rfl rfl
         refine ⟨f106, ?_⟩
         have hF := ((hM.fr.add f112).add f113)
         exact OpVal.draw hF (opBuild (ps := [(0, .tmp 112), (1, .tmp 113)]) (cs := ((.int .i64 (IntKind.wrap .i64 (1 + ((bringI how.x1 8))))) :: (((digI ((50 : UInt8)))).cells ++ []))) so30 zero30 rfl rfl (by simp [buildCells, Value.cells])) ⟨G, fun _ _ h => h, ⟨hC, hB, hg⟩, rfl⟩
        refine dsOn (j := 14) rfl rfl ?_ ?_
        ·
         intro done G w ac_ hd hp hn ⟨hC, hB, hg⟩ hM
         have f111 := hM.eqv (s := 111) 9 rfl (hp 9 rfl) rfl rfl
         have f114 := hM.eqv (s := 114) 12 rfl (hp 12 rfl) rfl rfl
         have f106 := hM.eqv (s := 106) 4 rfl (hp 4 rfl) rfl rfl
         refine ⟨f106, ?_⟩
         have hF := ((hM.fr.add f111).add f114)
         exact OpVal.draw hF (OpVal.cast (opEqRow (eq30 _ x28 ((Mark.mk (IntKind.wrap .i64 (1 + ((bringI how.x1 8)))) ((digI ((50 : UInt8))))))) eg30 rfl rfl) (congrArg Value.bool h36)) ⟨G, fun _ _ h => h, ⟨hC, hB, hg⟩, rfl⟩
        refine dsNone (j := 15) rfl ?_ ?_
        ·
         intro done G w ac_ hd hp hn ⟨hC, hB, hg⟩ hM
         have f106 := hM.eqv (s := 106) 4 rfl (hp 4 rfl) rfl rfl
         have f115 := hM.eqv (s := 115) 13 rfl (hp 13 rfl) rfl rfl
         have hF := ((hM.fr.add f106).add f115)
         exact OpVal.draw hF (opPickT rfl rfl) ⟨G, fun _ _ h => h, ⟨hC, hB, hg⟩, rfl⟩
        refine dsNone (j := 16) rfl ?_ ?_
        ·
         intro done G w ac_ hd hp hn ⟨hC, hB, hg⟩ hM
         have f116 := hM.eqv (s := 116) 14 rfl (hp 14 rfl) rfl rfl
         have hF := (hM.fr.add f116)
         exact OpVal.draw hF (opMove rfl) ⟨G, fun _ _ h => h, ⟨hC, hB, hg⟩, rfl⟩
        refine dsOn (j := 17) rfl rfl ?_ ?_
        ·
         intro done G w ac_ hd hp hn ⟨hC, hB, hg⟩ hM
         have f117 := hM.eqv (s := 117) 15 rfl (hp 15 rfl) rfl rfl
         refine ⟨f117, ?_⟩
         have hF := hM.fr
         exact drawCallS hF rfl co14 rfl (awake_ret _ _ hC.holds ) (fun w' hk => ⟨G, fun _ _ h => h, ⟨hC.trans hk, hB.ext hk, hg⟩, rfl⟩)
        refine dsNone (j := 18) rfl ?_ ?_
        ·
         intro done G w ac_ hd hp hn ⟨hC, hB, hg⟩ hM
         have f117 := hM.eqv (s := 117) 15 rfl (hp 15 rfl) rfl rfl
         have f118 := hM.eqv (s := 118) 16 rfl (hp 16 rfl) rfl rfl
         have hF := ((hM.fr.add f117).add f118)
         exact OpVal.draw hF (opPickT rfl rfl) ⟨G, fun _ _ h => h, ⟨hC, hB, hg⟩, rfl⟩
        refine dsNone (j := 19) rfl ?_ ?_
        ·
         intro done G w ac_ hd hp hn ⟨hC, hB, hg⟩ hM
         have f119 := hM.eqv (s := 119) 17 rfl (hp 17 rfl) rfl rfl
         have hF := (hM.fr.add f119)
         exact OpVal.draw hF (opAssign rfl) ⟨G, fun _ _ h => h, ⟨hC, hB, hg⟩, rfl⟩
        exact dsNil
       ·
        intro done G w ac_ hall ⟨hC, hB, hg⟩ hM
        replace hlies := hlies.mono hg
        replace hpasts := hpasts.mono hg
        have f6 := hM.eqv (s := 6) 18 rfl (hall 18 (by decide)) rfl rfl
        refine ⟨(Env.nil.put 6 (.bool true)), (hM.fr.add f6), ?_⟩
        clear hM hall
        refine wcOf ?_
        refine wcRet ?_
        exact fun ac_ ha => hQ _ _ _ (results1 ha rfl rfl) ha.df (endS hC hw rfl)
  ·
   skip
   refine wcCondT rfl ?_
   refine wcSeq (wcRegion ?_)
   refine wlVal (opMove rfl) rfl ?_
   refine wlVal (opEql rfl rfl) rfl ?_
   refine wlVal (opMove rfl) rfl ?_
   cases h37 : (((selI (has (((crewI (IntKind.wrap .i64 (1 + ((bringI how.x0 2)))))))) (((crewI (IntKind.wrap .i64 (1 + ((bringI how.x0 2))))))) ls).2.2)) == 210
   ·
    skip
    refine wlOff rfl rfl rfl rfl ?_
    refine wlVal (opPickF rfl rfl) rfl ?_
    refine wlVal (opAssign rfl) rfl ?_
    refine wlThen ?_
    refine wcRet ?_
    exact fun ac_ ha => hQ _ _ _ (results1 ha rfl rfl) ha.df (endS hC hw (by rw [kl_fails h12 hn8 hI h23] at h37; simp at h37))
   ·
    skip
    refine wlOn rfl rfl ?_
    refine wlCallS hC hB rfl co14 rfl rfl (awake_ret _ _ hC.holds ) ?_; intro w hk hC hB
    refine wlVal (opPickT rfl rfl) rfl ?_
    refine wlVal (opAssign rfl) rfl ?_
    refine wlThen ?_
    refine wcRet ?_
    exact fun ac_ ha => hQ _ _ _ (results1 ha rfl rfl) ha.df (endS hC hw rfl)
 ·
  skip
  refine wcCondT rfl ?_
  refine wcSkip ?_
  refine wcOf ?_
  refine wcSeq ?_
  refine wcBlock (wcSeq (wcSeq (wcRegion ?_)))
  refine wlVal (opIndexArr (i := 2) rfl rfl ar41 (by decide)) rfl ?_
  refine wlVal (opLoadOne (v := (.int .i64 how.x2)) rfl (hB.cell (i := 1) rfl rfl) one3) rfl ?_
  refine wlVal (opMove rfl) rfl ?_
  refine wlVal (opShrI rfl rfl (Int.natCast_nonneg _)) rfl ?_
  refine wlVal (opAndI rfl rfl) rfl ?_
  refine wlVal (opEql rfl rfl) rfl ?_
  refine wlThen ?_
  cases h38 : ((andI ((shrI how.x2 (((n : Nat) : Int)))) 1)) == 1
  ·
   skip
   refine wcCondF rfl ?_
   refine wcSkip ?_
   refine wcOf ?_
   refine wcSeq (wcRegion ?_)
   refine wlAlloc hC hB zero46 rfl ?_; intro b39 w hk hC hB
   replace hB : Bxs G w w0.heap.size ([(b39, 46, [(.bool false), (.bool false), (.int .u8 0), (.int .i64 0), (.slice none 0 0)]), (b6, 28, ((digI ((50 : UInt8)))).cells), (b5, 41, how.cells)] ++ (Option.toList lsO ++ [])) := hB
   refine wlThen (wcSeq (wcSeq (wcRegion ?_)))
   refine wlVal (opMove rfl) rfl ?_
   refine wlVal (opDecr rfl rfl hn1 (by have q := of_decide_eq_true h7; rw [n3 h12] at q; have q2 := h12; omega)) rfl ?_
   refine wlVal (opMove rfl) rfl ?_
   refine wlVal (opLen rfl isl40) rfl ?_
   refine wlVal (opLssN rfl rfl) rfl ?_
   refine wlThen ?_
   cases h40 : decide ((n - 1) < pasts.length)
   ·
    skip
    refine wcCondF rfl ?_
    refine wcSkip ?_
    refine wcOf ?_
    refine wcSeq (wcRegion ?_)
    refine wlVal (opLoadRow (cs := [(.bool false), (.bool false), (.int .u8 0), (.int .i64 0), (.slice none 0 0)]) rfl (hB.range (i := 0) (m := 5) rfl rfl) row46 rfl) rfl ?_
    refine wlVal (opMove rfl) rfl ?_
    refine wlVal (opMove rfl) rfl ?_
    refine wlVal (opLoadRow (cs := ((digI ((50 : UInt8)))).cells) rfl (hB.range (i := 1) (m := 32) rfl (by simp [Mark.cells, Stand.cells])) row28 (by simp [Mark.cells, Stand.cells])) rfl ?_
    refine wlVal (opMove rfl) rfl ?_
    refine wlVal (opMove rfl) rfl ?_
    refine wlVal (opMul rfl rfl) rfl ?_
    refine wlVal (opGtr rfl rfl) rfl ?_
    refine wlCallG hC hB rfl co17 rfl rfl (told_ret _ _ hC.holds _ ((Past.mk false false ((0 : UInt8)) 0 ([]))) (Past.mkIs (x := (Past.mk false false ((0 : UInt8)) 0 ([]))) (Sl.nil_ _)) (((n : Nat) : Int)) (IntKind.wrap .i64 (1 + ((bringI how.x1 8)))) ((digI ((50 : UInt8)))) (decide (IntKind.wrap .i64 (2 * IntKind.wrap .i64 (1 + ((bringI how.x0 2)))) < ((n : Nat) : Int)))) ?_; rintro v43 G w hk hC hB ⟨r41, rfl, hr42⟩
    replace hlies := hlies.mono hk.gle; replace hpasts := hpasts.mono hk.gle; replace hOls := hOls.mono hk.gle
    obtain ⟨v44, v46, v48, rfl, hs45, hs47, hs49⟩ := Change.opIs hr42
    obtain ⟨A50, cap51, rfl⟩ := hs45.form
    obtain ⟨A52, cap53, rfl⟩ := hs47.form
    obtain ⟨A54, cap55, rfl⟩ := hs49.form
    refine wlAlloc hC hB zero49 rfl ?_; intro b56 w hk hC hB
    replace hB : Bxs G w w0.heap.size ([(b56, 49, [(.int .i64 0), (.int .i64 0), (.int .i64 0), (.slice none 0 0), (.slice none 0 0), (.slice none 0 0)]), (b39, 46, [(.bool false), (.bool false), (.int .u8 0), (.int .i64 0), (.slice none 0 0)]), (b6, 28, ((digI ((50 : UInt8)))).cells), (b5, 41, how.cells)] ++ (Option.toList lsO ++ [])) := hB
    refine wlStore 0 (vs := [(.int .i64 (((toldI ((Past.mk false false ((0 : UInt8)) 0 ([]))) (((n : Nat) : Int)) (IntKind.wrap .i64 (1 + ((bringI how.x1 8)))) ((digI ((50 : UInt8)))) (decide (IntKind.wrap .i64 (2 * IntKind.wrap .i64 (1 + ((bringI how.x0 2)))) < ((n : Nat) : Int))))).node)), (.int .i64 (((toldI ((Past.mk false false ((0 : UInt8)) 0 ([]))) (((n : Nat) : Int)) (IntKind.wrap .i64 (1 + ((bringI how.x1 8)))) ((digI ((50 : UInt8)))) (decide (IntKind.wrap .i64 (2 * IntKind.wrap .i64 (1 + ((bringI how.x0 2)))) < ((n : Nat) : Int))))).view)), (.int .i64 (((toldI ((Past.mk false false ((0 : UInt8)) 0 ([]))) (((n : Nat) : Int)) (IntKind.wrap .i64 (1 + ((bringI how.x1 8)))) ((digI ((50 : UInt8)))) (decide (IntKind.wrap .i64 (2 * IntKind.wrap .i64 (1 + ((bringI how.x0 2)))) < ((n : Nat) : Int))))).low)), (.slice A50 ((((toldI ((Past.mk false false ((0 : UInt8)) 0 ([]))) (((n : Nat) : Int)) (IntKind.wrap .i64 (1 + ((bringI how.x1 8)))) ((digI ((50 : UInt8)))) (decide (IntKind.wrap .i64 (2 * IntKind.wrap .i64 (1 + ((bringI how.x0 2)))) < ((n : Nat) : Int))))).marks).length) cap51), (.slice A52 ((((toldI ((Past.mk false false ((0 : UInt8)) 0 ([]))) (((n : Nat) : Int)) (IntKind.wrap .i64 (1 + ((bringI how.x1 8)))) ((digI ((50 : UInt8)))) (decide (IntKind.wrap .i64 (2 * IntKind.wrap .i64 (1 + ((bringI how.x0 2)))) < ((n : Nat) : Int))))).p).length) cap53), (.slice A54 ((((toldI ((Past.mk false false ((0 : UInt8)) 0 ([]))) (((n : Nat) : Int)) (IntKind.wrap .i64 (1 + ((bringI how.x1 8)))) ((digI ((50 : UInt8)))) (decide (IntKind.wrap .i64 (2 * IntKind.wrap .i64 (1 + ((bringI how.x0 2)))) < ((n : Nat) : Int))))).q).length) cap55)]) (cs := [(.int .i64 0), (.int .i64 0), (.int .i64 0), (.slice none 0 0), (.slice none 0 0), (.slice none 0 0)]) (cs' := [(.int .i64 (((toldI ((Past.mk false false ((0 : UInt8)) 0 ([]))) (((n : Nat) : Int)) (IntKind.wrap .i64 (1 + ((bringI how.x1 8)))) ((digI ((50 : UInt8)))) (decide (IntKind.wrap .i64 (2 * IntKind.wrap .i64 (1 + ((bringI how.x0 2)))) < ((n : Nat) : Int))))).node)), (.int .i64 (((toldI ((Past.mk false false ((0 : UInt8)) 0 ([]))) (((n : Nat) : Int)) (IntKind.wrap .i64 (1 + ((bringI how.x1 8)))) ((digI ((50 : UInt8)))) (decide (IntKind.wrap .i64 (2 * IntKind.wrap .i64 (1 + ((bringI how.x0 2)))) < ((n : Nat) : Int))))).view)), (.int .i64 (((toldI ((Past.mk false false ((0 : UInt8)) 0 ([]))) (((n : Nat) : Int)) (IntKind.wrap .i64 (1 + ((bringI how.x1 8)))) ((digI ((50 : UInt8)))) (decide (IntKind.wrap .i64 (2 * IntKind.wrap .i64 (1 + ((bringI how.x0 2)))) < ((n : Nat) : Int))))).low)), (.slice A50 ((((toldI ((Past.mk false false ((0 : UInt8)) 0 ([]))) (((n : Nat) : Int)) (IntKind.wrap .i64 (1 + ((bringI how.x1 8)))) ((digI ((50 : UInt8)))) (decide (IntKind.wrap .i64 (2 * IntKind.wrap .i64 (1 + ((bringI how.x0 2)))) < ((n : Nat) : Int))))).marks).length) cap51), (.slice A52 ((((toldI ((Past.mk false false ((0 : UInt8)) 0 ([]))) (((n : Nat) : Int)) (IntKind.wrap .i64 (1 + ((bringI how.x1 8)))) ((digI ((50 : UInt8)))) (decide (IntKind.wrap .i64 (2 * IntKind.wrap .i64 (1 + ((bringI how.x0 2)))) < ((n : Nat) : Int))))).p).length) cap53), (.slice A54 ((((toldI ((Past.mk false false ((0 : UInt8)) 0 ([]))) (((n : Nat) : Int)) (IntKind.wrap .i64 (1 + ((bringI how.x1 8)))) ((digI ((50 : UInt8)))) (decide (IntKind.wrap .i64 (2 * IntKind.wrap .i64 (1 + ((bringI how.x0 2)))) < ((n : Nat) : Int))))).q).length) cap55)]) hC hB rfl rfl rfl sz49 rfl rfl rfl (by simp [Mark.cells, Stand.cells]) rfl rfl ?_; intro w hC hB
    replace hB : Bxs G w w0.heap.size ([(b56, 49, [(.int .i64 (((toldI ((Past.mk false false ((0 : UInt8)) 0 ([]))) (((n : Nat) : Int)) (IntKind.wrap .i64 (1 + ((bringI how.x1 8)))) ((digI ((50 : UInt8)))) (decide (IntKind.wrap .i64 (2 * IntKind.wrap .i64 (1 + ((bringI how.x0 2)))) < ((n : Nat) : Int))))).node)), (.int .i64 (((toldI ((Past.mk false false ((0 : UInt8)) 0 ([]))) (((n : Nat) : Int)) (IntKind.wrap .i64 (1 + ((bringI how.x1 8)))) ((digI ((50 : UInt8)))) (decide (IntKind.wrap .i64 (2 * IntKind.wrap .i64 (1 + ((bringI how.x0 2)))) < ((n : Nat) : Int))))).view)), (.int .i64 (((toldI ((Past.mk false false ((0 : UInt8)) 0 ([]))) (((n : Nat) : Int)) (IntKind.wrap .i64 (1 + ((bringI how.x1 8)))) ((digI ((50 : UInt8)))) (decide (IntKind.wrap .i64 (2 * IntKind.wrap .i64 (1 + ((bringI how.x0 2)))) < ((n : Nat) : Int))))).low)), (.slice A50 ((((toldI ((Past.mk false false ((0 : UInt8)) 0 ([]))) (((n : Nat) : Int)) (IntKind.wrap .i64 (1 + ((bringI how.x1 8)))) ((digI ((50 : UInt8)))) (decide (IntKind.wrap .i64 (2 * IntKind.wrap .i64 (1 + ((bringI how.x0 2)))) < ((n : Nat) : Int))))).marks).length) cap51), (.slice A52 ((((toldI ((Past.mk false false ((0 : UInt8)) 0 ([]))) (((n : Nat) : Int)) (IntKind.wrap .i64 (1 + ((bringI how.x1 8)))) ((digI ((50 : UInt8)))) (decide (IntKind.wrap .i64 (2 * IntKind.wrap .i64 (1 + ((bringI how.x0 2)))) < ((n : Nat) : Int))))).p).length) cap53), (.slice A54 ((((toldI ((Past.mk false false ((0 : UInt8)) 0 ([]))) (((n : Nat) : Int)) (IntKind.wrap .i64 (1 + ((bringI how.x1 8)))) ((digI ((50 : UInt8)))) (decide (IntKind.wrap .i64 (2 * IntKind.wrap .i64 (1 + ((bringI how.x0 2)))) < ((n : Nat) : Int))))).q).length) cap55)]), (b39, 46, [(.bool false), (.bool false), (.int .u8 0), (.int .i64 0), (.slice none 0 0)]), (b6, 28, ((digI ((50 : UInt8)))).cells), (b5, 41, how.cells)] ++ (Option.toList lsO ++ [])) := hB
    refine wlThen (wcSeq (wcSeq (wcRegion ?_)))
    refine wlVal (opMove rfl) rfl ?_
    refine wlVal (opMove rfl) rfl ?_
    refine wlVal (opLeq rfl rfl) rfl ?_
    refine wlThen ?_
    cases h57 : decide (((n : Nat) : Int) ≤ IntKind.wrap .i64 (1 + ((bringI how.x0 2))))
    ·
     skip
     refine wcCondF rfl ?_
     refine wcSkip ?_
     refine wcOf ?_
     refine wcRegion ?_
     refine wlVal (opMove rfl) rfl ?_
     refine wlVal (opLoadRow (cs := [(.int .i64 (((toldI ((Past.mk false false ((0 : UInt8)) 0 ([]))) (((n : Nat) : Int)) (IntKind.wrap .i64 (1 + ((bringI how.x1 8)))) ((digI ((50 : UInt8)))) (decide (IntKind.wrap .i64 (2 * IntKind.wrap .i64 (1 + ((bringI how.x0 2)))) < ((n : Nat) : Int))))).node)), (.int .i64 (((toldI ((Past.mk false false ((0 : UInt8)) 0 ([]))) (((n : Nat) : Int)) (IntKind.wrap .i64 (1 + ((bringI how.x1 8)))) ((digI ((50 : UInt8)))) (decide (IntKind.wrap .i64 (2 * IntKind.wrap .i64 (1 + ((bringI how.x0 2)))) < ((n : Nat) : Int))))).view)), (.int .i64 (((toldI ((Past.mk false false ((0 : UInt8)) 0 ([]))) (((n : Nat) : Int)) (IntKind.wrap .i64 (1 + ((bringI how.x1 8)))) ((digI ((50 : UInt8)))) (decide (IntKind.wrap .i64 (2 * IntKind.wrap .i64 (1 + ((bringI how.x0 2)))) < ((n : Nat) : Int))))).low)), (.slice A50 ((((toldI ((Past.mk false false ((0 : UInt8)) 0 ([]))) (((n : Nat) : Int)) (IntKind.wrap .i64 (1 + ((bringI how.x1 8)))) ((digI ((50 : UInt8)))) (decide (IntKind.wrap .i64 (2 * IntKind.wrap .i64 (1 + ((bringI how.x0 2)))) < ((n : Nat) : Int))))).marks).length) cap51), (.slice A52 ((((toldI ((Past.mk false false ((0 : UInt8)) 0 ([]))) (((n : Nat) : Int)) (IntKind.wrap .i64 (1 + ((bringI how.x1 8)))) ((digI ((50 : UInt8)))) (decide (IntKind.wrap .i64 (2 * IntKind.wrap .i64 (1 + ((bringI how.x0 2)))) < ((n : Nat) : Int))))).p).length) cap53), (.slice A54 ((((toldI ((Past.mk false false ((0 : UInt8)) 0 ([]))) (((n : Nat) : Int)) (IntKind.wrap .i64 (1 + ((bringI how.x1 8)))) ((digI ((50 : UInt8)))) (decide (IntKind.wrap .i64 (2 * IntKind.wrap .i64 (1 + ((bringI how.x0 2)))) < ((n : Nat) : Int))))).q).length) cap55)]) rfl (hB.range (i := 0) (m := 6) rfl rfl) row49 rfl) rfl ?_
     refine wlBuildSlice (α := Change) (ps := [(0, .tmp 81)]) (xs := [((toldI ((Past.mk false false ((0 : UInt8)) 0 ([]))) (((n : Nat) : Int)) (IntKind.wrap .i64 (1 + ((bringI how.x1 8)))) ((digI ((50 : UInt8)))) (decide (IntKind.wrap .i64 (2 * IntKind.wrap .i64 (1 + ((bringI how.x0 2)))) < ((n : Nat) : Int)))))]) (rows := [[(.int .i64 (((toldI ((Past.mk false false ((0 : UInt8)) 0 ([]))) (((n : Nat) : Int)) (IntKind.wrap .i64 (1 + ((bringI how.x1 8)))) ((digI ((50 : UInt8)))) (decide (IntKind.wrap .i64 (2 * IntKind.wrap .i64 (1 + ((bringI how.x0 2)))) < ((n : Nat) : Int))))).node)), (.int .i64 (((toldI ((Past.mk false false ((0 : UInt8)) 0 ([]))) (((n : Nat) : Int)) (IntKind.wrap .i64 (1 + ((bringI how.x1 8)))) ((digI ((50 : UInt8)))) (decide (IntKind.wrap .i64 (2 * IntKind.wrap .i64 (1 + ((bringI how.x0 2)))) < ((n : Nat) : Int))))).view)), (.int .i64 (((toldI ((Past.mk false false ((0 : UInt8)) 0 ([]))) (((n : Nat) : Int)) (IntKind.wrap .i64 (1 + ((bringI how.x1 8)))) ((digI ((50 : UInt8)))) (decide (IntKind.wrap .i64 (2 * IntKind.wrap .i64 (1 + ((bringI how.x0 2)))) < ((n : Nat) : Int))))).low)), (.slice A50 ((((toldI ((Past.mk false false ((0 : UInt8)) 0 ([]))) (((n : Nat) : Int)) (IntKind.wrap .i64 (1 + ((bringI how.x1 8)))) ((digI ((50 : UInt8)))) (decide (IntKind.wrap .i64 (2 * IntKind.wrap .i64 (1 + ((bringI how.x0 2)))) < ((n : Nat) : Int))))).marks).length) cap51), (.slice A52 ((((toldI ((Past.mk false false ((0 : UInt8)) 0 ([]))) (((n : Nat) : Int)) (IntKind.wrap .i64 (1 + ((bringI how.x1 8)))) ((digI ((50 : UInt8)))) (decide (IntKind.wrap .i64 (2 * IntKind.wrap .i64 (1 + ((bringI how.x0 2)))) < ((n : Nat) : Int))))).p).length) cap53), (.slice A54 ((((toldI ((Past.mk false false ((0 : UInt8)) 0 ([]))) (((n : Nat) : Int)) (IntKind.wrap .i64 (1 + ((bringI how.x1 8)))) ((digI ((50 : UInt8)))) (decide (IntKind.wrap .i64 (2 * IntKind.wrap .i64 (1 + ((bringI how.x0 2)))) < ((n : Nat) : Int))))).q).length) cap55)]]) elo25 rfl rfl hC hB rfl rfl rfl ⟨(Change.mkIs (x := ((toldI ((Past.mk false false ((0 : UInt8)) 0 ([]))) (((n : Nat) : Int)) (IntKind.wrap .i64 (1 + ((bringI how.x1 8)))) ((digI ((50 : UInt8)))) (decide (IntKind.wrap .i64 (2 * IntKind.wrap .i64 (1 + ((bringI how.x0 2)))) < ((n : Nat) : Int)))))) hs45 hs47 hs49), trivial⟩ rfl ?_; intro b58 G w hk hC hB hs59
     replace hlies := hlies.mono hk.gle; replace hpasts := hpasts.mono hk.gle; replace hOls := hOls.mono hk.gle
     refine wlAppend (α := Change) (bl := [(b56, 49, [(.int .i64 (((toldI ((Past.mk false false ((0 : UInt8)) 0 ([]))) (((n : Nat) : Int)) (IntKind.wrap .i64 (1 + ((bringI how.x1 8)))) ((digI ((50 : UInt8)))) (decide (IntKind.wrap .i64 (2 * IntKind.wrap .i64 (1 + ((bringI how.x0 2)))) < ((n : Nat) : Int))))).node)), (.int .i64 (((toldI ((Past.mk false false ((0 : UInt8)) 0 ([]))) (((n : Nat) : Int)) (IntKind.wrap .i64 (1 + ((bringI how.x1 8)))) ((digI ((50 : UInt8)))) (decide (IntKind.wrap .i64 (2 * IntKind.wrap .i64 (1 + ((bringI how.x0 2)))) < ((n : Nat) : Int))))).view)), (.int .i64 (((toldI ((Past.mk false false ((0 : UInt8)) 0 ([]))) (((n : Nat) : Int)) (IntKind.wrap .i64 (1 + ((bringI how.x1 8)))) ((digI ((50 : UInt8)))) (decide (IntKind.wrap .i64 (2 * IntKind.wrap .i64 (1 + ((bringI how.x0 2)))) < ((n : Nat) : Int))))).low)), (.slice A50 ((((toldI ((Past.mk false false ((0 : UInt8)) 0 ([]))) (((n : Nat) : Int)) (IntKind.wrap .i64 (1 + ((bringI how.x1 8)))) ((digI ((50 : UInt8)))) (decide (IntKind.wrap .i64 (2 * IntKind.wrap .i64 (1 + ((bringI how.x0 2)))) < ((n : Nat) : Int))))).marks).length) cap51), (.slice A52 ((((toldI ((Past.mk false false ((0 : UInt8)) 0 ([]))) (((n : Nat) : Int)) (IntKind.wrap .i64 (1 + ((bringI how.x1 8)))) ((digI ((50 : UInt8)))) (decide (IntKind.wrap .i64 (2 * IntKind.wrap .i64 (1 + ((bringI how.x0 2)))) < ((n : Nat) : Int))))).p).length) cap53), (.slice A54 ((((toldI ((Past.mk false false ((0 : UInt8)) 0 ([]))) (((n : Nat) : Int)) (IntKind.wrap .i64 (1 + ((bringI how.x1 8)))) ((digI ((50 : UInt8)))) (decide (IntKind.wrap .i64 (2 * IntKind.wrap .i64 (1 + ((bringI how.x0 2)))) < ((n : Nat) : Int))))).q).length) cap55)]), (b39, 46, [(.bool false), (.bool false), (.int .u8 0), (.int .i64 0), (.slice none 0 0)]), (b6, 28, ((digI ((50 : UInt8)))).cells), (b5, 41, how.cells)]) (o := lsO) (r := []) elo25 hC hB rfl rfl hOls hs59 (by have q1 := kl_len hI; have q2 := h12; simp only [List.length_cons, List.length_nil]; omega) rfl rfl ?_; intro A60 cap61 o62 w hC hB hO63
     refine wlVal (opAssign rfl) rfl ?_
     refine wlNil ?_
     refine wcOf ?_
     refine wcRegion ?_
     refine wlVal (opMove rfl) rfl ?_
     refine wlVal (opIncr rfl rfl (by have q := of_decide_eq_true h7; rw [n3 h12] at q; have q2 := h12; omega)) rfl ?_
     refine wlVal (opAssign rfl) rfl ?_
     refine wlRound ?_
     exact (IH0 (n + 1, A60, cap61, o62, (ls ++ [((toldI ((Past.mk false false ((0 : UInt8)) 0 ([]))) (((n : Nat) : Int)) (IntKind.wrap .i64 (1 + ((bringI how.x1 8)))) ((digI ((50 : UInt8)))) (decide (IntKind.wrap .i64 (2 * IntKind.wrap .i64 (1 + ((bringI how.x0 2)))) < ((n : Nat) : Int)))))])) _ _ ⟨hC, hB.tail.tail, hlies, hpasts, hO63, (Nat.succ_pos _), (by have q := of_decide_eq_true h7; rw [n3 h12] at q; have q2 := h12; omega), (kl_told h12 hI hn1 (of_decide_eq_false h57))⟩ (by have q := of_decide_eq_true h7; rw [n3 h12] at q; have q2 := h12; show 9 - (n + 1) < 9 - n; omega)).sub (fun _ ha => ((((((((ha.start.cons ha (t := 0) rfl).cons ha (t := 1) rfl).cons ha (t := 5) rfl).cons ha (t := 7) rfl).cons ha (t := 8) rfl).cons ha (t := 9) rfl).cons ha (t := 10) rfl).cons ha (t := 11) rfl))
    ·
     skip
     refine wcCondT rfl ?_
     refine wcSeq (wcRegion ?_)
     refine wlVal (opMove rfl) rfl ?_
     refine wlCallG hC hB rfl co18 rfl rfl (plain_ret _ _ hC.holds (((n : Nat) : Int))) ?_; rintro v66 G w hk hC hB ⟨r64, rfl, hr65⟩
     replace hlies := hlies.mono hk.gle; replace hpasts := hpasts.mono hk.gle; replace hOls := hOls.mono hk.gle
     obtain ⟨v67, v69, v71, rfl, hs68, hs70, hs72⟩ := Change.opIs hr65
     obtain ⟨A73, cap74, rfl⟩ := hs68.form
     obtain ⟨A75, cap76, rfl⟩ := hs70.form
     obtain ⟨A77, cap78, rfl⟩ := hs72.form
     refine wlStore 0 (vs := [(.int .i64 (((plainI (((n : Nat) : Int)))).node)), (.int .i64 (((plainI (((n : Nat) : Int)))).view)), (.int .i64 (((plainI (((n : Nat) : Int)))).low)), (.slice A73 ((((plainI (((n : Nat) : Int)))).marks).length) cap74), (.slice A75 ((((plainI (((n : Nat) : Int)))).p).length) cap76), (.slice A77 ((((plainI (((n : Nat) : Int)))).q).length) cap78)]) (cs := [(.int .i64 (((toldI ((Past.mk false false ((0 : UInt8)) 0 ([]))) (((n : Nat) : Int)) (IntKind.wrap .i64 (1 + ((bringI how.x1 8)))) ((digI ((50 : UInt8)))) (decide (IntKind.wrap .i64 (2 * IntKind.wrap .i64 (1 + ((bringI how.x0 2)))) < ((n : Nat) : Int))))).node)), (.int .i64 (((toldI ((Past.mk false false ((0 : UInt8)) 0 ([]))) (((n : Nat) : Int)) (IntKind.wrap .i64 (1 + ((bringI how.x1 8)))) ((digI ((50 : UInt8)))) (decide (IntKind.wrap .i64 (2 * IntKind.wrap .i64 (1 + ((bringI how.x0 2)))) < ((n : Nat) : Int))))).view)), (.int .i64 (((toldI ((Past.mk false false ((0 : UInt8)) 0 ([]))) (((n : Nat) : Int)) (IntKind.wrap .i64 (1 + ((bringI how.x1 8)))) ((digI ((50 : UInt8)))) (decide (IntKind.wrap .i64 (2 * IntKind.wrap .i64 (1 + ((bringI how.x0 2)))) < ((n : Nat) : Int))))).low)), (.slice A50 ((((toldI ((Past.mk false false ((0 : UInt8)) 0 ([]))) (((n : Nat) : Int)) (IntKind.wrap .i64 (1 + ((bringI how.x1 8)))) ((digI ((50 : UInt8)))) (decide (IntKind.wrap .i64 (2 * IntKind.wrap .i64 (1 + ((bringI how.x0 2)))) < ((n : Nat) : Int))))).marks).length) cap51), (.slice A52 ((((toldI ((Past.mk false false ((0 : UInt8)) 0 ([]))) (((n : Nat) : Int)) (IntKind.wrap .i64 (1 + ((bringI how.x1 8)))) ((digI ((50 : UInt8)))) (decide (IntKind.wrap .i64 (2 * IntKind.wrap .i64 (1 + ((bringI how.x0 2)))) < ((n : Nat) : Int))))).p).length) cap53), (.slice A54 ((((toldI ((Past.mk false false ((0 : UInt8)) 0 ([]))) (((n : Nat) : Int)) (IntKind.wrap .i64 (1 + ((bringI how.x1 8)))) ((digI ((50 : UInt8)))) (decide (IntKind.wrap .i64 (2 * IntKind.wrap .i64 (1 + ((bringI how.x0 2)))) < ((n : Nat) : Int))))).q).length) cap55)]) (cs' := [(.int .i64 (((plainI (((n : Nat) : Int)))).node)), (.int .i64 (((plainI (((n : Nat) : Int)))).view)), (.int .i64 (((plainI (((n : Nat) : Int)))).low)), (.slice A73 ((((plainI (((n : Nat) : Int)))).marks).length) cap74), (.slice A75 ((((plainI (((n : Nat) : Int)))).p).length) cap76), (.slice A77 ((((plainI (((n : Nat) : Int)))).q).length) cap78)]) hC hB rfl rfl rfl sz49 rfl rfl rfl (by simp [Mark.cells, Stand.cells]) rfl rfl ?_; intro w hC hB
     replace hB : Bxs G w w0.heap.size ([(b56, 49, [(.int .i64 (((plainI (((n : Nat) : Int)))).node)), (.int .i64 (((plainI (((n : Nat) : Int)))).view)), (.int .i64 (((plainI (((n : Nat) : Int)))).low)), (.slice A73 ((((plainI (((n : Nat) : Int)))).marks).length) cap74), (.slice A75 ((((plainI (((n : Nat) : Int)))).p).length) cap76), (.slice A77 ((((plainI (((n : Nat) : Int)))).q).length) cap78)]), (b39, 46, [(.bool false), (.bool false), (.int .u8 0), (.int .i64 0), (.slice none 0 0)]), (b6, 28, ((digI ((50 : UInt8)))).cells), (b5, 41, how.cells)] ++ (Option.toList lsO ++ [])) := hB
     refine wlThen (wcSeq (wcRegion ?_))
     refine wlVal (opMove rfl) rfl ?_
     refine wlVal (opDecr rfl rfl hn1 (by have q := of_decide_eq_true h7; rw [n3 h12] at q; have q2 := h12; omega)) rfl ?_
     refine wlVal (opMove rfl) rfl ?_
     refine wlVal (opLen rfl isl39) rfl ?_
     refine wlVal (opLssN rfl rfl) rfl ?_
     refine wlThen ?_
     cases h79 : decide ((n - 1) < lies.length)
     ·
      skip
      refine wcCondF rfl ?_
      refine wcSkip ?_
      refine wcOf ?_
      refine wcRegion ?_
      refine wlVal (opMove rfl) rfl ?_
      refine wlVal (opLoadRow (cs := [(.int .i64 (((plainI (((n : Nat) : Int)))).node)), (.int .i64 (((plainI (((n : Nat) : Int)))).view)), (.int .i64 (((plainI (((n : Nat) : Int)))).low)), (.slice A73 ((((plainI (((n : Nat) : Int)))).marks).length) cap74), (.slice A75 ((((plainI (((n : Nat) : Int)))).p).length) cap76), (.slice A77 ((((plainI (((n : Nat) : Int)))).q).length) cap78)]) rfl (hB.range (i := 0) (m := 6) rfl rfl) row49 rfl) rfl ?_
      refine wlBuildSlice (α := Change) (ps := [(0, .tmp 81)]) (xs := [((plainI (((n : Nat) : Int))))]) (rows := [[(.int .i64 (((plainI (((n : Nat) : Int)))).node)), (.int .i64 (((plainI (((n : Nat) : Int)))).view)), (.int .i64 (((plainI (((n : Nat) : Int)))).low)), (.slice A73 ((((plainI (((n : Nat) : Int)))).marks).length) cap74), (.slice A75 ((((plainI (((n : Nat) : Int)))).p).length) cap76), (.slice A77 ((((plainI (((n : Nat) : Int)))).q).length) cap78)]]) elo25 rfl rfl hC hB rfl rfl rfl ⟨(Change.mkIs (x := ((plainI (((n : Nat) : Int))))) hs68 hs70 hs72), trivial⟩ rfl ?_; intro b80 G w hk hC hB hs81
      replace hlies := hlies.mono hk.gle; replace hpasts := hpasts.mono hk.gle; replace hOls := hOls.mono hk.gle
      refine wlAppend (α := Change) (bl := [(b56, 49, [(.int .i64 (((plainI (((n : Nat) : Int)))).node)), (.int .i64 (((plainI (((n : Nat) : Int)))).view)), (.int .i64 (((plainI (((n : Nat) : Int)))).low)), (.slice A73 ((((plainI (((n : Nat) : Int)))).marks).length) cap74), (.slice A75 ((((plainI (((n : Nat) : Int)))).p).length) cap76), (.slice A77 ((((plainI (((n : Nat) : Int)))).q).length) cap78)]), (b39, 46, [(.bool false), (.bool false), (.int .u8 0), (.int .i64 0), (.slice none 0 0)]), (b6, 28, ((digI ((50 : UInt8)))).cells), (b5, 41, how.cells)]) (o := lsO) (r := []) elo25 hC hB rfl rfl hOls hs81 (by have q1 := kl_len hI; have q2 := h12; simp only [List.length_cons, List.length_nil]; omega) rfl rfl ?_; intro A82 cap83 o84 w hC hB hO85
      refine wlVal (opAssign rfl) rfl ?_
      refine wlNil ?_
      refine wcOf ?_
      refine wcRegion ?_
      refine wlVal (opMove rfl) rfl ?_
      refine wlVal (opIncr rfl rfl (by have q := of_decide_eq_true h7; rw [n3 h12] at q; have q2 := h12; omega)) rfl ?_
      refine wlVal (opAssign rfl) rfl ?_
      refine wlRound ?_
      exact (IH0 (n + 1, A82, cap83, o84, (ls ++ [((plainI (((n : Nat) : Int))))])) _ _ ⟨hC, hB.tail.tail, hlies, hpasts, hO85, (Nat.succ_pos _), (by have q := of_decide_eq_true h7; rw [n3 h12] at q; have q2 := h12; omega), (kl_liar h12 hI hn1 rfl (of_decide_eq_true h57) (by show 1 ≤ 40; decide) (by show 0 ≤ 40; decide))⟩ (by have q := of_decide_eq_true h7; rw [n3 h12] at q; have q2 := h12; show 9 - (n + 1) < 9 - n; omega)).sub (fun _ ha => ((((((((ha.start.cons ha (t := 0) rfl).cons ha (t := 1) rfl).cons ha (t := 5) rfl).cons ha (t := 7) rfl).cons ha (t := 8) rfl).cons ha (t := 9) rfl).cons ha (t := 10) rfl).cons ha (t := 11) rfl))
     ·
      skip
      refine wcCondT rfl ?_
      refine wcSeq (wcRegion ?_)
      refine wlVal (opMove rfl) rfl ?_
      refine wlVal (opMove rfl) rfl ?_
      refine wlVal (opDecr rfl rfl hn1 (by have q := of_decide_eq_true h7; rw [n3 h12] at q; have q2 := h12; omega)) rfl ?_
      obtain ⟨x86, hx87⟩ : ∃ y_, lies[(n - 1)]? = some y_ := ⟨_, List.getElem?_eq_getElem (of_decide_eq_true h79)⟩
      obtain ⟨b88, o89, row90, hA93, hr91, hi92⟩ := hlies.elem hx87; subst hA93
      obtain ⟨v94, v96, v98, rfl, hs95, hs97, hs99⟩ := Liar.opIs hi92
      obtain ⟨A100, cap101, rfl⟩ := hs95.form
      obtain ⟨A102, cap103, rfl⟩ := hs97.form
      obtain ⟨A104, cap105, rfl⟩ := hs99.form
      refine wlVal (opIndexAddr rfl rfl slo39 (of_decide_eq_true h79)) rfl ?_
      refine wlVal (opFieldAddr rfl fo53_0) rfl ?_
      refine wlVal (opLoadRow (cs := [(.int .i64 x86.c.node), (.int .i64 x86.c.view), (.int .i64 x86.c.low), (.slice A100 x86.c.marks.length cap101), (.slice A102 x86.c.p.length cap103), (.slice A104 x86.c.q.length cap105)]) rfl (RowG.range hC.holds hr91) row49 rfl) rfl ?_
      refine wlBuildSlice (α := Change) (ps := [(0, .tmp 73)]) (xs := [x86.c]) (rows := [[(.int .i64 x86.c.node), (.int .i64 x86.c.view), (.int .i64 x86.c.low), (.slice A100 x86.c.marks.length cap101), (.slice A102 x86.c.p.length cap103), (.slice A104 x86.c.q.length cap105)]]) elo25 rfl rfl hC hB rfl rfl rfl ⟨(Change.mkIs (x := x86.c) hs95 hs97 hs99), trivial⟩ rfl ?_; intro b106 G w hk hC hB hs107
      replace hlies := hlies.mono hk.gle; replace hpasts := hpasts.mono hk.gle; replace hOls := hOls.mono hk.gle
      refine wlCallG hC hB rfl co9 rfl rfl (copied_ret _ _ hC.holds _ ([x86.c]) hs107) ?_; rintro v110 G w hk hC hB ⟨r108, rfl, hr109⟩
      replace hlies := hlies.mono hk.gle; replace hpasts := hpasts.mono hk.gle; replace hOls := hOls.mono hk.gle
      obtain ⟨A111, cap112, rfl⟩ := hr109.form
      obtain ⟨x113, hx114⟩ : ∃ y_, ((copiedI ([x86.c])))[0]? = some y_ := ⟨_, List.getElem?_eq_getElem (by simp [copiedI])⟩
      obtain ⟨b115, o116, row117, hA120, hr118, hi119⟩ := hr109.elem hx114; subst hA120
      obtain ⟨v121, v123, v125, rfl, hs122, hs124, hs126⟩ := Change.opIs hi119
      obtain ⟨A127, cap128, rfl⟩ := hs122.form
      obtain ⟨A129, cap130, rfl⟩ := hs124.form
      obtain ⟨A131, cap132, rfl⟩ := hs126.form
      refine wlVal (opIndexAddr rfl rfl slo25 (by simp [copiedI])) rfl ?_
      refine wlVal (opLoadRow (cs := [(.int .i64 x113.node), (.int .i64 x113.view), (.int .i64 x113.low), (.slice A127 x113.marks.length cap128), (.slice A129 x113.p.length cap130), (.slice A131 x113.q.length cap132)]) rfl (RowG.range hC.holds hr118) row49 rfl) rfl ?_
      refine wlStore 0 (vs := [(.int .i64 x113.node), (.int .i64 x113.view), (.int .i64 x113.low), (.slice A127 x113.marks.length cap128), (.slice A129 x113.p.length cap130), (.slice A131 x113.q.length cap132)]) (cs := [(.int .i64 (((plainI (((n : Nat) : Int)))).node)), (.int .i64 (((plainI (((n : Nat) : Int)))).view)), (.int .i64 (((plainI (((n : Nat) : Int)))).low)), (.slice A73 ((((plainI (((n : Nat) : Int)))).marks).length) cap74), (.slice A75 ((((plainI (((n : Nat) : Int)))).p).length) cap76), (.slice A77 ((((plainI (((n : Nat) : Int)))).q).length) cap78)]) (cs' := [(.int .i64 x113.node), (.int .i64 x113.view), (.int .i64 x113.low), (.slice A127 x113.marks.length cap128), (.slice A129 x113.p.length cap130), (.slice A131 x113.q.length cap132)]) hC hB rfl rfl rfl sz49 rfl rfl rfl (by simp [Mark.cells, Stand.cells]) rfl rfl ?_; intro w hC hB
      replace hB : Bxs G w w0.heap.size ([(b56, 49, [(.int .i64 x113.node), (.int .i64 x113.view), (.int .i64 x113.low), (.slice A127 x113.marks.length cap128), (.slice A129 x113.p.length cap130), (.slice A131 x113.q.length cap132)]), (b39, 46, [(.bool false), (.bool false), (.int .u8 0), (.int .i64 0), (.slice none 0 0)]), (b6, 28, ((digI ((50 : UInt8)))).cells), (b5, 41, how.cells)] ++ (Option.toList lsO ++ [])) := hB
      refine wlThen (wcRegion ?_)
      refine wlVal (opMove rfl) rfl ?_
      refine wlVal (opFieldAddr rfl fo49_0) rfl ?_
      refine wlStore 0 (vs := [(.int .i64 (((n : Nat) : Int)))]) (cs := [(.int .i64 x113.node), (.int .i64 x113.view), (.int .i64 x113.low), (.slice A127 x113.marks.length cap128), (.slice A129 x113.p.length cap130), (.slice A131 x113.q.length cap132)]) (cs' := [(.int .i64 (((n : Nat) : Int))), (.int .i64 x113.view), (.int .i64 x113.low), (.slice A127 x113.marks.length cap128), (.slice A129 x113.p.length cap130), (.slice A131 x113.q.length cap132)]) hC hB rfl rfl rfl sz3 rfl rfl rfl (by simp [Mark.cells, Stand.cells]) rfl rfl ?_; intro w hC hB
      replace hB : Bxs G w w0.heap.size ([(b56, 49, [(.int .i64 (((n : Nat) : Int))), (.int .i64 x113.view), (.int .i64 x113.low), (.slice A127 x113.marks.length cap128), (.slice A129 x113.p.length cap130), (.slice A131 x113.q.length cap132)]), (b39, 46, [(.bool false), (.bool false), (.int .u8 0), (.int .i64 0), (.slice none 0 0)]), (b6, 28, ((digI ((50 : UInt8)))).cells), (b5, 41, how.cells)] ++ (Option.toList lsO ++ [])) := hB
      refine wlThen (wcRegion ?_)
      refine wlVal (opMove rfl) rfl ?_
      refine wlVal (opLoadRow (cs := [(.int .i64 (((n : Nat) : Int))), (.int .i64 x113.view), (.int .i64 x113.low), (.slice A127 x113.marks.length cap128), (.slice A129 x113.p.length cap130), (.slice A131 x113.q.length cap132)]) rfl (hB.range (i := 0) (m := 6) rfl rfl) row49 rfl) rfl ?_
      refine wlBuildSlice (α := Change) (ps := [(0, .tmp 81)]) (xs := [(Change.mk (((n : Nat) : Int)) x113.view x113.low x113.marks x113.p x113.q)]) (rows := [[(.int .i64 (((n : Nat) : Int))), (.int .i64 x113.view), (.int .i64 x113.low), (.slice A127 x113.marks.length cap128), (.slice A129 x113.p.length cap130), (.slice A131 x113.q.length cap132)]]) elo25 rfl rfl hC hB rfl rfl rfl ⟨(Change.mkIs (x := (Change.mk (((n : Nat) : Int)) x113.view x113.low x113.marks x113.p x113.q)) hs122 hs124 hs126), trivial⟩ rfl ?_; intro b133 G w hk hC hB hs134
      replace hlies := hlies.mono hk.gle; replace hpasts := hpasts.mono hk.gle; replace hOls := hOls.mono hk.gle
      refine wlAppend (α := Change) (bl := [(b56, 49, [(.int .i64 (((n : Nat) : Int))), (.int .i64 x113.view), (.int .i64 x113.low), (.slice A127 x113.marks.length cap128), (.slice A129 x113.p.length cap130), (.slice A131 x113.q.length cap132)]), (b39, 46, [(.bool false), (.bool false), (.int .u8 0), (.int .i64 0), (.slice none 0 0)]), (b6, 28, ((digI ((50 : UInt8)))).cells), (b5, 41, how.cells)]) (o := lsO) (r := []) elo25 hC hB rfl rfl hOls hs134 (by have q1 := kl_len hI; have q2 := h12; simp only [List.length_cons, List.length_nil]; omega) rfl rfl ?_; intro A135 cap136 o137 w hC hB hO138
      refine wlVal (opAssign rfl) rfl ?_
      refine wlNil ?_
      refine wcOf ?_
      refine wcRegion ?_
      refine wlVal (opMove rfl) rfl ?_
      refine wlVal (opIncr rfl rfl (by have q := of_decide_eq_true h7; rw [n3 h12] at q; have q2 := h12; omega)) rfl ?_
      refine wlVal (opAssign rfl) rfl ?_
      refine wlRound ?_
      exact (IH0 (n + 1, A135, cap136, o137, (ls ++ [(Change.mk (((n : Nat) : Int)) x113.view x113.low x113.marks x113.p x113.q)])) _ _ ⟨hC, hB.tail.tail, hlies, hpasts, hO138, (Nat.succ_pos _), (by have q := of_decide_eq_true h7; rw [n3 h12] at q; have q2 := h12; omega), (kl_liar h12 hI hn1 rfl (of_decide_eq_true h57) (cpy_lens hx114).1 (cpy_lens hx114).2)⟩ (by have q := of_decide_eq_true h7; rw [n3 h12] at q; have q2 := h12; show 9 - (n + 1) < 9 - n; omega)).sub (fun _ ha => ((((((((ha.start.cons ha (t := 0) rfl).cons ha (t := 1) rfl).cons ha (t := 5) rfl).cons ha (t := 7) rfl).cons ha (t := 8) rfl).cons ha (t := 9) rfl).cons ha (t := 10) rfl).cons ha (t := 11) rfl))
   ·
    skip
    refine wcCondT rfl ?_
    refine wcRegion ?_
    refine wlVal (opMove rfl) rfl ?_
    refine wlVal (opMove rfl) rfl ?_
    refine wlVal (opDecr rfl rfl hn1 (by have q := of_decide_eq_true h7; rw [n3 h12] at q; have q2 := h12; omega)) rfl ?_
    obtain ⟨x139, hx140⟩ : ∃ y_, pasts[(n - 1)]? = some y_ := ⟨_, List.getElem?_eq_getElem (of_decide_eq_true h40)⟩
    obtain ⟨b141, o142, row143, hA146, hr144, hi145⟩ := hpasts.elem hx140; subst hA146
    obtain ⟨v147, rfl, hs148⟩ := Past.opIs hi145
    obtain ⟨A149, cap150, rfl⟩ := hs148.form
    refine wlVal (opIndexAddr rfl rfl slo40 (of_decide_eq_true h40)) rfl ?_
    refine wlVal (opLoadRow (cs := [(.bool x139.other), (.bool x139.same), (.int .u8 (((x139.b).toNat : Int))), (.int .i64 x139.view), (.slice A149 x139.proposed.length cap150)]) rfl (RowG.range hC.holds hr144) row46 rfl) rfl ?_
    refine wlStore 0 (vs := [(.bool x139.other), (.bool x139.same), (.int .u8 (((x139.b).toNat : Int))), (.int .i64 x139.view), (.slice A149 x139.proposed.length cap150)]) (cs := [(.bool false), (.bool false), (.int .u8 0), (.int .i64 0), (.slice none 0 0)]) (cs' := [(.bool x139.other), (.bool x139.same), (.int .u8 (((x139.b).toNat : Int))), (.int .i64 x139.view), (.slice A149 x139.proposed.length cap150)]) hC hB rfl rfl rfl sz46 rfl rfl rfl (by simp [Mark.cells, Stand.cells]) rfl rfl ?_; intro w hC hB
    replace hB : Bxs G w w0.heap.size ([(b39, 46, [(.bool x139.other), (.bool x139.same), (.int .u8 (((x139.b).toNat : Int))), (.int .i64 x139.view), (.slice A149 x139.proposed.length cap150)]), (b6, 28, ((digI ((50 : UInt8)))).cells), (b5, 41, how.cells)] ++ (Option.toList lsO ++ [])) := hB
    refine wlThen (wcSeq (wcRegion ?_))
    refine wlVal (opLoadRow (cs := [(.bool x139.other), (.bool x139.same), (.int .u8 (((x139.b).toNat : Int))), (.int .i64 x139.view), (.slice A149 x139.proposed.length cap150)]) rfl (hB.range (i := 0) (m := 5) rfl rfl) row46 rfl) rfl ?_
    refine wlVal (opMove rfl) rfl ?_
    refine wlVal (opMove rfl) rfl ?_
    refine wlVal (opLoadRow (cs := ((digI ((50 : UInt8)))).cells) rfl (hB.range (i := 1) (m := 32) rfl (by simp [Mark.cells, Stand.cells])) row28 (by simp [Mark.cells, Stand.cells])) rfl ?_
    refine wlVal (opMove rfl) rfl ?_
    refine wlVal (opMove rfl) rfl ?_
    refine wlVal (opMul rfl rfl) rfl ?_
    refine wlVal (opGtr rfl rfl) rfl ?_
    refine wlCallG hC hB rfl co17 rfl rfl (told_ret _ _ hC.holds _ x139 (Past.mkIs (x := x139) hs148) (((n : Nat) : Int)) (IntKind.wrap .i64 (1 + ((bringI how.x1 8)))) ((digI ((50 : UInt8)))) (decide (IntKind.wrap .i64 (2 * IntKind.wrap .i64 (1 + ((bringI how.x0 2)))) < ((n : Nat) : Int)))) ?_; rintro v153 G w hk hC hB ⟨r151, rfl, hr152⟩
    replace hlies := hlies.mono hk.gle; replace hpasts := hpasts.mono hk.gle; replace hOls := hOls.mono hk.gle
    obtain ⟨v154, v156, v158, rfl, hs155, hs157, hs159⟩ := Change.opIs hr152
    obtain ⟨A160, cap161, rfl⟩ := hs155.form
    obtain ⟨A162, cap163, rfl⟩ := hs157.form
    obtain ⟨A164, cap165, rfl⟩ := hs159.form
    refine wlAlloc hC hB zero49 rfl ?_; intro b166 w hk hC hB
    replace hB : Bxs G w w0.heap.size ([(b166, 49, [(.int .i64 0), (.int .i64 0), (.int .i64 0), (.slice none 0 0), (.slice none 0 0), (.slice none 0 0)]), (b39, 46, [(.bool x139.other), (.bool x139.same), (.int .u8 (((x139.b).toNat : Int))), (.int .i64 x139.view), (.slice A149 x139.proposed.length cap150)]), (b6, 28, ((digI ((50 : UInt8)))).cells), (b5, 41, how.cells)] ++ (Option.toList lsO ++ [])) := hB
    refine wlStore 0 (vs := [(.int .i64 (((toldI x139 (((n : Nat) : Int)) (IntKind.wrap .i64 (1 + ((bringI how.x1 8)))) ((digI ((50 : UInt8)))) (decide (IntKind.wrap .i64 (2 * IntKind.wrap .i64 (1 + ((bringI how.x0 2)))) < ((n : Nat) : Int))))).node)), (.int .i64 (((toldI x139 (((n : Nat) : Int)) (IntKind.wrap .i64 (1 + ((bringI how.x1 8)))) ((digI ((50 : UInt8)))) (decide (IntKind.wrap .i64 (2 * IntKind.wrap .i64 (1 + ((bringI how.x0 2)))) < ((n : Nat) : Int))))).view)), (.int .i64 (((toldI x139 (((n : Nat) : Int)) (IntKind.wrap .i64 (1 + ((bringI how.x1 8)))) ((digI ((50 : UInt8)))) (decide (IntKind.wrap .i64 (2 * IntKind.wrap .i64 (1 + ((bringI how.x0 2)))) < ((n : Nat) : Int))))).low)), (.slice A160 ((((toldI x139 (((n : Nat) : Int)) (IntKind.wrap .i64 (1 + ((bringI how.x1 8)))) ((digI ((50 : UInt8)))) (decide (IntKind.wrap .i64 (2 * IntKind.wrap .i64 (1 + ((bringI how.x0 2)))) < ((n : Nat) : Int))))).marks).length) cap161), (.slice A162 ((((toldI x139 (((n : Nat) : Int)) (IntKind.wrap .i64 (1 + ((bringI how.x1 8)))) ((digI ((50 : UInt8)))) (decide (IntKind.wrap .i64 (2 * IntKind.wrap .i64 (1 + ((bringI how.x0 2)))) < ((n : Nat) : Int))))).p).length) cap163), (.slice A164 ((((toldI x139 (((n : Nat) : Int)) (IntKind.wrap .i64 (1 + ((bringI how.x1 8)))) ((digI ((50 : UInt8)))) (decide (IntKind.wrap .i64 (2 * IntKind.wrap .i64 (1 + ((bringI how.x0 2)))) < ((n : Nat) : Int))))).q).length) cap165)]) (cs := [(.int .i64 0), (.int .i64 0), (.int .i64 0), (.slice none 0 0), (.slice none 0 0), (.slice none 0 0)]) (cs' := [(.int .i64 (((toldI x139 (((n : Nat) : Int)) (IntKind.wrap .i64 (1 + ((bringI how.x1 8)))) ((digI ((50 : UInt8)))) (decide (IntKind.wrap .i64 (2 * IntKind.wrap .i64 (1 + ((bringI how.x0 2)))) < ((n : Nat) : Int))))).node)), (.int .i64 (((toldI x139 (((n : Nat) : Int)) (IntKind.wrap .i64 (1 + ((bringI how.x1 8)))) ((digI ((50 : UInt8)))) (decide (IntKind.wrap .i64 (2 * IntKind.wrap .i64 (1 + ((bringI how.x0 2)))) < ((n : Nat) : Int))))).view)), (.int .i64 (((toldI x139 (((n : Nat) : Int)) (IntKind.wrap .i64 (1 + ((bringI how.x1 8)))) ((digI ((50 : UInt8)))) (decide (IntKind.wrap .i64 (2 * IntKind.wrap .i64 (1 + ((bringI how.x0 2)))) < ((n : Nat) : Int))))).low)), (.slice A160 ((((toldI x139 (((n : Nat) : Int)) (IntKind.wrap .i64 (1 + ((bringI how.x1 8)))) ((digI ((50 : UInt8)))) (decide (IntKind.wrap .i64 (2 * IntKind.wrap .i64 (1 + ((bringI how.x0 2)))) < ((n : Nat) : Int))))).marks).length) cap161), (.slice A162 ((((toldI x139 (((n : Nat) : Int)) (IntKind.wrap .i64 (1 + ((bringI how.x1 8)))) ((digI ((50 : UInt8)))) (decide (IntKind.wrap .i64 (2 * IntKind.wrap .i64 (1 + ((bringI how.x0 2)))) < ((n : Nat) : Int))))).p).length) cap163), (.slice A164 ((((toldI x139 (((n : Nat) : Int)) (IntKind.wrap .i64 (1 + ((bringI how.x1 8)))) ((digI ((50 : UInt8)))) (decide (IntKind.wrap .i64 (2 * IntKind.wrap .i64 (1 + ((bringI how.x0 2)))) < ((n : Nat) : Int))))).q).length) cap165)]) hC hB rfl rfl rfl sz49 rfl rfl rfl (by simp [Mark.cells, Stand.cells]) rfl rfl ?_; intro w hC hB
    replace hB : Bxs G w w0.heap.size ([(b166, 49, [(.int .i64 (((toldI x139 (((n : Nat) : Int)) (IntKind.wrap .i64 (1 + ((bringI how.x1 8)))) ((digI ((50 : UInt8)))) (decide (IntKind.wrap .i64 (2 * IntKind.wrap .i64 (1 + ((bringI how.x0 2)))) < ((n : Nat) : Int))))).node)), (.int .i64 (((toldI x139 (((n : Nat) : Int)) (IntKind.wrap .i64 (1 + ((bringI how.x1 8)))) ((digI ((50 : UInt8)))) (decide (IntKind.wrap .i64 (2 * IntKind.wrap .i64 (1 + ((bringI how.x0 2)))) < ((n : Nat) : Int))))).view)), (.int .i64 (((toldI x139 (((n : Nat) : Int)) (IntKind.wrap .i64 (1 + ((bringI how.x1 8)))) ((digI ((50 : UInt8)))) (decide (IntKind.wrap .i64 (2 * IntKind.wrap .i64 (1 + ((bringI how.x0 2)))) < ((n : Nat) : Int))))).low)), (.slice A160 ((((toldI x139 (((n : Nat) : Int)) (IntKind.wrap .i64 (1 + ((bringI how.x1 8)))) ((digI ((50 : UInt8)))) (decide (IntKind.wrap .i64 (2 * IntKind.wrap .i64 (1 + ((bringI how.x0 2)))) < ((n : Nat) : Int))))).marks).length) cap161), (.slice A162 ((((toldI x139 (((n : Nat) : Int)) (IntKind.wrap .i64 (1 + ((bringI how.x1 8)))) ((digI ((50 : UInt8)))) (decide (IntKind.wrap .i64 (2 * IntKind.wrap .i64 (1 + ((bringI how.x0 2)))) < ((n : Nat) : Int))))).p).length) cap163), (.slice A164 ((((toldI x139 (((n : Nat) : Int)) (IntKind.wrap .i64 (1 + ((bringI how.x1 8)))) ((digI ((50 : UInt8)))) (decide (IntKind.wrap .i64 (2 * IntKind.wrap .i64 (1 + ((bringI how.x0 2)))) < ((n : Nat) : Int))))).q).length) cap165)]), (b39, 46, [(.bool x139.other), (.bool x139.same), (.int .u8 (((x139.b).toNat : Int))), (.int .i64 x139.view), (.slice A149 x139.proposed.length cap150)]), (b6, 28, ((digI ((50 : UInt8)))).cells), (b5, 41, how.cells)] ++ (Option.toList lsO ++ [])) := hB
    refine wlThen (wcSeq (wcSeq (wcRegion ?_)))
    refine wlVal (opMove rfl) rfl ?_
    refine wlVal (opMove rfl) rfl ?_
    refine wlVal (opLeq rfl rfl) rfl ?_
    refine wlThen ?_
    cases h167 : decide (((n : Nat) : Int) ≤ IntKind.wrap .i64 (1 + ((bringI how.x0 2))))
    ·
     skip
     refine wcCondF rfl ?_
     refine wcSkip ?_
     refine wcOf ?_
     refine wcRegion ?_
     refine wlVal (opMove rfl) rfl ?_
     refine wlVal (opLoadRow (cs := [(.int .i64 (((toldI x139 (((n : Nat) : Int)) (IntKind.wrap .i64 (1 + ((bringI how.x1 8)))) ((digI ((50 : UInt8)))) (decide (IntKind.wrap .i64 (2 * IntKind.wrap .i64 (1 + ((bringI how.x0 2)))) < ((n : Nat) : Int))))).node)), (.int .i64 (((toldI x139 (((n : Nat) : Int)) (IntKind.wrap .i64 (1 + ((bringI how.x1 8)))) ((digI ((50 : UInt8)))) (decide (IntKind.wrap .i64 (2 * IntKind.wrap .i64 (1 + ((bringI how.x0 2)))) < ((n : Nat) : Int))))).view)), (.int .i64 (((toldI x139 (((n : Nat) : Int)) (IntKind.wrap .i64 (1 + ((bringI how.x1 8)))) ((digI ((50 : UInt8)))) (decide (IntKind.wrap .i64 (2 * IntKind.wrap .i64 (1 + ((bringI how.x0 2)))) < ((n : Nat) : Int))))).low)), (.slice A160 ((((toldI x139 (((n : Nat) : Int)) (IntKind.wrap .i64 (1 + ((bringI how.x1 8)))) ((digI ((50 : UInt8)))) (decide (IntKind.wrap .i64 (2 * IntKind.wrap .i64 (1 + ((bringI how.x0 2)))) < ((n : Nat) : Int))))).marks).length) cap161), (.slice A162 ((((toldI x139 (((n : Nat) : Int)) (IntKind.wrap .i64 (1 + ((bringI how.x1 8)))) ((digI ((50 : UInt8)))) (decide (IntKind.wrap .i64 (2 * IntKind.wrap .i64 (1 + ((bringI how.x0 2)))) < ((n : Nat) : Int))))).p).length) cap163), (.slice A164 ((((toldI x139 (((n : Nat) : Int)) (IntKind.wrap .i64 (1 + ((bringI how.x1 8)))) ((digI ((50 : UInt8)))) (decide (IntKind.wrap .i64 (2 * IntKind.wrap .i64 (1 + ((bringI how.x0 2)))) < ((n : Nat) : Int))))).q).length) cap165)]) rfl (hB.range (i := 0) (m := 6) rfl rfl) row49 rfl) rfl ?_
     refine wlBuildSlice (α := Change) (ps := [(0, .tmp 81)]) (xs := [((toldI x139 (((n : Nat) : Int)) (IntKind.wrap .i64 (1 + ((bringI how.x1 8)))) ((digI ((50 : UInt8)))) (decide (IntKind.wrap .i64 (2 * IntKind.wrap .i64 (1 + ((bringI how.x0 2)))) < ((n : Nat) : Int)))))]) (rows := [[(.int .i64 (((toldI x139 (((n : Nat) : Int)) (IntKind.wrap .i64 (1 + ((bringI how.x1 8)))) ((digI ((50 : UInt8)))) (decide (IntKind.wrap .i64 (2 * IntKind.wrap .i64 (1 + ((bringI how.x0 2)))) < ((n : Nat) : Int))))).node)), (.int .i64 (((toldI x139 (((n : Nat) : Int)) (IntKind.wrap .i64 (1 + ((bringI how.x1 8)))) ((digI ((50 : UInt8)))) (decide (IntKind.wrap .i64 (2 * IntKind.wrap .i64 (1 + ((bringI how.x0 2)))) < ((n : Nat) : Int))))).view)), (.int .i64 (((toldI x139 (((n : Nat) : Int)) (IntKind.wrap .i64 (1 + ((bringI how.x1 8)))) ((digI ((50 : UInt8)))) (decide (IntKind.wrap .i64 (2 * IntKind.wrap .i64 (1 + ((bringI how.x0 2)))) < ((n : Nat) : Int))))).low)), (.slice A160 ((((toldI x139 (((n : Nat) : Int)) (IntKind.wrap .i64 (1 + ((bringI how.x1 8)))) ((digI ((50 : UInt8)))) (decide (IntKind.wrap .i64 (2 * IntKind.wrap .i64 (1 + ((bringI how.x0 2)))) < ((n : Nat) : Int))))).marks).length) cap161), (.slice A162 ((((toldI x139 (((n : Nat) : Int)) (IntKind.wrap .i64 (1 + ((bringI how.x1 8)))) ((digI ((50 : UInt8)))) (decide (IntKind.wrap .i64 (2 * IntKind.wrap .i64 (1 + ((bringI how.x0 2)))) < ((n : Nat) : Int))))).p).length) cap163), (.slice A164 ((((toldI x139 (((n : Nat) : Int)) (IntKind.wrap .i64 (1 + ((bringI how.x1 8)))) ((digI ((50 : UInt8)))) (decide (IntKind.wrap .i64 (2 * IntKind.wrap .i64 (1 + ((bringI how.x0 2)))) < ((n : Nat) : Int))))).q).length) cap165)]]) elo25 rfl rfl hC hB rfl rfl rfl ⟨(Change.mkIs (x := ((toldI x139 (((n : Nat) : Int)) (IntKind.wrap .i64 (1 + ((bringI how.x1 8)))) ((digI ((50 : UInt8)))) (decide (IntKind.wrap .i64 (2 * IntKind.wrap .i64 (1 + ((bringI how.x0 2)))) < ((n : Nat) : Int)))))) hs155 hs157 hs159), trivial⟩ rfl ?_; intro b168 G w hk hC hB hs169
     replace hlies := hlies.mono hk.gle; replace hpasts := hpasts.mono hk.gle; replace hOls := hOls.mono hk.gle
     refine wlAppend (α := Change) (bl := [(b166, 49, [(.int .i64 (((toldI x139 (((n : Nat) : Int)) (IntKind.wrap .i64 (1 + ((bringI how.x1 8)))) ((digI ((50 : UInt8)))) (decide (IntKind.wrap .i64 (2 * IntKind.wrap .i64 (1 + ((bringI how.x0 2)))) < ((n : Nat) : Int))))).node)), (.int .i64 (((toldI x139 (((n : Nat) : Int)) (IntKind.wrap .i64 (1 + ((bringI how.x1 8)))) ((digI ((50 : UInt8)))) (decide (IntKind.wrap .i64 (2 * IntKind.wrap .i64 (1 + ((bringI how.x0 2)))) < ((n : Nat) : Int))))).view)), (.int .i64 (((toldI x139 (((n : Nat) : Int)) (IntKind.wrap .i64 (1 + ((bringI how.x1 8)))) ((digI ((50 : UInt8)))) (decide (IntKind.wrap .i64 (2 * IntKind.wrap .i64 (1 + ((bringI how.x0 2)))) < ((n : Nat) : Int))))).low)), (.slice A160 ((((toldI x139 (((n : Nat) : Int)) (IntKind.wrap .i64 (1 + ((bringI how.x1 8)))) ((digI ((50 : UInt8)))) (decide (IntKind.wrap .i64 (2 * IntKind.wrap .i64 (1 + ((bringI how.x0 2)))) < ((n : Nat) : Int))))).marks).length) cap161), (.slice A162 ((((toldI x139 (((n : Nat) : Int)) (IntKind.wrap .i64 (1 + ((bringI how.x1 8)))) ((digI ((50 : UInt8)))) (decide (IntKind.wrap .i64 (2 * IntKind.wrap .i64 (1 + ((bringI how.x0 2)))) < ((n : Nat) : Int))))).p).length) cap163), (.slice A164 ((((toldI x139 (((n : Nat) : Int)) (IntKind.wrap .i64 (1 + ((bringI how.x1 8)))) ((digI ((50 : UInt8)))) (decide (IntKind.wrap .i64 (2 * IntKind.wrap .i64 (1 + ((bringI how.x0 2)))) < ((n : Nat) : Int))))).q).length) cap165)]), (b39, 46, [(.bool x139.other), (.bool x139.same), (.int .u8 (((x139.b).toNat : Int))), (.int .i64 x139.view), (.slice A149 x139.proposed.length cap150)]), (b6, 28, ((digI ((50 : UInt8)))).cells), (b5, 41, how.cells)]) (o := lsO) (r := []) elo25 hC hB rfl rfl hOls hs169 (by have q1 := kl_len hI; have q2 := h12; simp only [List.length_cons, List.length_nil]; omega) rfl rfl ?_; intro A170 cap171 o172 w hC hB hO173
     refine wlVal (opAssign rfl) rfl ?_
     refine wlNil ?_
     refine wcOf ?_
     refine wcRegion ?_
     refine wlVal (opMove rfl) rfl ?_
     refine wlVal (opIncr rfl rfl (by have q := of_decide_eq_true h7; rw [n3 h12] at q; have q2 := h12; omega)) rfl ?_
     refine wlVal (opAssign rfl) rfl ?_
     refine wlRound ?_
     exact (IH0 (n + 1, A170, cap171, o172, (ls ++ [((toldI x139 (((n : Nat) : Int)) (IntKind.wrap .i64 (1 + ((bringI how.x1 8)))) ((digI ((50 : UInt8)))) (decide (IntKind.wrap .i64 (2 * IntKind.wrap .i64 (1 + ((bringI how.x0 2)))) < ((n : Nat) : Int)))))])) _ _ ⟨hC, hB.tail.tail, hlies, hpasts, hO173, (Nat.succ_pos _), (by have q := of_decide_eq_true h7; rw [n3 h12] at q; have q2 := h12; omega), (kl_told h12 hI hn1 (of_decide_eq_false h167))⟩ (by have q := of_decide_eq_true h7; rw [n3 h12] at q; have q2 := h12; show 9 - (n + 1) < 9 - n; omega)).sub (fun _ ha => ((((((((ha.start.cons ha (t := 0) rfl).cons ha (t := 1) rfl).cons ha (t := 5) rfl).cons ha (t := 7) rfl).cons ha (t := 8) rfl).cons ha (t := 9) rfl).cons ha (t := 10) rfl).cons ha (t := 11) rfl))
    ·
     skip
     refine wcCondT rfl ?_
     refine wcSeq (wcRegion ?_)
     refine wlVal (opMove rfl) rfl ?_
     refine wlCallG hC hB rfl co18 rfl rfl (plain_ret _ _ hC.holds (((n : Nat) : Int))) ?_; rintro v176 G w hk hC hB ⟨r174, rfl, hr175⟩
     replace hlies := hlies.mono hk.gle; replace hpasts := hpasts.mono hk.gle; replace hOls := hOls.mono hk.gle
     obtain ⟨v177, v179, v181, rfl, hs178, hs180, hs182⟩ := Change.opIs hr175
     obtain ⟨A183, cap184, rfl⟩ := hs178.form
     obtain ⟨A185, cap186, rfl⟩ := hs180.form
     obtain ⟨A187, cap188, rfl⟩ := hs182.form
     refine wlStore 0 (vs := [(.int .i64 (((plainI (((n : Nat) : Int)))).node)), (.int .i64 (((plainI (((n : Nat) : Int)))).view)), (.int .i64 (((plainI (((n : Nat) : Int)))).low)), (.slice A183 ((((plainI (((n : Nat) : Int)))).marks).length) cap184), (.slice A185 ((((plainI (((n : Nat) : Int)))).p).length) cap186), (.slice A187 ((((plainI (((n : Nat) : Int)))).q).length) cap188)]) (cs := [(.int .i64 (((toldI x139 (((n : Nat) : Int)) (IntKind.wrap .i64 (1 + ((bringI how.x1 8)))) ((digI ((50 : UInt8)))) (decide (IntKind.wrap .i64 (2 * IntKind.wrap .i64 (1 + ((bringI how.x0 2)))) < ((n : Nat) : Int))))).node)), (.int .i64 (((toldI x139 (((n : Nat) : Int)) (IntKind.wrap .i64 (1 + ((bringI how.x1 8)))) ((digI ((50 : UInt8)))) (decide (IntKind.wrap .i64 (2 * IntKind.wrap .i64 (1 + ((bringI how.x0 2)))) < ((n : Nat) : Int))))).view)), (.int .i64 (((toldI x139 (((n : Nat) : Int)) (IntKind.wrap .i64 (1 + ((bringI how.x1 8)))) ((digI ((50 : UInt8)))) (decide (IntKind.wrap .i64 (2 * IntKind.wrap .i64 (1 + ((bringI how.x0 2)))) < ((n : Nat) : Int))))).low)), (.slice A160 ((((toldI x139 (((n : Nat) : Int)) (IntKind.wrap .i64 (1 + ((bringI how.x1 8)))) ((digI ((50 : UInt8)))) (decide (IntKind.wrap .i64 (2 * IntKind.wrap .i64 (1 + ((bringI how.x0 2)))) < ((n : Nat) : Int))))).marks).length) cap161), (.slice A162 ((((toldI x139 (((n : Nat) : Int)) (IntKind.wrap .i64 (1 + ((bringI how.x1 8)))) ((digI ((50 : UInt8)))) (decide (IntKind.wrap .i64 (2 * IntKind.wrap .i64 (1 + ((bringI how.x0 2)))) < ((n : Nat) : Int))))).p).length) cap163), (.slice A164 ((((toldI x139 (((n : Nat) : Int)) (IntKind.wrap .i64 (1 + ((bringI how.x1 8)))) ((digI ((50 : UInt8)))) (decide (IntKind.wrap .i64 (2 * IntKind.wrap .i64 (1 + ((bringI how.x0 2)))) < ((n : Nat) : Int))))).q).length) cap165)]) (cs' := [(.int .i64 (((plainI (((n : Nat) : Int)))).node)), (.int .i64 (((plainI (((n : Nat) : Int)))).view)), (.int .i64 (((plainI (((n : Nat) : Int)))).low)), (.slice A183 ((((plainI (((n : Nat) : Int)))).marks).length) cap184), (.slice A185 ((((plainI (((n : Nat) : Int)))).p).length) cap186), (.slice A187 ((((plainI (((n : Nat) : Int)))).q).length) cap188)]) hC hB rfl rfl rfl sz49 rfl rfl rfl (by simp [Mark.cells, Stand.cells]) rfl rfl ?_; intro w hC hB
     replace hB : Bxs G w w0.heap.size ([(b166, 49, [(.int .i64 (((plainI (((n : Nat) : Int)))).node)), (.int .i64 (((plainI (((n : Nat) : Int)))).view)), (.int .i64 (((plainI (((n : Nat) : Int)))).low)), (.slice A183 ((((plainI (((n : Nat) : Int)))).marks).length) cap184), (.slice A185 ((((plainI (((n : Nat) : Int)))).p).length) cap186), (.slice A187 ((((plainI (((n : Nat) : Int)))).q).length) cap188)]), (b39, 46, [(.bool x139.other), (.bool x139.same), (.int .u8 (((x139.b).toNat : Int))), (.int .i64 x139.view), (.slice A149 x139.proposed.length cap150)]), (b6, 28, ((digI ((50 : UInt8)))).cells), (b5, 41, how.cells)] ++ (Option.toList lsO ++ [])) := hB
     refine wlThen (wcSeq (wcRegion ?_))
     refine wlVal (opMove rfl) rfl ?_
     refine wlVal (opDecr rfl rfl hn1 (by have q := of_decide_eq_true h7; rw [n3 h12] at q; have q2 := h12; omega)) rfl ?_
     refine wlVal (opMove rfl) rfl ?_
     refine wlVal (opLen rfl isl39) rfl ?_
     refine wlVal (opLssN rfl rfl) rfl ?_
     refine wlThen ?_
     cases h189 : decide ((n - 1) < lies.length)
     ·
      skip
      refine wcCondF rfl ?_
      refine wcSkip ?_
      refine wcOf ?_
      refine wcRegion ?_
      refine wlVal (opMove rfl) rfl ?_
      refine wlVal (opLoadRow (cs := [(.int .i64 (((plainI (((n : Nat) : Int)))).node)), (.int .i64 (((plainI (((n : Nat) : Int)))).view)), (.int .i64 (((plainI (((n : Nat) : Int)))).low)), (.slice A183 ((((plainI (((n : Nat) : Int)))).marks).length) cap184), (.slice A185 ((((plainI (((n : Nat) : Int)))).p).length) cap186), (.slice A187 ((((plainI (((n : Nat) : Int)))).q).length) cap188)]) rfl (hB.range (i := 0) (m := 6) rfl rfl) row49 rfl) rfl ?_
      refine wlBuildSlice (α := Change) (ps := [(0, .tmp 81)]) (xs := [((plainI (((n : Nat) : Int))))]) (rows := [[(.int .i64 (((plainI (((n : Nat) : Int)))).node)), (.int .i64 (((plainI (((n : Nat) : Int)))).view)), (.int .i64 (((plainI (((n : Nat) : Int)))).low)), (.slice A183 ((((plainI (((n : Nat) : Int)))).marks).length) cap184), (.slice A185 ((((plainI (((n : Nat) : Int)))).p).length) cap186), (.slice A187 ((((plainI (((n : Nat) : Int)))).q).length) cap188)]]) elo25 rfl rfl hC hB rfl rfl rfl ⟨(Change.mkIs (x := ((plainI (((n : Nat) : Int))))) hs178 hs180 hs182), trivial⟩ rfl ?_; intro b190 G w hk hC hB hs191
      replace hlies := hlies.mono hk.gle; replace hpasts := hpasts.mono hk.gle; replace hOls := hOls.mono hk.gle
      refine wlAppend (α := Change) (bl := [(b166, 49, [(.int .i64 (((plainI (((n : Nat) : Int)))).node)), (.int .i64 (((plainI (((n : Nat) : Int)))).view)), (.int .i64 (((plainI (((n : Nat) : Int)))).low)), (.slice A183 ((((plainI (((n : Nat) : Int)))).marks).length) cap184), (.slice A185 ((((plainI (((n : Nat) : Int)))).p).length) cap186), (.slice A187 ((((plainI (((n : Nat) : Int)))).q).length) cap188)]), (b39, 46, [(.bool x139.other), (.bool x139.same), (.int .u8 (((x139.b).toNat : Int))), (.int .i64 x139.view), (.slice A149 x139.proposed.length cap150)]), (b6, 28, ((digI ((50 : UInt8)))).cells), (b5, 41, how.cells)]) (o := lsO) (r := []) elo25 hC hB rfl rfl hOls hs191 (by have q1 := kl_len hI; have q2 := h12; simp only [List.length_cons, List.length_nil]; omega) rfl rfl ?_; intro A192 cap193 o194 w hC hB hO195
      refine wlVal (opAssign rfl) rfl ?_
      refine wlNil ?_
      refine wcOf ?_
      refine wcRegion ?_
      refine wlVal (opMove rfl) rfl ?_
      refine wlVal (opIncr rfl rfl (by have q := of_decide_eq_true h7; rw [n3 h12] at q; have q2 := h12; omega)) rfl ?_
      refine wlVal (opAssign rfl) rfl ?_
      refine wlRound ?_
      exact (IH0 (n + 1, A192, cap193, o194, (ls ++ [((plainI (((n : Nat) : Int))))])) _ _ ⟨hC, hB.tail.tail, hlies, hpasts, hO195, (Nat.succ_pos _), (by have q := of_decide_eq_true h7; rw [n3 h12] at q; have q2 := h12; omega), (kl_liar h12 hI hn1 rfl (of_decide_eq_true h167) (by show 1 ≤ 40; decide) (by show 0 ≤ 40; decide))⟩ (by have q := of_decide_eq_true h7; rw [n3 h12] at q; have q2 := h12; show 9 - (n + 1) < 9 - n; omega)).sub (fun _ ha => ((((((((ha.start.cons ha (t := 0) rfl).cons ha (t := 1) rfl).cons ha (t := 5) rfl).cons ha (t := 7) rfl).cons ha (t := 8) rfl).cons ha (t := 9) rfl).cons ha (t := 10) rfl).cons ha (t := 11) rfl))
     ·
      skip
      refine wcCondT rfl ?_
      refine wcSeq (wcRegion ?_)
      refine wlVal (opMove rfl) rfl ?_
      refine wlVal (opMove rfl) rfl ?_
      refine wlVal (opDecr rfl rfl hn1 (by have q := of_decide_eq_true h7; rw [n3 h12] at q; have q2 := h12; omega)) rfl ?_
      obtain ⟨x196, hx197⟩ : ∃ y_, lies[(n - 1)]? = some y_ := ⟨_, List.getElem?_eq_getElem (of_decide_eq_true h189)⟩
      obtain ⟨b198, o199, row200, hA203, hr201, hi202⟩ := hlies.elem hx197; subst hA203
      obtain ⟨v204, v206, v208, rfl, hs205, hs207, hs209⟩ := Liar.opIs hi202
      obtain ⟨A210, cap211, rfl⟩ := hs205.form
      obtain ⟨A212, cap213, rfl⟩ := hs207.form
      obtain ⟨A214, cap215, rfl⟩ := hs209.form
      refine wlVal (opIndexAddr rfl rfl slo39 (of_decide_eq_true h189)) rfl ?_
      refine wlVal (opFieldAddr rfl fo53_0) rfl ?_
      refine wlVal (opLoadRow (cs := [(.int .i64 x196.c.node), (.int .i64 x196.c.view), (.int .i64 x196.c.low), (.slice A210 x196.c.marks.length cap211), (.slice A212 x196.c.p.length cap213), (.slice A214 x196.c.q.length cap215)]) rfl (RowG.range hC.holds hr201) row49 rfl) rfl ?_
      refine wlBuildSlice (α := Change) (ps := [(0, .tmp 73)]) (xs := [x196.c]) (rows := [[(.int .i64 x196.c.node), (.int .i64 x196.c.view), (.int .i64 x196.c.low), (.slice A210 x196.c.marks.length cap211), (.slice A212 x196.c.p.length cap213), (.slice A214 x196.c.q.length cap215)]]) elo25 rfl rfl hC hB rfl rfl rfl ⟨(Change.mkIs (x := x196.c) hs205 hs207 hs209), trivial⟩ rfl ?_; intro b216 G w hk hC hB hs217
      replace hlies := hlies.mono hk.gle; replace hpasts := hpasts.mono hk.gle; replace hOls := hOls.mono hk.gle
      refine wlCallG hC hB rfl co9 rfl rfl (copied_ret _ _ hC.holds _ ([x196.c]) hs217) ?_; rintro v220 G w hk hC hB ⟨r218, rfl, hr219⟩
      replace hlies := hlies.mono hk.gle; replace hpasts := hpasts.mono hk.gle; replace hOls := hOls.mono hk.gle
      obtain ⟨A221, cap222, rfl⟩ := hr219.form
      obtain ⟨x223, hx224⟩ : ∃ y_, ((copiedI ([x196.c])))[0]? = some y_ := ⟨_, List.getElem?_eq_getElem (by simp [copiedI])⟩
      obtain ⟨b225, o226, row227, hA230, hr228, hi229⟩ := hr219.elem hx224; subst hA230
      obtain ⟨v231, v233, v235, rfl, hs232, hs234, hs236⟩ := Change.opIs hi229
      obtain ⟨A237, cap238, rfl⟩ := hs232.form
      obtain ⟨A239, cap240, rfl⟩ := hs234.form
      obtain ⟨A241, cap242, rfl⟩ := hs236.form
      refine wlVal (opIndexAddr rfl rfl slo25 (by simp [copiedI])) rfl ?_
      refine wlVal (opLoadRow (cs := [(.int .i64 x223.node), (.int .i64 x223.view), (.int .i64 x223.low), (.slice A237 x223.marks.length cap238), (.slice A239 x223.p.length cap240), (.slice A241 x223.q.length cap242)]) rfl (RowG.range hC.holds hr228) row49 rfl) rfl ?_
      refine wlStore 0 (vs := [(.int .i64 x223.node), (.int .i64 x223.view), (.int .i64 x223.low), (.slice A237 x223.marks.length cap238), (.slice A239 x223.p.length cap240), (.slice A241 x223.q.length cap242)]) (cs := [(.int .i64 (((plainI (((n : Nat) : Int)))).node)), (.int .i64 (((plainI (((n : Nat) : Int)))).view)), (.int .i64 (((plainI (((n : Nat) : Int)))).low)), (.slice A183 ((((plainI (((n : Nat) : Int)))).marks).length) cap184), (.slice A185 ((((plainI (((n : Nat) : Int)))).p).length) cap186), (.slice A187 ((((plainI (((n : Nat) : Int)))).q).length) cap188)]) (cs' := [(.int .i64 x223.node), (.int .i64 x223.view), (.int .i64 x223.low), (.slice A237 x223.marks.length cap238), (.slice A239 x223.p.length cap240), (.slice A241 x223.q.length cap242)]) hC hB rfl rfl rfl sz49 rfl rfl rfl (by simp [Mark.cells, Stand.cells]) rfl rfl ?_; intro w hC hB
      replace hB : Bxs G w w0.heap.size ([(b166, 49, [(.int .i64 x223.node), (.int .i64 x223.view), (.int .i64 x223.low), (.slice A237 x223.marks.length cap238), (.slice A239 x223.p.length cap240), (.slice A241 x223.q.length cap242)]), (b39, 46, [(.bool x139.other), (.bool x139.same), (.int .u8 (((x139.b).toNat : Int))), (.int .i64 x139.view), (.slice A149 x139.proposed.length cap150)]), (b6, 28, ((digI ((50 : UInt8)))).cells), (b5, 41, how.cells)] ++ (Option.toList lsO ++ [])) := hB
      refine wlThen (wcRegion ?_)
      refine wlVal (opMove rfl) rfl ?_
      refine wlVal (opFieldAddr rfl fo49_0) rfl ?_
      refine wlStore 0 (vs := [(.int .i64 (((n : Nat) : Int)))]) (cs := [(.int .i64 x223.node), (.int .i64 x223.view), (.int .i64 x223.low), (.slice A237 x223.marks.length cap238), (.slice A239 x223.p.length cap240), (.slice A241 x223.q.length cap242)]) (cs' := [(.int .i64 (((n : Nat) : Int))), (.int .i64 x223.view), (.int .i64 x223.low), (.slice A237 x223.marks.length cap238), (.slice A239 x223.p.length cap240), (.slice A241 x223.q.length cap242)]) hC hB rfl rfl rfl sz3 rfl rfl rfl (by simp [Mark.cells, Stand.cells]) rfl rfl ?_; intro w hC hB
      replace hB : Bxs G w w0.heap.size ([(b166, 49, [(.int .i64 (((n : Nat) : Int))), (.int .i64 x223.view), (.int .i64 x223.low), (.slice A237 x223.marks.length cap238), (.slice A239 x223.p.length cap240), (.slice A241 x223.q.length cap242)]), (b39, 46, [(.bool x139.other), (.bool x139.same), (.int .u8 (((x139.b).toNat : Int))), (.int .i64 x139.view), (.slice A149 x139.proposed.length cap150)]), (b6, 28, ((digI ((50 : UInt8)))).cells), (b5, 41, how.cells)] ++ (Option.toList lsO ++ [])) := hB
      refine wlThen (wcRegion ?_)
      refine wlVal (opMove rfl) rfl ?_
      refine wlVal (opLoadRow (cs := [(.int .i64 (((n : Nat) : Int))), (.int .i64 x223.view), (.int .i64 x223.low), (.slice A237 x223.marks.length cap238), (.slice A239 x223.p.length cap240), (.slice A241 x223.q.length cap242)]) rfl (hB.range (i := 0) (m := 6) rfl rfl) row49 rfl) rfl ?_
      refine wlBuildSlice (α := Change) (ps := [(0, .tmp 81)]) (xs := [(Change.mk (((n : Nat) : Int)) x223.view x223.low x223.marks x223.p x223.q)]) (rows := [[(.int .i64 (((n : Nat) : Int))), (.int .i64 x223.view), (.int .i64 x223.low), (.slice A237 x223.marks.length cap238), (.slice A239 x223.p.length cap240), (.slice A241 x223.q.length cap242)]]) elo25 rfl rfl hC hB rfl rfl rfl ⟨(Change.mkIs (x := (Change.mk (((n : Nat) : Int)) x223.view x223.low x223.marks x223.p x223.q)) hs232 hs234 hs236), trivial⟩ rfl ?_; intro b243 G w hk hC hB hs244
      replace hlies := hlies.mono hk.gle; replace hpasts := hpasts.mono hk.gle; replace hOls := hOls.mono hk.gle
      refine wlAppend (α := Change) (bl := [(b166, 49, [(.int .i64 (((n : Nat) : Int))), (.int .i64 x223.view), (.int .i64 x223.low), (.slice A237 x223.marks.length cap238), (.slice A239 x223.p.length cap240), (.slice A241 x223.q.length cap242)]), (b39, 46, [(.bool x139.other), (.bool x139.same), (.int .u8 (((x139.b).toNat : Int))), (.int .i64 x139.view), (.slice A149 x139.proposed.length cap150)]), (b6, 28, ((digI ((50 : UInt8)))).cells), (b5, 41, how.cells)]) (o := lsO) (r := []) elo25 hC hB rfl rfl hOls hs244 (by have q1 := kl_len hI; have q2 := h12; simp only [List.length_cons, List.length_nil]; omega) rfl rfl ?_; intro A245 cap246 o247 w hC hB hO248
      refine wlVal (opAssign rfl) rfl ?_
      refine wlNil ?_
      refine wcOf ?_
      refine wcRegion ?_
      refine wlVal (opMove rfl) rfl ?_
      refine wlVal (opIncr rfl rfl (by have q := of_decide_eq_true h7; rw [n3 h12] at q; have q2 := h12; omega)) rfl ?_
      refine wlVal (opAssign rfl) rfl ?_
      refine wlRound ?_
      exact (IH0 (n + 1, A245, cap246, o247, (ls ++ [(Change.mk (((n : Nat) : Int)) x223.view x223.low x223.marks x223.p x223.q)])) _ _ ⟨hC, hB.tail.tail, hlies, hpasts, hO248, (Nat.succ_pos _), (by have q := of_decide_eq_true h7; rw [n3 h12] at q; have q2 := h12; omega), (kl_liar h12 hI hn1 rfl (of_decide_eq_true h167) (cpy_lens hx224).1 (cpy_lens hx224).2)⟩ (by have q := of_decide_eq_true h7; rw [n3 h12] at q; have q2 := h12; show 9 - (n + 1) < 9 - n; omega)).sub (fun _ ha => ((((((((ha.start.cons ha (t := 0) rfl).cons ha (t := 1) rfl).cons ha (t := 5) rfl).cons ha (t := 7) rfl).cons ha (t := 8) rfl).cons ha (t := 9) rfl).cons ha (t := 10) rfl).cons ha (t := 11) rfl))
  ·
   skip
   refine wcCondT rfl ?_
   refine wcExit ?_
   refine wcOf ?_
   refine wcRegion ?_
   refine wlVal (opMove rfl) rfl ?_
   refine wlVal (opIncr rfl rfl (by have q := of_decide_eq_true h7; rw [n3 h12] at q; have q2 := h12; omega)) rfl ?_
   refine wlVal (opAssign rfl) rfl ?_
   refine wlRound ?_
   exact (IH0 (n + 1, lsA, lsC, lsO, ls) _ _ ⟨hC, hB, hlies, hpasts, hOls, (Nat.succ_pos _), (by have q := of_decide_eq_true h7; rw [n3 h12] at q; have q2 := h12; omega), (kl_skip hI)⟩ (by have q := of_decide_eq_true h7; rw [n3 h12] at q; have q2 := h12; show 9 - (n + 1) < 9 - n; omega)).sub (fun _ ha => ((((((((ha.start.cons ha (t := 0) rfl).cons ha (t := 1) rfl).cons ha (t := 5) rfl).cons ha (t := 7) rfl).cons ha (t := 8) rfl).cons ha (t := 9) rfl).cons ha (t := 10) rfl).cons ha (t := 11) rfl))

end Go.Proofs.Ytbhkoipmojdkhaa
