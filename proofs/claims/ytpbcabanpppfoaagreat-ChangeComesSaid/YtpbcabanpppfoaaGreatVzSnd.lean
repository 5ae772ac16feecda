/- Walks by reckoning: what is to be shown is enough: operations. No condition. -/
import Derived.Test.YtpbcabanpppfoaaGreatVzVsn
set_option linter.all false
namespace Go.Vz
open Go Go.Gx
variable {E : DE} {P : Program} {F : DF E} {Z : ZF P E} {w0 : World} {G0 : Gh}
def CallOk (P : Program) (w0 : World) (G0 : Gh) (call : CallH E) : Prop :=
  ∀ (f : Nat) (args : List (SV E)) (s : St E) (K : St E → SV E → Prop) (m : Mn E) (w : World) (vs : List Value), RelH w0 G0 s m w → args.length = vs.length →
    (∀ (i : Nat) (x : SV E), args[i]? = some x → ∃ v, vs[i]? = some v ∧ RV m x v) → call f args s K →
    Calls P f vs.toArray w fun e w' => ∃ v, e = .returned v ∧ ∃ s' m' x, Up m m' ∧ RelH w0 G0 s' m' w' ∧ RV m' x v ∧ K s' x
section
variable {m : Mn E} {N : Nat} {e : Env} {w : World} {s : St E}
theorem ask_ok (r : Rel w0 G0 s m e w) {x : SV E} {v : Value} (hv : RV m x v) {K1 K0 : St E → Prop} (h : ask s x K1 K0) : ∃ q s', v = .bool q ∧ Rel w0 G0 s' m e w ∧ cond q (K1 s') (K0 s') := by
  unfold ask at h
  split at h
  · rename_i q
    exact ⟨q, s, hv, r, h⟩
  · rename_i q
    refine ⟨q, s, hv, r, ?_⟩
    cases q
    · rw [brM_f] at h; exact h
    · rw [brM_t] at h; exact h
  · rename_i id
    split at h
    · rename_i q hq
      obtain ⟨_, hv⟩ := leaf_L rfl hv
      have hm : m.b id = q := by unfold Mn.b; rw [r.bs, hq]; rfl
      rw [hm] at hv
      cases hk : s.kn.any (Nat.beq id) with
      | true =>
        rw [hk] at h
        exact ⟨q, s, hv, r, h⟩
      | false =>
        rw [hk] at h
        refine ⟨q, s.setb id q, hv, r.setb hq, ?_⟩
        simp only [cond_false] at h
        cases q
        · rw [brM_f] at h; exact h
        · rw [brM_t] at h; exact h
    · exact h.elim
  · exact h.elim
variable {ops : Array Oper} {Q : Exit → Act → World → Prop} {rest : List Oper} {ty : TypeId} {pos : String} {af : Array Edge}
theorem wlAppendG {α : Type} [Rp α] {G : Gh} {L : List (Nat × Obj)} {x y : Operand} {t el bytes : Nat} {rt : TypeId} {o : Option Bx} {v v2 : Value} {xs ys : List α} {bl r : List Bx} {d : Option Nat} (he : elemOk P t el (Rp.sz α) bytes = true) (hC : Cx w0 G0 G w ⟨[], L⟩) (hB : Bxs G w w0.heap.size (bl ++ (o.toList ++ r)) ⟨[], L⟩)
    (hx : opv e x = some v) (hy : opv e y = some v2) (hO : Ow G o el v xs) (hS : Sl G v2 ys) (hb : (xs.length + ys.length) * bytes ≤ 140737488355328) (hl : xs.length + ys.length ≤ 140737488355328) (hd : okD N d = true)
    (h : ∀ A cap o' w', Cx w0 G0 G w' ⟨[], L⟩ → Bxs G w' w0.heap.size (bl ++ (o'.toList ++ r)) ⟨[], L⟩ → Ow G o' el (.slice A (xs ++ ys).length cap) (xs ++ ys) → WL P ops Q N rest (e.putO d (.slice A (xs ++ ys).length cap)) w') :
    WL P ops Q N (⟨d, .call ⟨.builtin .append, #[x, y], #[t, t]⟩, rt, pos, af, none⟩ :: rest) e w := by
  have hp : (bl ++ (o.toList ++ r)).Perm (o.toList ++ (bl ++ r)) := by
    rw [← List.append_assoc, ← List.append_assoc]; exact List.perm_append_comm.append_right r
  obtain ⟨v', o', w', hr, k1, k2, k3, _, _⟩ := run_append_ow (P := P) (ty := rt) he hC (Nat.le_refl _) hC.size (hB.perm hp) hO hS (by simp only [maxLen]; omega) hb
  have hp' : (o'.toList ++ (bl ++ r)).Perm (bl ++ (o'.toList ++ r)) := by
    rw [← List.append_assoc, ← List.append_assoc]; exact List.perm_append_comm.append_right r
  obtain ⟨A, cap, rfl⟩ := k3.form
  refine wlStep (R := fun u w2 => u = .slice A (xs ++ ys).length cap ∧ w2 = w') hd (fun a ha => ?_) ?_
  · unfold OpR
    have : (execOp a.eval ⟨d, .call ⟨.builtin .append, #[x, y], #[t, t]⟩, rt, pos, af, none⟩).run P w = .ok (.value (.slice A (xs ++ ys).length cap)) w' := by
      simp only [execOp, resolve, Sem.run_bind, Sem.run_pure, Result.andThen_ok, invoke, builtin, List.map_toArray, List.map_cons, List.map_nil, ha.eval hx, ha.eval hy, hr]
    rw [this]; exact ⟨rfl, rfl⟩
  · rintro u w2 ⟨rfl, rfl⟩
    exact h A cap o' w2 k1 (k2.perm hp') k3
theorem lowerC {G G' : Gh} {w w' : World} {M : Mu} (k : Cx w0 G0 G' w' M) (hC : Cx w0 G0 G w M) (hg : GLe G G') : Cx w0 G0 G w' M :=
  ⟨fun b o hb => k.holds b o (hg b o hb), k.os, k.tape, k.output, k.size, k.old', hC.gle, hC.fresh, fun x hx => ⟨(k.held x hx).1, (by
    cases hq : G x.1 with
    | none => rfl
    | some o => have := hg _ _ hq; rw [(k.held x hx).2.1] at this; cases this), (k.held x hx).2.2⟩, k.hnd⟩
/-- append of bytes that lie in one of the call's own boxes. -/
theorem wlAppendV {G : Gh} {L : List (Nat × Obj)} {x y : Operand} {t el bytes b off T : Nat} {cs : List Value} {dg : Dig} {rt : TypeId} {o : Option Bx} {v : Value} {xs : List UInt8} {bl r : List Bx} {d : Option Nat} (he : elemOk P t el 1 bytes = true) (hC : Cx w0 G0 G w ⟨[], L⟩) (hB : Bxs G w w0.heap.size (bl ++ (o.toList ++ r)) ⟨[], L⟩)
    (hx : opv e x = some v) (hX : (b, T, cs) ∈ bl ++ r) (hcs : (cs.drop off).take 32 = dg.cells) (hy : opv e y = some (.slice (some ⟨b, off, none⟩) 32 32)) (hO : Ow G o el v xs) (hb : (xs.length + 32) * bytes ≤ 140737488355328) (hl : xs.length + 32 ≤ 140737488355328) (hd : okD N d = true)
    (h : ∀ A cap o' w', Cx w0 G0 G w' ⟨[], L⟩ → Bxs G w' w0.heap.size (bl ++ (o'.toList ++ r)) ⟨[], L⟩ → Ow G o' el (.slice A (xs ++ dg.l).length cap) (xs ++ dg.l) → WL P ops Q N rest (e.putO d (.slice A (xs ++ dg.l).length cap)) w') :
    WL P ops Q N (⟨d, .call ⟨.builtin .append, #[x, y], #[t, t]⟩, rt, pos, af, none⟩ :: rest) e w := by
  obtain ⟨s1, s2, hs⟩ := List.append_of_mem hX
  have hp : ∀ o : List Bx, (bl ++ (o ++ r)).Perm ((b, T, cs) :: (o ++ (s1 ++ s2))) := fun o => by
    have p1 : (bl ++ (o ++ r)).Perm (o ++ (bl ++ r)) := by
      rw [← List.append_assoc, ← List.append_assoc]; exact List.perm_append_comm.append_right r
    rw [hs] at p1
    refine p1.trans ?_
    have p2 : (o ++ (s1 ++ (b, T, cs) :: s2)).Perm (o ++ ((b, T, cs) :: (s1 ++ s2))) := List.perm_middle.append_left o
    exact p2.trans List.perm_middle
  have hB1 := hB.perm (hp o.toList)
  obtain ⟨g1, g2, g3⟩ := freeze0 hC (Nat.le_refl _) hB1
  obtain ⟨x1, x2, x3⟩ := hB1.at_ (b, T, cs) List.mem_cons_self
  have x4 := hB1.apart (b, T, cs) List.mem_cons_self
  have hrow : RowG (G.add b (.cells cs.toArray T (0, 0))) b 0 cs := ⟨_, _, _, Gh.add_self, fun j u hu => by simpa using hu⟩
  have hS : Sl (G.add b (.cells cs.toArray T (0, 0))) (.slice (some ⟨b, off, none⟩) 32 32) dg.l := Sl.ofDigO (by have := hrow.part hcs; rwa [Nat.zero_add] at this)
  have hl32 : dg.l.length = 32 := dg.h
  obtain ⟨v', o', w', hr, k1, k2, k3, _, _⟩ := run_append_ow (P := P) (ty := rt) he g2 (Nat.le_refl _) hC.size g3 (hO.mono g1) hS (by rw [hl32]; simp only [maxLen]; omega) (by rw [hl32]; exact hb)
  obtain ⟨A, cap, rfl⟩ := k3.form
  refine wlStep (R := fun u w2 => u = .slice A (xs ++ dg.l).length cap ∧ w2 = w') hd (fun a ha => ?_) ?_
  · unfold OpR
    have : (execOp a.eval ⟨d, .call ⟨.builtin .append, #[x, y], #[t, t]⟩, rt, pos, af, none⟩).run P w = .ok (.value (.slice A (xs ++ dg.l).length cap)) w' := by
      simp only [execOp, resolve, Sem.run_bind, Sem.run_pure, Result.andThen_ok, invoke, builtin, List.map_toArray, List.map_cons, List.map_nil, ha.eval hx, ha.eval hy, hr]
    rw [this]; exact ⟨rfl, rfl⟩
  · rintro u w2 ⟨rfl, rfl⟩
    have hne : ∀ z : Nat, (G.add b (.cells cs.toArray T (0, 0))) z = none → z ≠ b := fun z hz e => by rw [e, Gh.add_self] at hz; cases hz
    have hgn : ∀ z : Nat, (G.add b (.cells cs.toArray T (0, 0))) z = none → G z = none := fun z hz => by
      cases hq : G z with
      | none => rfl
      | some q => have := g1 _ _ hq; rw [hz] at this; cases this
    refine h A cap o' w2 (lowerC k1 hC g1) (Bxs.perm ⟨?_, ?_, ?_⟩ (hp o'.toList).symm) ?_
    · intro z hz
      rcases List.mem_cons.1 hz with rfl | hz
      · exact ⟨k1.holds _ _ Gh.add_self, x2, x3⟩
      · obtain ⟨z1, z2, z3⟩ := k2.at_ z hz
        exact ⟨z1, hgn _ z2, z3⟩
    · rw [List.map_cons, List.nodup_cons]
      refine ⟨fun hm => ?_, k2.nodup⟩
      obtain ⟨z, hz, he⟩ := List.mem_map.1 hm
      exact hne _ (k2.at_ z hz).2.1 he
    · intro z hz
      rcases List.mem_cons.1 hz with rfl | hz
      · exact x4
      · exact k2.apart z hz
    · obtain ⟨rows, r1, r2⟩ := k3
      refine ⟨rows, r1, ?_⟩
      have : ∀ (rs : List (List Value)) (l : List UInt8), Rows2 (G.add b (.cells cs.toArray T (0, 0))) rs l → Rows2 G rs l := by
        intro rs
        induction rs with
        | nil => intro l hl; cases l with | nil => trivial | cons _ _ => exact hl.elim
        | cons a rs ih => intro l hl; cases l with | nil => exact hl.elim | cons y l => exact ⟨hl.1, ih l hl.2⟩
      exact this _ _ r2
theorem mulB_le {n el : Nat} (h : n * mulB P el ≤ maxL) : n * bytesT P el ≤ 140737488355328 ∧ n ≤ 140737488355328 := by
  unfold mulB at h; unfold maxL at h
  split at h
  · rename_i hb; rw [hb]; omega
  · rename_i k hb; rw [hb]
    refine ⟨h, Nat.le_trans (Nat.le_mul_of_pos_right n (Nat.succ_pos k)) h⟩
theorem vcApp_ok (r : Rel w0 G0 s m e w) {d : Option Nat} {x y : Operand} {t t' : Nat} {K : St E → Prop} (h : vcApp (P := P) Z s d x y t t' K) (hd : dOk d = true) (hN : okD N d = true)
    (hk : ∀ s' m' v w', Up m m' → Rel w0 G0 s' m' (e.putO d v) w' → K s' → WL P ops Q N rest (e.putO d v) w') : WL P ops Q N (⟨d, .call ⟨.builtin .append, #[x, y], #[t, t']⟩, ty, pos, af, none⟩ :: rest) e w := by
  unfold vcApp at h
  split at h
  · split at h
    · rename_i s1 hs1
      obtain ⟨m1, u1, rh1, hsl, _⟩ := frz_ok r.toRelH hs1
      have r1 := r.mem u1 rh1 hsl
      split at h
      · rename_i a b el ha hb hel
        split at h
        · rename_i o u xs ho
          split at h
          · rename_i ys hys
            cases hc : Nat.beq t t' && elemOk P t el (Ty.sz (E := E) u) (bytesT P el) with
            | false => rw [hc] at h; exact h.elim
            | true =>
              rw [hc] at h
              simp only [cond_true] at h
              rw [Bool.and_eq_true] at hc
              obtain ⟨ht, he⟩ := hc
              have := Nat.eq_of_beq_eq_true ht
              subst this
              cases hn : Nat.ble ((xs.length + ys.length) * mulB P el) maxL with
              | false => rw [hn, brM_f] at h; exact h.elim
              | true =>
                rw [hn, brM_t] at h
                obtain ⟨n1, n2⟩ := mulB_le (Nat.le_of_ble_eq_true hn)
                obtain ⟨va, a1, a2⟩ := opd_ok r1 ha
                obtain ⟨vb, b1, b2⟩ := opd_ok r1 hb
                have hS := gSl_L hys b2
                unfold ownOf at ho
                split at ho
                · rename_i id
                  split at ho
                  · rename_i k u' el' xs' hg
                    cases hee : Nat.beq el el' with
                    | false => rw [hee] at ho; cases ho
                    | true =>
                      rw [hee] at ho
                      simp only [cond_true, Option.some.injEq, Prod.mk.injEq, Sigma.mk.injEq] at ho
                      obtain ⟨rfl, rfl, hx⟩ := ho
                      have hx := eq_of_heq hx
                      subst hx
                      have := Nat.eq_of_beq_eq_true hee
                      subst this
                      obtain ⟨_, _, _, ⟨o, h3, h4, h5, h6⟩, _⟩ := r1.wd hg
                      obtain ⟨p, q, A, B, hC, hB, hT⟩ := r1.toRelH.ren hg
                      obtain ⟨_, rfl, _⟩ := leaf_L rfl a2
                      rw [h3] at hB
                      refine wlAppendG he hC hB a1 b1 h5 hS n1 n2 hN fun A' cap o' w' k1 k2 k3 => ?_
                      rw [h4] at k1 k2
                      obtain ⟨u2, r2⟩ := hT m1.G w' (.arr u' el (xs' ++ ys)) (.slice A' (xs' ++ ys).length cap) o'.toList [] (GLe.refl _) k1 k2 ⟨o', rfl, rfl, k3, by rw [List.length_append]; exact n2⟩
                      refine hk _ _ _ _ (u1.trans u2) ((r1.mem u2 r2 rfl).put hd fun y hy => ?_) h
                      simp only [Option.some.injEq] at hy; subst hy
                      exact ⟨by simp [Mn.add, Mn.g, r1.n], by rw [← r1.n]; exact Mn.add_ν.symm, A', _, cap, by rw [← r1.n]; exact Mn.add_ν⟩
                  · cases ho
                · split at ho
                  · rename_i u' _
                    simp only [Option.some.injEq, Prod.mk.injEq, Sigma.mk.injEq] at ho
                    obtain ⟨rfl, rfl, hx⟩ := ho
                    have hx := eq_of_heq hx
                    subst hx
                    obtain ⟨bl, L, hC, hB, hT⟩ := r1.toRelH.new
                    have va : va = _ := leaf_L rfl a2
                    subst va
                    refine wlAppendG (o := none) (bl := []) (r := bl) he hC hB a1 b1 (Ow.nil_ _ _) hS n1 n2 hN fun A' cap o' w' k1 k2 k3 => ?_
                    obtain ⟨u2, r2⟩ := hT m1.G w' (.arr u' el (([] : List (u'.den E)) ++ ys)) (.slice A' (([] : List (u'.den E)) ++ ys).length cap) o'.toList [] (GLe.refl _) k1 k2 ⟨o', rfl, rfl, k3, by rw [List.length_append]; exact n2⟩
                    refine hk _ _ _ _ (u1.trans u2) ((r1.mem u2 r2 rfl).put hd fun y hy => ?_) h
                    simp only [Option.some.injEq] at hy; subst hy
                    exact ⟨by simp [Mn.add, Mn.g, r1.n], by rw [← r1.n]; exact Mn.add_ν.symm, A', _, cap, by rw [← r1.n]; exact Mn.add_ν⟩
                  · cases ho
                · cases ho
          · exact h.elim
        · exact h.elim
      · exact h.elim
    · exact h.elim
  · exact h.elim
theorem ptrs_LL {m : Mn E} : ∀ {l : List (SV E)} {vs : List Value}, ptrsB l = true → vs.length = l.length → (∀ (i : Nat) (x : SV E), l[i]? = some x → ∃ v, vs[i]? = some v ∧ RV m x v) → LL m l vs ∧ @Rows2 Value rpV m.G (vs.map fun v => v.cells.toList) vs
  | [], vs, _, hl, _ => by
    have : vs = [] := List.length_eq_zero_iff.1 (by simpa using hl)
    subst this; exact ⟨rfl, trivial⟩
  | x :: l, [], _, hl, _ => by simp at hl
  | x :: l, v :: vs, hp, hl, hv => by
    letI := rpV
    have hv0 : RV m x v := by
      obtain ⟨v', e1, e2⟩ := hv 0 x rfl
      simp only [List.getElem?_cons_zero, Option.some.injEq] at e1
      subst e1; exact e2
    have hr := fun (h : ptrsB l = true) => ptrs_LL h (by simpa using hl) (fun i y hi => by simpa using hv (i + 1) y (by simpa using hi))
    have one : ∀ {u : Value}, u.oneCell' = true → u.cells.toList = [u] := fun {u} hu => by
      cases u <;> first | rfl | (simp [Value.oneCell'] at hu; done) | (cases hu; done)
    unfold ptrsB at hp
    split at hp
    · rename_i heq; cases heq
    · rename_i id off r heq
      injection heq with h1 h2
      subst h1 h2
      have hL : L m (SV.ptr id off : SV E) v := leaf_L rfl hv0
      obtain ⟨g1, g2⟩ := hr hp
      exact ⟨⟨v, vs, rfl, hL, g1⟩, ⟨one hL.one, hL.one⟩, g2⟩
    · rename_i id r heq
      injection heq with h1 h2
      subst h1 h2
      have hL : L m (SV.mp id : SV E) v := leaf_L rfl hv0
      obtain ⟨g1, g2⟩ := hr hp
      exact ⟨⟨v, vs, rfl, hL, g1⟩, ⟨one hL.one, hL.one⟩, g2⟩
    · cases hp
theorem vcAppP_ok (r : Rel w0 G0 s m e w) {d : Option Nat} {x y : Operand} {t t' id2 k2 e2 : Nat} {ys : List (SV E)} {K : St E → Prop} (hy : opd s y = some (.own id2)) (hg2 : hget s.hp id2 = some (k2, .pts e2 ys)) (h : vcAppP P s d x t t' id2 e2 ys K) (hd : dOk d = true) (hN : okD N d = true)
    (hk : ∀ s' m' v w', Up m m' → Rel w0 G0 s' m' (e.putO d v) w' → K s' → WL P ops Q N rest (e.putO d v) w') : WL P ops Q N (⟨d, .call ⟨.builtin .append, #[x, y], #[t, t']⟩, ty, pos, af, none⟩ :: rest) e w := by
  letI := rpV
  obtain ⟨vb, b1, b2⟩ := opd_ok r hy
  -- the second one is let stay
  obtain ⟨m1, u1, rh1, us, hS, hL2, hul⟩ : ∃ m1, Up m m1 ∧ RelH w0 G0 (s.turn id2 .oth) m1 w ∧ ∃ us : List Value, Sl m1.G vb us ∧ LL m1 ys us ∧ us.length ≤ maxL := by
    obtain ⟨_, _, _, ⟨o, us, h3, h4, h5, h6, h7⟩, _⟩ := r.wd hg2
    obtain ⟨p, q, A, B, hC, hB, hT⟩ := r.toRelH.turn hg2
    rw [h3, h4] at hB
    rw [h4] at hC
    obtain ⟨G', k1, k2, k3, k4⟩ := h5.freeze' hC (Nat.le_refl _) hB h6
    obtain ⟨u, r'⟩ := hT G' w .oth [] [] k1 k2 k3 trivial
    obtain ⟨_, rfl, _⟩ := leaf_L rfl b2
    refine ⟨_, u, r', us, ?_, h7.up u, h6⟩
    exact k4
  have r1 : Rel w0 G0 (s.turn id2 .oth) m1 e w := r.mem u1 rh1 rfl
  have hn1 : (s.turn id2 .oth).n = s.n + 1 := rfl
  have hmn : m1.n = s.n + 1 := by rw [← hn1]; exact r1.n
  have hly := (LL.at_ hL2).1
  unfold vcAppP at h
  split at h
  · rename_i el ha hel
    cases hc : Nat.beq t t' && (Nat.beq el e2 && elemOk P t el 1 (bytesT P el)) with
    | false => rw [hc] at h; exact h.elim
    | true =>
      rw [hc] at h
      simp only [cond_true] at h
      simp only [Bool.and_eq_true] at hc
      obtain ⟨ht, hee, he⟩ := hc
      have := Nat.eq_of_beq_eq_true ht
      subst this
      cases hn : Nat.ble ((0 + ys.length) * mulB P el) maxL with
      | false => rw [hn, brM_f] at h; exact h.elim
      | true =>
        rw [hn, brM_t] at h
        have hn' := Nat.le_of_ble_eq_true hn
        rw [hly] at hn'
        obtain ⟨n1, n2⟩ := mulB_le hn'
        obtain ⟨va, a1, a2⟩ := opd_ok r ha
        obtain ⟨bl, L, hC, hB, hT⟩ := r1.toRelH.new
        have va : va = _ := leaf_L rfl a2
        subst va
        refine wlAppendG (α := Value) (o := none) (xs := []) (bl := []) (r := bl) he hC hB a1 b1 (Ow.nil_ _ _) hS n1 n2 hN fun A' cap o' w' k1 k2 k3 => ?_
        obtain ⟨u2, r2⟩ := hT m1.G w' (.pts el ys) (.slice A' (([] : List Value) ++ us).length cap) o'.toList [] (GLe.refl _) k1 k2 ⟨o', _, rfl, rfl, k3, by rw [List.nil_append]; exact hul, by rw [List.nil_append]; exact hL2.up (Mn.g_up (GLe.refl _))⟩
        refine hk _ _ _ _ (u1.trans u2) ((r1.mem u2 r2 rfl).put hd fun y hy => ?_) h
        simp only [Option.some.injEq] at hy; subst hy
        exact ⟨by simp [Mn.add, Mn.g, hmn], by rw [← hmn]; exact Mn.add_ν.symm, A', _, cap, by rw [← hmn]; exact Mn.add_ν⟩
  · rename_i id1 el ha hel
    split at h
    · rename_i k1' e1 xs hg
      cases hc : Nat.beq t t' && (Nat.beq el e2 && (Nat.beq el e1 && elemOk P t el 1 (bytesT P el))) with
      | false => rw [hc] at h; exact h.elim
      | true =>
        rw [hc] at h
        simp only [cond_true] at h
        simp only [Bool.and_eq_true] at hc
        obtain ⟨ht, hee, hee1, he⟩ := hc
        have := Nat.eq_of_beq_eq_true ht
        subst this
        have := Nat.eq_of_beq_eq_true hee1
        subst this
        cases hn : Nat.ble ((xs.length + ys.length) * mulB P el) maxL with
        | false => rw [hn, brM_f] at h; exact h.elim
        | true =>
          rw [hn, brM_t] at h
          obtain ⟨va, a1, a2⟩ := opd_ok r ha
          have a2 := a2.up u1
          obtain ⟨_, _, _, ⟨o, vx, h3, h4, h5, h6, h7⟩, _⟩ := r1.wd hg
          have hlx := (LL.at_ h7).1
          have hn' := Nat.le_of_ble_eq_true hn
          rw [hly, hlx] at hn'
          obtain ⟨n1, n2⟩ := mulB_le hn'
          obtain ⟨p, q, A, B, hC, hB, hT⟩ := r1.toRelH.ren hg
          obtain ⟨_, rfl, _⟩ := leaf_L rfl a2
          rw [h3] at hB
          refine wlAppendG (α := Value) he hC hB a1 b1 h5 hS n1 n2 hN fun A' cap o' w' k1 k2 k3 => ?_
          rw [h4] at k1 k2
          obtain ⟨u2, r2⟩ := hT m1.G w' (.pts el (xs ++ ys)) (.slice A' (vx ++ us).length cap) o'.toList [] (GLe.refl _) k1 k2 ⟨o', _, rfl, rfl, k3, by rw [List.length_append]; exact n2, (h7.app hL2).up (Mn.g_up (GLe.refl _))⟩
          refine hk _ _ _ _ (u1.trans u2) ((r1.mem u2 r2 rfl).put hd fun y hy => ?_) h
          simp only [Option.some.injEq] at hy; subst hy
          exact ⟨by simp [Mn.add, Mn.g, hmn], by rw [← hmn]; exact Mn.add_ν.symm, A', _, cap, by rw [← hmn]; exact Mn.add_ν⟩
    · exact h.elim
  · exact h.elim
theorem vcAppV_ok (r : Rel w0 G0 s m e w) {d : Option Nat} {x y : Operand} {id off t t' : Nat} {K : St E → Prop} (hy : opd s y = some (.vw id off)) (h : vcAppV (P := P) Z s d x id off t t' K) (hd : dOk d = true) (hN : okD N d = true)
    (hk : ∀ s' m' v w', Up m m' → Rel w0 G0 s' m' (e.putO d v) w' → K s' → WL P ops Q N rest (e.putO d v) w') : WL P ops Q N (⟨d, .call ⟨.builtin .append, #[x, y], #[t, t']⟩, ty, pos, af, none⟩ :: rest) e w := by
  unfold vcAppV at h
  split at h
  · rename_i kv T c a el hg ha hel
    split at h
    · rename_i dg tl o xs hdr ho
      cases hc : Nat.beq t t' && (elemOk P t el 1 (bytesT P el) && !(Nat.beq T el)) with
      | false => rw [hc] at h; exact h.elim
      | true =>
        rw [hc] at h
        simp only [cond_true] at h
        rw [Bool.and_eq_true, Bool.and_eq_true, Bool.not_eq_true'] at hc
        obtain ⟨ht, he, hTe⟩ := hc
        have := Nat.eq_of_beq_eq_true ht
        subst this
        cases hn : Nat.ble ((List.length xs + 32) * mulB P el) maxL with
        | false => rw [hn, brM_f] at h; exact h.elim
        | true =>
          rw [hn, brM_t] at h
          obtain ⟨n1, n2⟩ := mulB_le (Nat.le_of_ble_eq_true hn)
          obtain ⟨va, a1, a2⟩ := opd_ok r ha
          obtain ⟨vb, b1, b2⟩ := opd_ok r hy
          obtain ⟨_, bb, oo, b3, rfl⟩ := leaf_L rfl b2
          obtain ⟨gw, hid, hkv, ⟨b5, cs, e1, e2, e3, e4⟩, _⟩ := r.wd hg
          rw [e3] at b3
          simp only [Value.pointer.injEq, Option.some.injEq, Addr.mk.injEq, and_true] at b3
          obtain ⟨rfl, rfl⟩ := b3
          rw [Nat.zero_add] at b1
          obtain ⟨c1, c2, f1, f2, _⟩ := e4.drop hdr
          have f2 : c1 = dg.cells := f2
          subst f2
          have hcs : (cs.drop off).take 32 = dg.cells := by rw [f1]; simp
          have hXm : (b5, T, cs) ∈ m.R kv := by rw [e1]; simp
          have h32 : dg.l.length = 32 := dg.h
          unfold ownOf at ho
          split at ho
          · rename_i q
            split at ho
            · rename_i k u' el' xs' hgq
              cases hee : Nat.beq el el' with
              | false => rw [hee] at ho; cases ho
              | true =>
                rw [hee] at ho
                simp only [cond_true, Option.some.injEq, Prod.mk.injEq, Sigma.mk.injEq] at ho
                obtain ⟨rfl, rfl, hx⟩ := ho
                have hx := eq_of_heq hx
                subst hx
                have := Nat.eq_of_beq_eq_true hee
                subst this
                obtain ⟨_, _, _, ⟨o, h3, h4, h5, h6⟩, _⟩ := r.wd hgq
                obtain ⟨p, qq, A, B, hmem, hC, hB, hT⟩ := r.toRelH.ren' hgq
                obtain ⟨_, rfl, _⟩ := leaf_L rfl a2
                have hne : (b5, T, cs) ∈ p ++ qq := by
                  have h7 := hmem _ _ _ hg _ hXm
                  rw [h3] at h7
                  simp only [List.mem_append] at h7 ⊢
                  rcases h7 with h7 | h7 | h7
                  · exact .inl h7
                  · cases o with
                    | none => cases h7
                    | some y0 =>
                      have h7 : (b5, T, cs) = y0 := by simpa using h7
                      subst h7
                      obtain ⟨rows, ⟨_, h8⟩, _⟩ := h5
                      obtain ⟨h8, _⟩ := h8
                      rw [h8, Nat.beq_refl] at hTe; cases hTe
                  · exact .inr h7
                rw [h3] at hB
                refine wlAppendV he hC hB a1 hne hcs b1 h5 n1 n2 hN fun A' cap o' w' k1 k2 k3 => ?_
                rw [h4] at k1 k2
                obtain ⟨u2, r2⟩ := hT m.G w' (.arr .u8 el (xs' ++ dg.l)) (.slice A' (xs' ++ dg.l).length cap) o'.toList [] (GLe.refl _) k1 k2 ⟨o', rfl, rfl, k3, by rw [List.length_append, h32]; exact n2⟩
                refine hk _ _ _ _ u2 ((r.mem u2 r2 rfl).put hd fun y hy => ?_) h
                simp only [Option.some.injEq] at hy; subst hy
                exact ⟨by simp [Mn.add, Mn.g, r.n], by rw [← r.n]; exact Mn.add_ν.symm, A', _, cap, by rw [← r.n]; exact Mn.add_ν⟩
            · cases ho
          · split at ho
            · rename_i u' _
              simp only [Option.some.injEq, Prod.mk.injEq, Sigma.mk.injEq] at ho
              obtain ⟨rfl, rfl, hx⟩ := ho
              have hx := eq_of_heq hx
              subst hx
              obtain ⟨bl, L, hmem, hC, hB, hT⟩ := r.toRelH.new'
              have va : va = _ := leaf_L rfl a2
              subst va
              refine wlAppendV (o := none) (bl := []) (r := bl) he hC hB a1 (by simpa using hmem _ _ _ hg _ hXm) hcs b1 (Ow.nil_ _ _) n1 n2 hN fun A' cap o' w' k1 k2 k3 => ?_
              obtain ⟨u2, r2⟩ := hT m.G w' (.arr .u8 el (([] : List UInt8) ++ dg.l)) (.slice A' (([] : List UInt8) ++ dg.l).length cap) o'.toList [] (GLe.refl _) k1 k2 ⟨o', rfl, rfl, k3, by rw [List.length_append, h32]; exact n2⟩
              refine hk _ _ _ _ u2 ((r.mem u2 r2 rfl).put hd fun y hy => ?_) h
              simp only [Option.some.injEq] at hy; subst hy
              exact ⟨by simp [Mn.add, Mn.g, r.n], by rw [← r.n]; exact Mn.add_ν.symm, A', _, cap, by rw [← r.n]; exact Mn.add_ν⟩
            · cases ho
          · cases ho
    · exact h.elim
  · exact h.elim
theorem shutRows_ok {u : Ty} : ∀ {l : List (SV E)} {xs : List (u.den E)} {vs : List Value}, shutRows F m.bs u l = some xs → vs.length = l.length → (∀ (i : Nat) (x : SV E), l[i]? = some x → ∃ v, vs[i]? = some v ∧ RV m x v) → Rows2 m.G (vs.map fun v => v.cells.toList) xs
  | [], xs, vs, h, hl, _ => by
    simp only [shutRows, Option.some.injEq] at h; subst h
    cases vs with | nil => trivial | cons _ _ => simp at hl
  | x :: l, xs, [], h, hl, _ => by simp at hl
  | x :: l, xs, v :: vs, h, hl, hv => by
    simp only [shutRows] at h
    split at h
    · rename_i c hc
      split at h
      · rename_i a b ha hb
        simp only [Option.some.injEq] at h; subst h
        obtain ⟨v', e1, e2⟩ := hv 0 x rfl
        simp only [List.getElem?_cons_zero, Option.some.injEq] at e1; subst e1
        obtain ⟨cs, h3, h4⟩ := cellsOf_ok hc e2
        refine ⟨?_, shutRows_ok hb (by simpa using hl) fun i y hi => by simpa using hv (i + 1) y (by simpa using hi)⟩
        show Rp.Is m.G v.cells.toList a
        rw [h3]; exact shutT_ok F u c a cs ha h4
      · cases h
    · cases h
theorem rangeB_ok : ∀ {l : List Nat} {i : Nat}, rangeB i l = true → l = List.range' i l.length
  | [], _, _ => rfl
  | x :: l, i, h => by
    simp only [rangeB, Bool.and_eq_true] at h
    have := Nat.eq_of_beq_eq_true h.1
    subst this
    rw [List.length_cons, List.range'_succ, ← rangeB_ok h.2]
theorem midAt {A B : List (Nat × Obj)} {x : Nat × Obj} : (A ++ ([x] ++ B))[A.length]? = some x := by simp
theorem midSet {A B : List (Nat × Obj)} {x y : Nat × Obj} : (A ++ ([x] ++ B)).set A.length y = A ++ ([y] ++ B) := by
  rw [List.set_append_right _ _ (Nat.le_refl _)]; simp
theorem vcNext_ok (r : Rel w0 G0 s m e w) {d : Option Nat} {x : Operand} {id k0 mid ver kt : Nat} {k : Ty} {left : List (k.den E)} {y : HB E} {rr : Nat} {it : Obj} {b : Nat} {ob : Obj} {K : St E → Prop}
    (hg : hget s.hp id = some (k0, y)) (h1 : m.R k0 = []) (h2 : m.O k0 = [(rr, it)]) (hv : m.ν id = .pointer (some ⟨rr, 0, none⟩)) (h3 : mid < m.n) (h4 : ver < m.n) (h5 : m.ν mid = .map (some b)) (h6 : m.O ver = [(b, ob)]) (h7 : ItO (k.enc E) ob it b left)
    (hx : opv e x = some (.pointer (some ⟨rr, 0, none⟩))) (h : vcNext s d id mid ver kt k left K) (hd : dOk d = true) (hN : okD N d = true)
    (hk : ∀ s' m' v w', Up m m' → Rel w0 G0 s' m' (e.putO d v) w' → K s' → WL P ops Q N rest (e.putO d v) w') : WL P ops Q N (⟨d, .next x false, ty, pos, af, none⟩ :: rest) e w := by
  unfold vcNext at h
  split at h
  · rename_i ver' k' vt xs hg2
    cases hc : Nat.beq ver ver' && decide (k = k') with
    | false => rw [hc] at h; exact h.elim
    | true =>
      rw [hc] at h
      simp only [cond_true] at h
      rw [Bool.and_eq_true] at hc
      have := Nat.eq_of_beq_eq_true hc.1
      subst this
      have := of_decide_eq_true hc.2
      subst this
      obtain ⟨g1, _, _, _, _⟩ := r.wd hg
      obtain ⟨g2, _, _, ⟨b2, o2, _, q4, q5, q6⟩, _⟩ := r.wd hg2
      rw [h6] at q4; injection q4 with q4; injection q4 with q3 q4; subst q3 q4
      have hit : w.heap[rr]? = some it := (g1.2 _ rfl).2 (rr, it) (by rw [h2]; exact List.mem_singleton_self _)
      have hmp : w.heap[b]? = some ob := (g2.2 _ rfl).2 (b, ob) (by rw [h6]; exact List.mem_singleton_self _)
      obtain ⟨n0, n1⟩ := h
      letI := Ty.dec E k
      letI := rlT E vt
      rcases ItO.next (ty := ty) q6 h7 hit hmp with ⟨rfl, e2⟩ | ⟨l1, kx, l2, kv, it', w1, rfl, e2, e3, e4, e5⟩
      · exact wlNext0 hx e2 hN (hk _ _ _ _ (Up.refl m) (r.put hd fun y hy => by simp only [Option.some.injEq] at hy; subst hy; exact ⟨_, rfl, _, [], rfl, rfl, rfl⟩) (n0 rfl))
      · obtain ⟨p, q, A, B, hC, hB, hT⟩ := r.toRelH.turn hg
        rw [h1, h2] at hB
        rw [h2] at hC
        refine wlNext1 hC hB midAt hx e2 e3 hN fun w' hC' hB' => ?_
        rw [midSet] at hC' hB'
        obtain ⟨u, r'⟩ := hT m.G w' (.cur mid ver kt k kx (l1 ++ l2)) [] [(rr, it')] (GLe.refl _) hC' hB' ⟨rr, it', b, ob, rfl, rfl, hv, h3, h4, h5, h6, e4, e5⟩
        exact hk _ _ _ _ u ((r.mem u r' rfl).put hd fun y hy => by simp only [Option.some.injEq] at hy; subst hy; exact ⟨_, rfl, rfl⟩) (n1 l1 kx l2 rfl)
  · exact h.elim
theorem Sl.nilE {α : Type} [Rp α] {G : Gh} {v : Value} {xs : List α} (h : Sl G v xs) : ∃ A n cap, v = .slice A n cap ∧ (A = none → xs = []) := by
  obtain ⟨A, cap, e1, _, _, e4⟩ := h
  refine ⟨A, _, cap, e1, fun hA => ?_⟩
  cases xs with
  | nil => rfl
  | cons z zs => obtain ⟨b, o, row, h5, _⟩ := e4 0 z rfl; rw [hA] at h5; cases h5
theorem vcMap_ok (r : Rel w0 G0 s m e w) {d : Option Nat} {op : Op} {K : St E → Prop} (h : vcMap (P := P) F Z s d op K) (hd : dOk d = true) (hN : okD N d = true)
    (hk : ∀ s' m' v w', Up m m' → Rel w0 G0 s' m' (e.putO d v) w' → K s' → WL P ops Q N rest (e.putO d v) w') : WL P ops Q N (⟨d, op, ty, pos, af, none⟩ :: rest) e w := by
  unfold vcMap at h
  split at h
  · rename_i T
    split at h
    · split at h
      · rename_i k v _ _
        obtain ⟨bl, L, hC, hB, hT⟩ := r.toRelH.new
        refine wlMakeMapH hC hB hN fun b w' hC' hB' => ?_
        letI := rlT E v
        obtain ⟨u, r'⟩ := hT m.G w' (.map k v []) (.map (some b)) [] [(b, .map #[] 0)] (GLe.refl _) hC' hB' ⟨b, _, rfl, rfl, rfl, MpO.nil_ _ _⟩
        refine hk _ _ _ _ u ((r.mem u r' rfl).put hd fun y hy => ?_) h
        simp only [Option.some.injEq] at hy; subst hy
        exact ⟨by simp [Mn.add, Mn.g, r.n], by rw [← r.n]; exact Mn.add_ν.symm, b, by rw [← r.n]; exact Mn.add_ν⟩
      · exact h.elim
    · exact h.elim
  · rename_i t x y z
    split at h
    · split at h
      · rename_i s1 hs1
        obtain ⟨m1, u1, rh1, hsl, _⟩ := frz_ok r.toRelH hs1
        have r1 := r.mem u1 rh1 hsl
        split at h
        · rename_i id b c hx hy hz
          split at h
          · rename_i ver k vt xs hg
            split at h
            · rename_i a _ q hkey hval
              obtain ⟨vx, a1, a2⟩ := opd_ok r1 hx
              obtain ⟨vy, b1, b2⟩ := opd_ok r1 hy
              obtain ⟨vz, c1, c2⟩ := opd_ok r1 hz
              rw [← r1.bs] at hkey hval
              obtain ⟨kt, et, zv, g1, g2, g3, _, _⟩ := keySV_ok hkey b2
              have hq := shutV_ok F hval c2
              subst g3
              obtain ⟨g0, _, _, ⟨bb, o, q1, q2, q3, q4⟩, _⟩ := r1.wd hg
              obtain ⟨_, a3, _⟩ := leaf_L rfl a2
              rw [q3] at a3; subst a3
              letI := Ty.dec E k
              letI := rlT E vt
              obtain ⟨o', p1, p2, _⟩ := MpO.put q4 g2 g1 (show Rl.Is1 m1.G vz q from hq) a
              have hb : w.heap[bb]? = some o := (g0.2 _ rfl).2 (bb, o) (by rw [q2]; exact List.mem_singleton_self _)
              obtain ⟨pp, qq, A, B, hC, hB, hT⟩ := r1.toRelH.turn hg
              rw [q1, q2] at hB
              rw [q2] at hC
              refine wlMapPutH hC hB midAt a1 b1 c1 (p2 w bb hb) hN fun w' hC' hB' => ?_
              rw [midSet] at hC' hB'
              obtain ⟨u2, r2⟩ := hT m1.G w' (.map k vt (mputT k vt xs a q)) [] [(bb, o')] (GLe.refl _) hC' hB' ⟨bb, o', rfl, rfl, q3, p1⟩
              exact hk _ _ _ _ (u1.trans u2) ((r1.mem u2 r2 rfl).put hd fun y hy => by cases hy) h
            · exact h.elim
          · exact h.elim
        · exact h.elim
      · exact h.elim
    · exact h.elim
  · rename_i t x y
    split at h
    · rename_i id b hx hy
      split at h
      · rename_i ver k vt xs hg
        split at h
        · rename_i a z hkey
          obtain ⟨vx, a1, a2⟩ := opd_ok r hx
          obtain ⟨vy, b1, b2⟩ := opd_ok r hy
          rw [← r.bs] at hkey
          obtain ⟨kt, et, zv, g1, g2, g3, g4, g5⟩ := keySV_ok hkey b2
          subst g3
          obtain ⟨g0, hid, _, ⟨bb, o, q1, q2, q3, q4⟩, _⟩ := r.wd hg
          obtain ⟨_, a3, _⟩ := leaf_L rfl a2
          rw [q3] at a3; subst a3
          letI := Ty.dec E k
          letI := rlT E vt
          obtain ⟨o1, v1, st, p1, p2, p3, p4⟩ := MpO.entry2 q4 g2 g1 g4 (show Rl.Is1 m.G zv z from g5) a
          have hb : w.heap[bb]? = some o := (g0.2 _ rfl).2 (bb, o) (by rw [q2]; exact List.mem_singleton_self _)
          obtain ⟨pp, qq, A, B, hC, hB, hT⟩ := r.toRelH.turn hg
          rw [q1, q2] at hB
          rw [q2] at hC
          refine wlEntryH hC hB midAt a1 b1 (p3 w bb hb) hN fun w' hC' hB' => ?_
          rw [midSet] at hC' hB'
          obtain ⟨u2, r2⟩ := hT m.G w' (.map k vt (mputT k vt xs a ((mgetT k vt xs a).getD z))) [] [(bb, o1)] (GLe.refl _) hC' hB' ⟨bb, o1, rfl, rfl, q3, p1⟩
          obtain ⟨bl3, L3, hC3, hB3, hT3⟩ := r2.new
          have hn : m.n = s.n := r.n
          obtain ⟨u3, r3⟩ := hT3 _ w' (.stp id s.n k a) (.int .i64 st) [] [] (GLe.refl _) hC3 hB3 ⟨bb, o1, st, rfl, rfl, rfl, Nat.lt_of_lt_of_le hid (by simp [Mn.add, Mn.g]), by simp [Mn.add, Mn.g, hn], by
            show (if id = m.n then undef else m.ν id) = _
            rw [if_neg (Nat.ne_of_lt hid)]; exact q3, by
            show (if s.n = m.n then [(bb, o1)] else _) = _
            rw [if_pos hn.symm], p4⟩
          have u := u2.trans u3
          refine hk _ _ _ _ u ((r.mem u r3 rfl).put hd fun y hy => ?_) h
          simp only [Option.some.injEq] at hy; subst hy
          refine ⟨_, rfl, v1, _, rfl, opnV_V1 (F := F) (IsV.mono u.g p2), .int .i64 st, [], rfl, ⟨?_, ?_, st, ?_⟩, rfl⟩
          · simp [Mn.add, Mn.g, hn]
          · show _ = (if s.n + 1 = m.n + 1 then Value.int .i64 st else _)
            rw [if_pos (by omega)]
          · show (if s.n + 1 = m.n + 1 then Value.int .i64 st else _) = _
            rw [if_pos (by omega)]
        · exact h.elim
      · exact h.elim
    · exact h.elim
  · rename_i t x y z
    split at h
    · split at h
      · rename_i s1 hs1
        obtain ⟨m1, u1, rh1, hsl, _⟩ := frz_ok r.toRelH hs1
        have r1 := r.mem u1 rh1 hsl
        split at h
        · rename_i id q c hx hy hz
          split at h
          · rename_i ver' k vt xs ver0 mid ver k' a kt et hg hgq ht
            split at h
            · rename_i a' y' ha hval
              cases hc : Nat.beq mid id && (Nat.beq ver ver' && Z.kyB kt k) with
              | false => rw [hc] at h; exact h.elim
              | true =>
                rw [hc] at h
                rw [Bool.and_eq_true, Bool.and_eq_true] at hc
                obtain ⟨c1, c2, c3⟩ := hc
                have := Nat.eq_of_beq_eq_true c1
                subst this
                have := Nat.eq_of_beq_eq_true c2
                subst this
                obtain ⟨e1, e2⟩ := Ty.to_ok (C := fun t => t.den E) ha
                subst e1
                simp only at e2; subst e2
                obtain ⟨k1, _⟩ := ZF.kyB_ok c3
                obtain ⟨vx, a1, a2⟩ := opd_ok r1 hx
                obtain ⟨vy, b1, b2⟩ := opd_ok r1 hy
                obtain ⟨vz, d1, d2⟩ := opd_ok r1 hz
                rw [← r1.bs] at hval
                have hq := shutV_ok F hval d2
                obtain ⟨g0, _, _, ⟨bb, o, q1, q2, q3, q4⟩, _⟩ := r1.wd hg
                obtain ⟨_, _, _, ⟨b5, o5, st, _, _, q7, _, _, q10, q11, q12⟩, _⟩ := r1.wd hgq
                rw [q3] at q10; injection q10 with q10; injection q10 with q10; subst q10
                rw [q2] at q11; injection q11 with q11; injection q11 with _ q11; subst q11
                obtain ⟨_, a3, _⟩ := leaf_L rfl a2
                rw [q3] at a3; subst a3
                obtain ⟨_, b3, _⟩ := leaf_L rfl b2
                rw [q7] at b3; subst b3
                letI := Ty.dec E k'
                letI := rlT E vt
                obtain ⟨o', p1, p2⟩ := MpO.estore (t := t) (P := P) q4 k1 q12 (show Rl.Is1 m1.G vz y' from hq)
                have hb : w.heap[bb]? = some o := (g0.2 _ rfl).2 (bb, o) (by rw [q2]; exact List.mem_singleton_self _)
                obtain ⟨pp, qq, A, B, hC, hB, hT⟩ := r1.toRelH.turn hg
                rw [q1, q2] at hB
                rw [q2] at hC
                refine wlEntryStoreH hC hB midAt a1 b1 d1 (p2 w bb hb) hN fun w' hC' hB' => ?_
                rw [midSet] at hC' hB'
                obtain ⟨u2, r2⟩ := hT m1.G w' (.map k' vt (mputT k' vt xs a y')) [] [(bb, o')] (GLe.refl _) hC' hB' ⟨bb, o', rfl, rfl, q3, p1⟩
                exact hk _ _ _ _ (u1.trans u2) ((r1.mem u2 r2 rfl).put hd fun y hy => by cases hy) h
            · exact h.elim
          · exact h.elim
        · exact h.elim
      · exact h.elim
    · exact h.elim
  · rename_i t x y
    split at h
    · rename_i id hx
      split at h
      · rename_i k u e0 xs l el hg hl hel
        cases hc : sliceOk P t el (Ty.sz (E := E) u) with
        | false => rw [hc] at h; exact h.elim
        | true =>
          rw [hc] at h
          simp only [cond_true] at h
          cases hb : decide (0 ≤ l) && decide (l ≤ (xs.length : Int)) with
          | false => rw [hb, brM_f] at h; exact h.elim
          | true =>
            rw [hb, brM_t] at h
            simp only [Bool.and_eq_true, decide_eq_true_eq] at hb
            obtain ⟨l, rfl⟩ := Int.eq_ofNat_of_zero_le hb.1
            obtain ⟨v, h1, h2⟩ := opd_ok r hx
            obtain ⟨_, _, _, ⟨o, _, _, h5, _⟩, _⟩ := r.wd hg
            obtain ⟨h4, rfl, A, n, c, h7⟩ := leaf_L rfl h2
            rw [h7] at h5 h1
            have hn := h5.len
            have hcap := h5.capLe
            have hlo : (some y = none ∧ l = 0) ∨ ∃ y' k, some y = some y' ∧ opv e y' = some (.int k (l : Int)) := by
              rcases bndO_ok r hl with ⟨e1, _⟩ | ⟨y', k', e1, e2⟩
              · cases e1
              · exact .inr ⟨y', k', e1, e2⟩
            exact wlVal (opSliceG (hi := none) hc h1 hlo (.inl ⟨rfl, rfl⟩) (by omega) hcap) hN (hk _ _ _ _ (Up.refl m) (r.put hd fun y hy => by
              simp only [Option.some.injEq] at hy; subst hy
              exact ⟨h4, A, n, c, h7, rfl⟩) h)
      · exact h.elim
    · exact h.elim
  · rename_i t x lo hi _
    split at h
    · rename_i id hx
      split at h
      · rename_i s1 hs1
        obtain ⟨m1, u1, rh1, hsl, _⟩ := frz1_ok r.toRelH hs1
        have r1 := r.mem u1 rh1 hsl
        split at h
        · rename_i c y hy
          cases c with
          | false => rw [brM_f] at h; exact h.elim
          | true =>
            rw [brM_t] at h
            obtain ⟨v, h1, h2⟩ := ev2_ok (N := N) (W := fun w => Holds m1.G w) r1 (fun _ h => h) hy rfl
            exact wlVal (h2 w r1.holds _ _ _ _ _) hN (hk _ _ _ _ u1 (r1.put hd fun y hy => by simp only [Option.some.injEq] at hy; subst hy; exact h1) h)
        · exact h.elim
      · exact h.elim
    · exact h.elim
  · rename_i t x
    split at h
    · rename_i id kt et hx ht
      split at h
      · rename_i ver k vt xs hg
        obtain ⟨vx, a1, a2⟩ := opd_ok r hx
        obtain ⟨g0, g1, g2, ⟨bb, o, q1, q2, q3, q4⟩, _⟩ := r.wd hg
        obtain ⟨_, a3, _⟩ := leaf_L rfl a2
        rw [q3] at a3; subst a3
        have hb : w.heap[bb]? = some o := (g0.2 _ rfl).2 (bb, o) (by rw [q2]; exact List.mem_singleton_self _)
        obtain ⟨bl, L, hC, hB, hT⟩ := r.toRelH.new
        letI := rlT E vt
        refine wlRange q4 hb hC hB a1 (mapT_of ht).2 hN fun rr it w' hC' hB' hI => ?_
        obtain ⟨u, r'⟩ := hT m.G w' (.itr id ver kt k (xs.map fun p => p.1)) (.pointer (some ⟨rr, 0, none⟩)) [] [(rr, it)] (GLe.refl _) hC' hB' ⟨rr, it, bb, o, rfl, rfl, rfl, g1, g2, q3, q2, hI⟩
        refine hk _ _ _ _ u ((r.mem u r' rfl).put hd fun y hy => ?_) h
        simp only [Option.some.injEq] at hy; subst hy
        exact ⟨by simp [Mn.add, Mn.g, r.n], rr, 0, by rw [← r.n]; exact Mn.add_ν, rfl⟩
      · exact h.elim
    · exact h.elim
  · rename_i x
    split at h
    · rename_i id hx
      obtain ⟨vx, a1, a2⟩ := opd_ok r hx
      obtain ⟨_, b', o', a3, a4⟩ := leaf_L rfl a2
      split at h
      · rename_i k0 mid ver kt k left hg
        obtain ⟨_, _, _, ⟨rr, it, b, ob, e1, e2, e3, e4, e5, e6, e7, e8⟩, _⟩ := r.wd hg
        rw [e3] at a3
        simp only [Value.pointer.injEq, Option.some.injEq, Addr.mk.injEq, and_true] at a3
        obtain ⟨rfl, rfl⟩ := a3
        subst a4
        exact vcNext_ok r hg e1 e2 e3 e4 e5 e6 e7 e8 a1 h hd hN hk
      · rename_i k0 mid ver kt k x left hg
        obtain ⟨_, _, _, ⟨rr, it, b, ob, e1, e2, e3, e4, e5, e6, e7, e8, _⟩, _⟩ := r.wd hg
        rw [e3] at a3
        simp only [Value.pointer.injEq, Option.some.injEq, Addr.mk.injEq, and_true] at a3
        obtain ⟨rfl, rfl⟩ := a3
        subst a4
        exact vcNext_ok r hg e1 e2 e3 e4 e5 e6 e7 e8 a1 h hd hN hk
      · exact h.elim
    · exact h.elim
  · rename_i t x y yt
    split at h
    · rename_i hx hy
      obtain ⟨v, h1, h2⟩ := opd_ok r hx
      obtain ⟨u, h3, h4⟩ := opd_ok r hy
      have h2 : v = _ := leaf_L rfl h2
      have h4 : u = _ := leaf_L rfl h4
      subst h2 h4
      cases ht : isSlice P t with
      | false => rw [ht] at h; exact h.elim
      | true =>
        rw [ht] at h
        exact wlVal (opNilSlice h1 h3 ht) hN (hk _ _ _ _ (Up.refl m) (r.put hd fun y hy => by simp only [Option.some.injEq] at hy; subst hy; rfl) h)
    · rename_i a _ hx hy
      split at h
      · rename_i t' xs hn
        cases ht : isSlice P t with
        | false => rw [ht] at h; exact h.elim
        | true =>
          rw [ht] at h
          obtain ⟨g1, g0⟩ := h
          obtain ⟨v, h1, h2⟩ := opd_ok r hx
          obtain ⟨u, h3, h4⟩ := opd_ok r hy
          have h4 : u = _ := leaf_L rfl h4
          subst h4
          have hv : ∃ A n cap, v = .slice A n cap ∧ (A = none → xs = []) := by
            unfold nilB at hn
            split at hn
            · simp only [Option.some.injEq, Sigma.mk.injEq] at hn
              obtain ⟨rfl, hn⟩ := hn
              have hn := eq_of_heq hn
              subst hn
              exact Sl.nilE (leaf_L rfl h2)
            · rename_i id _
              split at hn
              · rename_i k u' el ys hg
                simp only [Option.some.injEq, Sigma.mk.injEq] at hn
                obtain ⟨rfl, hn⟩ := hn
                have hn := eq_of_heq hn
                subst hn
                obtain ⟨_, _, _, ⟨o, _, _, h5, _⟩, _⟩ := r.wd hg
                obtain ⟨_, h6, A, n, c, h7⟩ := leaf_L rfl h2
                rw [h7] at h5
                refine ⟨A, n, c, h6.trans h7, fun hA => ?_⟩
                subst hA
                cases ys with
                | nil => rfl
                | cons z zs => obtain ⟨g, off, cs, _, h8⟩ := h5.addr (i := 0) (by simp); cases h8
              · cases hn
            · cases hn
          obtain ⟨A, n, cap, rfl, hA⟩ := hv
          cases A with
          | none => exact wlVal (opNilSlice h1 h3 ht) hN (hk _ _ _ _ (Up.refl m) (r.put hd fun y hy => by simp only [Option.some.injEq] at hy; subst hy; rfl) (g1 (hA rfl)))
          | some q => exact wlVal (opNilSlice h1 h3 ht) hN (hk _ _ _ _ (Up.refl m) (r.put hd fun y hy => by simp only [Option.some.injEq] at hy; subst hy; rfl) g0)
      · exact h.elim
    · exact h.elim
  · split at h
    · rename_i hx
      split at h
      · rename_i z hz
        obtain ⟨v, h1, h2⟩ := opd_ok r hx
        obtain ⟨q, q1, q2⟩ := ent_ok r h1 h2 hz
        exact wlVal (q2 _ _ _ _ _) hN (hk _ _ _ _ (Up.refl m) (r.put hd fun y hy => by simp only [Option.some.injEq] at hy; subst hy; exact q1) h)
      · exact h.elim
    · exact h.elim
  · exact h.elim
theorem vcClr_ok (r : Rel w0 G0 s m e w) {d : Option Nat} {x : Operand} {t : Nat} {K : St E → Prop} (h : vcClr (P := P) F Z s d x t K) (hd : dOk d = true) (hN : okD N d = true)
    (hk : ∀ s' m' v w', Up m m' → Rel w0 G0 s' m' (e.putO d v) w' → K s' → WL P ops Q N rest (e.putO d v) w') : WL P ops Q N (⟨d, .call ⟨.builtin .clear, #[x], #[t]⟩, ty, pos, af, none⟩ :: rest) e w := by
  unfold vcClr at h
  split at h
  · rename_i id lo sz hx
    split at h
    · rename_i k u el xs el' hg hel
      split at h
      · rename_i zl hzl
        split at h
        · rename_i z hz
          cases hc : Nat.beq el el' && Nat.beq sz (Ty.sz (E := E) u) with
          | false => rw [hc] at h; exact h.elim
          | true =>
            rw [hc] at h
            simp only [cond_true] at h
            rw [Bool.and_eq_true] at hc
            have := Nat.eq_of_beq_eq_true hc.1
            subst this
            have hsz := Nat.eq_of_beq_eq_true hc.2
            cases hb : Nat.ble lo xs.length with
            | false => rw [hb, brM_f] at h; exact h.elim
            | true =>
              rw [hb, brM_t] at h
              have hle := Nat.le_of_ble_eq_true hb
              obtain ⟨zc, z1, z2⟩ := Z.ok _ _ hzl
              have hzis : ∀ G : Gh, Rp.Is G zc z := fun G => shutT_ok (m := ⟨G, fun _ => undef, 0, [], fun _ => .oth, fun _ => [], fun _ => []⟩) F u zl z zc hz (z2 _)
              obtain ⟨v, h1, h2⟩ := opd_ok r hx
              obtain ⟨_, _, _, ⟨o, e1, e2, h5, h6⟩, _⟩ := r.wd hg
              obtain ⟨h4, A, n, c, h7, rfl⟩ := leaf_L rfl h2
              obtain ⟨p, q, A0, B0, hC, hB, hT⟩ := r.toRelH.turn hg
              rw [e1] at hB
              rw [e2] at hC hB
              rw [h7] at h5
              have hel : P.underlying t = some (.slice el) := by
                unfold sliceElT at hel
                split at hel
                · rename_i hu; simp only [Option.some.injEq] at hel; subst hel; exact hu
                · cases hel
              refine wlClearTail hel hsz hzis z1 hC hB h5 hle h1 hN fun o' w' hC' hB' hO' => ?_
              obtain ⟨u2, r2⟩ := hT m.G w' (.arr u el (xs.take lo ++ List.replicate (xs.length - lo) z)) o'.toList [] (GLe.refl _) hC' hB' ⟨o', rfl, rfl, by rw [h7]; exact hO', by rw [List.length_append, List.length_take, List.length_replicate]; omega⟩
              exact hk _ _ _ _ u2 ((r.mem u2 r2 rfl).put hd fun y hy => by simp only [Option.some.injEq] at hy; subst hy; exact ⟨[], rfl, rfl⟩) h
        · exact h.elim
      · exact h.elim
    · exact h.elim
  · exact h.elim
theorem meth_ok {call : CallH E} (hcall : CallOk P w0 G0 call) (r : Rel w0 G0 s m e w) {d : Option Nat} {f id off bb oo : Nat} {args : List Operand} {l : List (SV E)} {vs : List Value} {K : St E → Prop} (hf : callOk P f = true)
    (hl : l.length = args.length) (b2 : vs.length = args.length) (b3 : ∀ (i : Nat) (x : SV E), l[i]? = some x → ∃ v, vs[i]? = some v ∧ RV m x v) (c1 : id < m.n) (c2 : m.ν id = .pointer (some ⟨bb, oo, none⟩))
    (h : cond true (call f (.ptr id off :: l) s (fun s' x => K ((s.mem s').putV d x))) (No f)) :
    Calls P f (Value.pointer (some ⟨bb, oo + off, none⟩) :: vs).toArray w fun e w' => ∃ v, e = .returned v ∧ ∃ s' m' x, Up m m' ∧ RelH w0 G0 s' m' w' ∧ RV m' x v ∧ K ((s.mem s').putV d x) :=
  hcall f (.ptr id off :: l) s _ m w (.pointer (some ⟨bb, oo + off, none⟩) :: vs) r.toRelH (by simp [hl, b2]) (fun i x hi => by
    cases i with
    | zero => simp at hi; subst hi; exact ⟨_, rfl, leaf_RV rfl ⟨c1, bb, oo, c2, rfl⟩⟩
    | succ i => simpa using b3 i x (by simpa using hi)) h
theorem RelH.mapOf (r : RelH w0 G0 s m w) {id ver : Nat} {k v : Ty} {xs : List (k.den E × v.den E)} (hg : hget s.hp id = some (ver, .map k v xs)) : ∃ b o, w.heap[b]? = some o ∧ m.ν id = .map (some b) ∧ MpT E m.G k v o xs := by
  obtain ⟨hW, _, _, ⟨b, o, h1, h2, h3, h4⟩, _⟩ := r.wd hg
  exact ⟨b, o, (hW.2 ver rfl).2 (b, o) (by rw [h2]; exact List.mem_singleton.2 rfl), h3, h4⟩
theorem opLenMap {x : Operand} {b : Nat} {o : Obj} {k v : Ty} {xs : List (k.den E × v.den E)} {G : Gh} {t rt kt et : TypeId} {d : Option Nat} {pos : String} {af : Array Edge} {gd : Option (Nat × Bool)} (hx : opv e x = some (.map (some b))) (ht : P.underlying t = some (.map kt et)) (hb : w.heap[b]? = some o) (hM : MpT E G k v o xs) :
    OpVal P N e w ⟨d, .call ⟨.builtin .len, #[x], #[t]⟩, rt, pos, af, gd⟩ (.int .i64 (xs.length : Int)) := fun a ha => by
  letI := rlT E v
  obtain ⟨es, c, kvs, rfl, hE, hR, _⟩ := hM
  have h1 : es.size = kvs.length := by
    have := congrArg List.length hE.kv
    simpa using this
  have h2 : kvs.length = xs.length := by
    have := congrArg List.length (@KvR.keys _ _ _ (rlT E v) _ kvs xs hR)
    simpa using this
  simp [execOp, resolve, invoke, builtin, Builtin.len_, ha.eval hx, run_underlying ht, goInt, MapKept.run_getObj_map hb, h1, h2]
theorem vcBldP_ok (r : Rel w0 G0 s m e w) {d : Option Nat} {t n el : Nat} {ps : Array (Nat × Operand)} {l : List (SV E)} {K : St E → Prop} (hl : opds s (ps.toList.map (·.2)) = some l) (h : vcBldP P s d t n ps.toList el l K) (hd : dOk d = true) (hN : okD N d = true)
    (hk : ∀ s' m' v w', Up m m' → Rel w0 G0 s' m' (e.putO d v) w' → K s' → WL P ops Q N rest (e.putO d v) w') : WL P ops Q N (⟨d, .buildSlice t n ps, ty, pos, af, none⟩ :: rest) e w := by
  letI := rpV
  unfold vcBldP at h
  cases hc : ptrsB l && (elemOk P t el 1 (bytesT P el) && (Nat.ble (n * 1) 16777216 && (Nat.beq ps.toList.length n && rangeB 0 (ps.toList.map (·.1))))) with
  | false => rw [hc] at h; exact h.elim
  | true =>
    rw [hc] at h
    simp only [cond_true] at h
    simp only [Bool.and_eq_true] at hc
    obtain ⟨c0, c1, c3, c4, c5⟩ := hc
    have c4 := Nat.eq_of_beq_eq_true c4
    obtain ⟨vs, b1, b2, b3⟩ := opds_ok r hl
    obtain ⟨g1, g2⟩ := ptrs_LL c0 (by rw [b2, opds_len hl]) b3
    obtain ⟨bl, L, hC, hB, hT⟩ := r.toRelH.new
    have hi := rangeB_ok c5
    rw [List.length_map, c4] at hi
    have hlen : vs.length ≤ maxL := by
      have e2 := Nat.le_of_ble_eq_true c3
      rw [b2, List.length_map, c4]
      unfold maxL; omega
    refine wlBuildOwn (α := Value) (ps := ps.toList) (bl := []) (r := bl) c1 rfl c3 hC hB hi b1 rfl g2 hN fun b cs w' _ k1 k2 k3 => ?_
    obtain ⟨u2, r2⟩ := hT m.G w' (.pts el l) (.slice (some ⟨b, 0, none⟩) n n) (Option.toList (some (b, el, cs))) [] (GLe.refl _) k1 k2 ⟨some (b, el, cs), vs, rfl, rfl, k3, hlen, g1⟩
    refine hk _ _ _ _ u2 ((r.mem u2 r2 rfl).put hd fun y hy => ?_) h
    simp only [Option.some.injEq] at hy; subst hy
    exact ⟨by simp [Mn.add, Mn.g, r.n], by rw [← r.n]; exact Mn.add_ν.symm, _, _, _, by rw [← r.n]; exact Mn.add_ν⟩
theorem vcEff_ok {call : CallH E} (hcall : CallOk P w0 G0 call) (r : Rel w0 G0 s m e w) {d : Option Nat} {op : Op} {K : St E → Prop} (h : vcEff (P := P) F Z call s d op K) (hd : dOk d = true) (hN : okD N d = true)
    (hk : ∀ s' m' v w', Up m m' → Rel w0 G0 s' m' (e.putO d v) w' → K s' → WL P ops Q N rest (e.putO d v) w') : WL P ops Q N (⟨d, op, ty, pos, af, none⟩ :: rest) e w := by
  have newBox : ∀ {T : Nat} {l : List (SV E)} {cs : List Value} {b : Nat} {w' : World} {bl : List Bx} {L : List (Nat × Obj)} (hT : ∀ G' w' x' v bs os, GLe m.G G' → Cx w0 G0 G' w' ⟨[], os ++ L⟩ → Bxs G' w' w0.heap.size (bs ++ bl) ⟨[], os ++ L⟩ → HB1 (m.g G') x' v bs os → Up m ((m.g G').add v x' bs os) ∧ RelH w0 G0 (s.new x') ((m.g G').add v x' bs os) w'),
      RC m l cs → Cx w0 G0 m.G w' ⟨[], L⟩ → Bxs m.G w' w0.heap.size ((b, T, cs) :: bl) ⟨[], L⟩ → ∃ m', Up m m' ∧ Rel w0 G0 ((s.new (.box T l)).put d (some (.ptr s.n 0))) m' (e.putO d (.pointer (some ⟨b, 0, none⟩))) w' := by
    intro T l cs b w' bl L hT hl hC hB
    obtain ⟨u, r'⟩ := hT m.G w' (.box T l) (.pointer (some ⟨b, 0, none⟩)) [(b, T, cs)] [] (GLe.refl _) hC hB ⟨b, cs, rfl, rfl, rfl, hl⟩
    refine ⟨_, u, (r.mem u r' rfl).put hd fun y hy => ?_⟩
    simp only [Option.some.injEq] at hy; subst hy
    exact ⟨by simp [Mn.add, Mn.g, r.n], b, 0, by rw [← r.n]; exact Mn.add_ν, rfl⟩
  unfold vcEff at h
  split at h
  · rename_i T
    split at h
    · rename_i l hz
      obtain ⟨cs, h1, h2⟩ := Z.ok _ _ hz
      obtain ⟨bl, L, hC, hB, hT⟩ := r.toRelH.new
      refine wlAlloc hC hB h1 hN fun b w' _ hC' hB' => ?_
      obtain ⟨m', u, r'⟩ := newBox hT (h2 m) hC' hB'
      exact hk _ _ _ _ u r' h
    · exact h.elim
  · rename_i T x
    split at h
    · rename_i y hy
      split at h
      · rename_i l hl
        obtain ⟨v, h1, h2⟩ := opd_ok r hy
        obtain ⟨cs, h3, h4⟩ := cellsOf_ok hl h2
        obtain ⟨bl, L, hC, hB, hT⟩ := r.toRelH.new
        refine wlBox hC hB h1 h3 hN fun b w' _ hC' hB' => ?_
        obtain ⟨m', u, r'⟩ := newBox hT h4 hC' hB'
        exact hk _ _ _ _ u r' h
      · exact h.elim
    · exact h.elim
  · split at h
    · rename_i t a x id o y ha hy
      split at h
      · rename_i k T c l n hg hl hn
        split at h
        · rename_i c' hc'
          obtain ⟨va, h1, h2⟩ := opd_ok r ha
          obtain ⟨v, h3, h4⟩ := opd_ok r hy
          obtain ⟨xs, h5, h6⟩ := cellsOf_ok hl h4
          obtain ⟨_, _, _, ⟨b, cs, e1, e2, e3, e4⟩, _⟩ := r.wd hg
          obtain ⟨p, q, A, B, hC, hB, hT⟩ := r.toRelH.turn hg
          obtain ⟨_, b', o', h7, h8⟩ := leaf_L rfl h2
          rw [e3] at h7
          simp only [Value.pointer.injEq, Option.some.injEq, Addr.mk.injEq, and_true] at h7
          obtain ⟨rfl, rfl⟩ := h7
          rw [Nat.zero_add] at h8
          subst h8
          rw [e1] at hB
          rw [e2] at hC hB
          obtain ⟨f1, f2, f3⟩ := e4.splice hc' h6
          refine wlStore p.length hC hB (show (p ++ ([(b, T, cs)] ++ q))[p.length]? = some (b, T, cs) by simp) h1 h3 hn h5 f2 (by rw [List.all_eq_true]; exact h6.one) f3 rfl hN fun w' hC' hB' => ?_
          obtain ⟨u, r'⟩ := hT m.G w' (.box T c') [(b, T, cs.take o ++ xs ++ cs.drop (o + n))] [] (GLe.refl _) hC' (by simpa using hB') ⟨b, _, rfl, rfl, e3, f1⟩
          exact hk _ _ _ _ u ((r.mem u r' rfl).put hd fun y hy => by cases hy) h
        · exact h.elim
      · exact h.elim
    · rename_i t a x id i sz o y0 ha hy0
      split at h
      · rename_i s1 hs1
        obtain ⟨m1, u1, rh1, hsl, _⟩ := frz_ok r.toRelH hs1
        have r1 := r.mem u1 rh1 hsl
        split at h
        · rename_i y k u el xs n hy hg hn
          cases hz : Nat.beq sz (Ty.sz (E := E) u) with
          | false => rw [hz] at h; exact h.elim
          | true =>
            rw [hz] at h
            simp only [cond_true] at h
            have := Nat.eq_of_beq_eq_true hz
            subst this
            split at h
            · rename_i l hl
              split at h
              · rename_i c' hc'
                split at h
                · rename_i z hzz
                  obtain ⟨va, h1, h2⟩ := opd_ok r ha
                  have h2 := h2.up u1
                  obtain ⟨v, h3, h4⟩ := opd_ok r1 hy
                  obtain ⟨vs, h5, h6⟩ := cellsOf_ok hl h4
                  obtain ⟨_, _, _, ⟨ob, e1, e2, e3, e4⟩, _⟩ := r1.wd hg
                  obtain ⟨p, q, A, B, hC, hB, hT⟩ := r1.toRelH.turn hg
                  obtain ⟨_, b, so, n', c, g1, g2, g3⟩ := leaf_L rfl h2
                  rw [g1] at e3
                  have hlen := e3.len
                  have hlt : i < xs.length := by omega
                  have hxi : xs[i]? = some (xs.getD i (u.dflt E)) := by rw [List.getD_eq_getElem?_getD, List.getElem?_eq_getElem hlt]; rfl
                  obtain ⟨g, off', cs, rfl, q1⟩ := e3.addr hlt
                  simp only [Option.some.injEq, Addr.mk.injEq, and_true] at q1
                  obtain ⟨rfl, rfl⟩ := q1
                  rw [e1] at hB
                  rw [e2] at hC hB
                  subst g3
                  rw [← r1.bs] at hzz
                  have hsp : ∀ row, Rp.Is m1.G row (xs.getD i (u.dflt E)) → RC m1 c' (row.take o ++ vs ++ row.drop (o + n)) ∧ vs.length = n ∧ o + n ≤ row.length := fun row hrow => (opn_ok F u _ row hrow).splice hc' h6
                  obtain ⟨row0, f1, f2, _⟩ := Ow.row e3 hxi
                  obtain ⟨_, f4, f5⟩ := hsp row0 f1
                  refine wlStoreOw hC hB e3 hxi h1 rfl h3 hn h5 f4 (by rw [List.all_eq_true]; exact h6.one) (by rw [f2] at f5; exact f5) (fun row hrow => shutT_ok F u c' z _ hzz (hsp row hrow).1) hN fun cs' w' k1 k2 k3 => ?_
                  obtain ⟨u2, r2⟩ := hT m1.G w' (.arr u el (xs.set i z)) (Option.toList (some (b, el, cs'))) [] (GLe.refl _) k1 k2 ⟨some (b, el, cs'), rfl, rfl, by rw [g1]; exact k3, by rw [List.length_set]; exact e4⟩
                  exact hk _ _ _ _ (u1.trans u2) ((r1.mem u2 r2 rfl).put hd fun y hy => by cases hy) h
                · exact h.elim
              · exact h.elim
            · exact h.elim
        · exact h.elim
      · exact h.elim
    · rename_i t a x id o n i y ha hy
      exact vcVst_ok r ha hy h hd hN hk
    · exact h.elim
  · rename_i t n ps
    split at h
    · rename_i el l0 hel hl0
      split at h
      · rename_i s1 u hs1 hu
        obtain ⟨m1, u1, rh1, hsl, _⟩ := frzs_ok r.toRelH hs1
        have r1 := r.mem u1 rh1 hsl
        split at h
        · rename_i l hl
          split at h
          · rename_i xs hxs
            cases hc : elemOk P t el (Ty.sz (E := E) u) (bytesT P el) && Nat.blt 0 (Ty.sz (E := E) u) && Nat.ble (n * Ty.sz (E := E) u) 16777216 && Nat.beq ps.toList.length n && rangeB 0 (ps.toList.map (·.1)) with
            | false => rw [hc] at h; exact h.elim
            | true =>
              rw [hc] at h
              simp only [cond_true] at h
              simp only [Bool.and_eq_true] at hc
              obtain ⟨⟨⟨⟨c1, c2⟩, c3⟩, c4⟩, c5⟩ := hc
              have c4 := Nat.eq_of_beq_eq_true c4
              obtain ⟨vs, b1, b2, b3⟩ := opds_ok r1 hl
              rw [← r1.bs] at hxs
              have hR := shutRows_ok hxs (by rw [b2, opds_len hl]) b3
              obtain ⟨bl, L, hC, hB, hT⟩ := r1.toRelH.new
              have hi := rangeB_ok c5
              rw [List.length_map, c4] at hi
              have hlen : xs.length ≤ maxL := by
                have e1 := hR.length
                rw [List.length_map, b2, List.length_map, c4] at e1
                have e2 := Nat.le_of_ble_eq_true c3
                have e3 : n ≤ n * Ty.sz (E := E) u := Nat.le_mul_of_pos_right n (Nat.le_of_ble_eq_true c2)
                unfold maxL; omega
              refine wlBuildOwn (ps := ps.toList) (bl := []) (r := bl) c1 c2 c3 hC hB hi b1 rfl hR hN fun b cs w' _ k1 k2 k3 => ?_
              obtain ⟨u2, r2⟩ := hT m1.G w' (.arr u el xs) (.slice (some ⟨b, 0, none⟩) n n) (Option.toList (some (b, el, cs))) [] (GLe.refl _) k1 k2 ⟨some (b, el, cs), rfl, rfl, k3, hlen⟩
              refine hk _ _ _ _ (u1.trans u2) ((r1.mem u2 r2 rfl).put hd fun y hy => ?_) h
              simp only [Option.some.injEq] at hy; subst hy
              exact ⟨by simp [Mn.add, Mn.g, r1.n], by rw [← r1.n]; exact Mn.add_ν.symm, _, _, _, by rw [← r1.n]; exact Mn.add_ν⟩
          · exact h.elim
        · exact h.elim
      · exact vcBldP_ok r hl0 h hd hN hk
      · exact h.elim
    · exact h.elim
  · rename_i c
    split at h
    · rename_i g hg
      obtain ⟨cl, args, ats⟩ := c
      have hg : cl = .value g := hg
      subst hg
      split at h
      · rename_i f caps l h1 h2
        cases hf : callOk P f with
        | false =>
          rw [hf] at h
          simp only [cond_false] at h
          split at h
          · obtain ⟨vf, a1, cv, rfl, a2⟩ := opd_ok r h1
            have a2 : cv = _ := a2
            subst a2
            obtain ⟨vs, b1, b2, b3⟩ := opds_ok r h2
            exact vcExt_ok r a1 b1 (by rw [b2, opds_len h2]) b3 h hd hN hk
          · exact h.elim
        | true =>
        rw [hf] at h
        simp only [cond_true] at h
        obtain ⟨vf, a1, cv, rfl, a2⟩ := opd_ok r h1
        obtain ⟨vs, b1, b2, b3⟩ := opds_ok r h2
        have hl := opds_len h2
        have hcv : ∀ (caps : List (SV E)) (cv : List Value), LL m caps cv → caps.length = cv.length ∧ ∀ (i : Nat) (x : SV E), caps[i]? = some x → ∃ v, cv[i]? = some v ∧ RV m x v := by
          intro caps
          induction caps with
          | nil => intro cv h; have h : cv = _ := h; subst h; exact ⟨rfl, fun i x h => by simp at h⟩
          | cons a t ih =>
            rintro cv ⟨u, us, rfl, g1, g2⟩
            obtain ⟨i1, i2⟩ := ih us g2
            refine ⟨by simp [i1], fun i x hi => ?_⟩
            cases i with
            | zero => simp at hi; subst hi; refine ⟨u, rfl, ?_⟩; cases a <;> first | exact g1 | cases g1
            | succ i => simpa using i2 i x (by simpa using hi)
        obtain ⟨c1, c2⟩ := hcv _ _ a2
        have hc := hcall f (l ++ caps) s _ m w (vs ++ cv) r.toRelH (by rw [List.length_append, List.length_append, hl, b2, c1]) (fun i x hi => by
          rcases Nat.lt_or_ge i l.length with hi' | hi'
          · rw [List.getElem?_append_left hi'] at hi
            obtain ⟨v, d1, d2⟩ := b3 i x hi
            exact ⟨v, by rw [List.getElem?_append_left (by omega)]; exact d1, d2⟩
          · rw [List.getElem?_append_right hi'] at hi
            obtain ⟨v, d1, d2⟩ := c2 _ x hi
            exact ⟨v, by rw [List.getElem?_append_right (by omega), b2, ← hl]; exact d1, d2⟩) h
        have hop := opCall (P := P) (N := N) (e := e) (w := w) (d := d) (ty := ty) (pos := pos) (af := af) (gd := none) (x := g) (f := f) (xs := args.toList) (vs := vs) (caps := cv) (first := []) (ats := ats) a1 hf b1
          (R := fun v w' => ∃ s' m' x, Up m m' ∧ RelH w0 G0 s' m' w' ∧ RV m' x v ∧ K ((s.mem s').putV d x))
          (hc.mono fun e w' ⟨v, he, s', m', x, h1, h2, h3, h4⟩ => ⟨v, he, s', m', x, h1, h2, h3, h4⟩)
        rw [show args.toList.toArray = args from rfl] at hop
        refine wlStep hN hop fun v w' ⟨s', m', x, u, rh, hv, hK⟩ => ?_
        obtain ⟨m2, u2, r2⟩ := (r.up u rh).putV hd hv
        exact hk _ _ _ _ (u.trans u2) r2 hK
      · rename_i T id off name l h1 h2
        obtain ⟨vf, a1, u0, rfl, a2⟩ := opd_ok r h1
        obtain ⟨vs, b1, b2, b3⟩ := opds_ok r h2
        obtain ⟨c1, bb, oo, c2, rfl⟩ := a2
        unfold vcMeth at h
        split at h
        · rename_i f hm
          cases hf : callOk P f with
          | false => rw [hf] at h; exact h.elim
          | true =>
            rw [hf] at h
            have hop := meth_ok hcall r hf (opds_len h2) b2 b3 c1 c2 h
            have hop2 := opMethV (P := P) (N := N) (e := e) (w := w) (d := d) (ty := ty) (pos := pos) (af := af) (gd := none) (ats := ats) hm a1 hf b1 hop
            rw [show args.toList.toArray = args from rfl] at hop2
            refine wlStep hN hop2 fun v w' ⟨s', m', x, u, rh, hv, hK⟩ => ?_
            obtain ⟨m2, u2, r2⟩ := (r.up u rh).putV hd hv
            exact hk _ _ _ _ (u.trans u2) r2 hK
        · exact h.elim
      · exact h.elim
    · rename_i g name hg
      obtain ⟨cl, args, ats⟩ := c
      have hg : cl = .invoke g name := hg
      subst hg
      split at h
      · rename_i T id off l h1 h2
        obtain ⟨vf, a1, a2⟩ := opd_ok r h1
        obtain ⟨vs, b1, b2, b3⟩ := opds_ok r h2
        obtain ⟨c1, bb, oo, c2, rfl⟩ := leaf_L rfl a2
        unfold vcMeth at h
        split at h
        · rename_i f hm
          cases hf : callOk P f with
          | false => rw [hf] at h; exact h.elim
          | true =>
            rw [hf] at h
            have hop := meth_ok hcall r hf (opds_len h2) b2 b3 c1 c2 h
            have hop2 := opMeth (P := P) (N := N) (e := e) (w := w) (d := d) (ty := ty) (pos := pos) (af := af) (gd := none) (ats := ats) hm a1 hf b1 hop
            rw [show args.toList.toArray = args from rfl] at hop2
            refine wlStep hN hop2 fun v w' ⟨s', m', x, u, rh, hv, hK⟩ => ?_
            obtain ⟨m2, u2, r2⟩ := (r.up u rh).putV hd hv
            exact hk _ _ _ _ (u.trans u2) r2 hK
        · exact h.elim
      · exact h.elim
    · rename_i hg
      obtain ⟨cl, args, ats⟩ := c
      have hg : cl = .builtin .clear := hg
      subst hg
      split at h
      · rename_i x t h1 h2
        obtain rfl : args = #[x] := Array.ext' h1
        obtain rfl : ats = #[t] := Array.ext' h2
        split at h
        · rename_i hv
          exact vcVcl_ok r hv h hd hN hk
        · exact vcClr_ok r h hd hN hk
      · exact h.elim
    · rename_i hg
      obtain ⟨cl, args, ats⟩ := c
      have hg : cl = .builtin .copy := hg
      subst hg
      split at h
      · rename_i x y t t' h1 h2
        obtain rfl : args = #[x, y] := Array.ext' h1
        obtain rfl : ats = #[t, t'] := Array.ext' h2
        split at h
        · rename_i h3 h4
          exact vcVcp_ok r h3 h4 h hd hN hk
        · exact h.elim
      · exact h.elim
    · rename_i hg
      obtain ⟨cl, args, ats⟩ := c
      have hg : cl = .builtin .len := hg
      subst hg
      split at h
      · rename_i x t h1 h2
        obtain rfl : args = #[x] := Array.ext' h1
        obtain rfl : ats = #[t] := Array.ext' h2
        split at h
        · rename_i id kv hx hT
          split at h
          · rename_i ver k v xs hgt
            obtain ⟨vx, a1, a2⟩ := opd_ok r hx
            obtain ⟨_, a3, b, a4⟩ := leaf_L rfl a2
            obtain ⟨b', o, hO, hν, hM⟩ := r.mapOf hgt
            rw [a4] at hν
            injection hν with hν; injection hν with hν; subst hν
            rw [a3, a4] at a1
            refine wlVal (opLenMap a1 (mapT_of hT).1 hO hM) hN ?_
            exact hk _ _ _ _ (Up.refl m) (r.put hd fun y hy => by simp only [Option.some.injEq] at hy; subst hy; rfl) h
          · exact h.elim
        · exact h.elim
      · exact h.elim
    · rename_i hg
      obtain ⟨cl, args, ats⟩ := c
      have hg : cl = .builtin .append := hg
      subst hg
      split at h
      · rename_i x y t t' h1 h2
        obtain rfl : args = #[x, y] := Array.ext' h1
        obtain rfl : ats = #[t, t'] := Array.ext' h2
        split at h
        · rename_i hv
          exact vcAppV_ok r hv h hd hN hk
        · rename_i id2 hv
          split at h
          · rename_i hg2
            exact vcAppP_ok r hv hg2 h hd hN hk
          · exact vcApp_ok r h hd hN hk
        · exact vcApp_ok r h hd hN hk
      · exact h.elim
    · exact h.elim
  · exact vcMap_ok r h hd hN hk
theorem RelH.wdOp (r : RelH w0 G0 s m w) (op : Op) : Wd m (dep s op) w := by
  unfold dep
  have key : ∀ id, Wd m (s.ver id) w := fun id => by
    unfold St.ver
    split
    · rename_i hg; exact (r.wd hg).1
    · exact r.wd0
  split
  · split
    · exact key _
    · exact key _
    · exact key _
    · exact r.wd0
  · split
    · exact key _
    · exact r.wd0
  · exact r.wd0
theorem vcOp_ok {call : CallH E} (hcall : CallOk P w0 G0 call) (r : Rel w0 G0 s m e w) {d : Option Nat} {op : Op} {K : St E → Prop} (h : vcOp F Z call s d op K) (hd : dOk d = true) (hN : okD N d = true)
    (hk : ∀ s' m' v w', Up m m' → Rel w0 G0 s' m' (e.putO d v) w' → K s' → WL P ops Q N rest (e.putO d v) w') : WL P ops Q N (⟨d, op, ty, pos, af, none⟩ :: rest) e w := by
  unfold vcOp at h
  split at h
  · rename_i x hx
    obtain ⟨v, h1, h2⟩ := ev_ok r hx
    obtain ⟨m', u, r'⟩ := r.putV hd h1
    exact wlVal (h2 w (r.wdOp _) _ _ _ _ _) hN (hk _ _ _ _ u r' h)
  · rename_i b hx
    exact wlVal (ev_ok r hx w (r.wdOp _) _ _ _ _ _) hN (hk _ _ _ _ (m.cmp_up b) (r.cmp hd) h)
  · rename_i c x hx
    cases c with
    | false => rw [brM_f] at h; exact h.elim
    | true =>
      rw [brM_t] at h
      obtain ⟨v, h1, h2⟩ := ev_ok r hx rfl
      exact wlVal (h2 w (r.wdOp _) _ _ _ _ _) hN (hk _ _ _ _ (Up.refl m) (r.put hd fun y hy => by simp only [Option.some.injEq] at hy; subst hy; exact h1) h)
  · rename_i c x hx
    obtain ⟨rfl, v, h1, h2⟩ := ev_ok r hx
    rw [brM_t] at h
    exact wlVal (h2 w (r.wdOp _) _ _ _ _ _) hN (hk _ _ _ _ (Up.refl m) (r.put hd fun y hy => by simp only [Option.some.injEq] at hy; subst hy; exact h1) h)
  · exact vcEff_ok hcall r h hd hN hk
theorem vcOp1_ok {call : CallH E} (hcall : CallOk P w0 G0 call) (r : Rel w0 G0 s m e w) {d : Option Nat} {op : Op} {K : St E → Prop} (h : vcOp1 F Z call s d op K) (hd : dOk d = true) (hN : okD N d = true)
    (hk : ∀ s' m' v w', Up m m' → Rel w0 G0 s' m' (e.putO d v) w' → K s' → WL P ops Q N rest (e.putO d v) w') : WL P ops Q N (⟨d, op, ty, pos, af, none⟩ :: rest) e w := by
  unfold vcOp1 at h
  split at h
  · split at h
    · rename_i x hx
      obtain ⟨v, h1, h2⟩ := opd_ok r hx
      obtain ⟨q, s', _, r', h'⟩ := ask_ok r h2 h
      cases q <;> exact vcOp_ok hcall r' h' hd hN hk
    · exact h.elim
  · exact vcOp_ok hcall r h hd hN hk
theorem putO_other {d : Option Nat} {v : Value} {t : Nat} (h : d ≠ some t) : (e.putO d v) t = e t := by
  cases d with
  | none => rfl
  | some d => simp only [Env.putO, Env.put]; rw [Gx.beq_false (fun h' => h (by rw [h']))]; rfl
theorem dsts_hd {o : Oper} {l : List Oper} {t : Nat} (h : o.dst = some t) : t ∈ dsts (o :: l) := by
  unfold dsts; rw [h]; exact List.mem_cons_self
theorem dsts_tl {o : Oper} {l : List Oper} {t : Nat} (h : t ∈ dsts l) : t ∈ dsts (o :: l) := by
  unfold dsts; split <;> first | exact h | exact List.mem_cons_of_mem _ h
section
variable {j k : Nat} {q : Bool}
theorem spanG_ok : ∀ (l : List Oper), l = (spanG j q l).1 ++ (spanG j q l).2 ∧ ∀ o ∈ (spanG j q l).1, o.guard = some (j, q)
  | [] => ⟨rfl, fun o h => by cases h⟩
  | o :: r => by
    obtain ⟨h1, h2⟩ := spanG_ok r
    unfold spanG
    split
    · rename_i j' q' hg
      cases hb : Nat.beq j' j && (q' == q) with
      | false => exact ⟨rfl, fun o h => by cases h⟩
      | true =>
        rw [Bool.and_eq_true] at hb
        have e1 := Nat.eq_of_beq_eq_true hb.1
        have e2 := eq_of_beq hb.2
        subst e1 e2
        refine ⟨by simp only [cond_true, List.cons_append, ← h1], fun x hx => ?_⟩
        rcases List.mem_cons.1 hx with rfl | hx
        · exact hg
        · exact h2 x hx
    · exact ⟨rfl, fun o h => by cases h⟩
theorem dsts_cat {a b : List Oper} {t : Nat} (h : t ∈ dsts a) : t ∈ dsts (a ++ b) := by
  induction a with
  | nil => cases h
  | cons o r ih =>
    unfold dsts at h
    show t ∈ dsts (o :: (r ++ b))
    split at h
    · rename_i d hd
      rcases List.mem_cons.1 h with rfl | h
      · exact dsts_hd hd
      · exact dsts_tl (ih h)
    · exact dsts_tl (ih h)
theorem dsts_cat2 {a b : List Oper} {t : Nat} (h : t ∈ dsts b) : t ∈ dsts (a ++ b) := by
  induction a with
  | nil => exact h
  | cons o r ih => exact dsts_tl ih
theorem evP_st : ∀ {l : List Oper} {s s1 : St E}, evP (P := P) F Z N l s = some s1 → s1.hp = s.hp ∧ s1.n = s.n ∧ s1.kn = s.kn ∧ s1.md = s.md ∧ ∃ x, s1.bs = s.bs ++ x
  | [], s, s1, h => by simp only [evP, Option.some.injEq] at h; subst h; exact ⟨rfl, rfl, rfl, rfl, [], by simp⟩
  | o :: r, s, s1, h => by
    have hput : ∀ (d : Option Nat) (x : Option (SV E)), (s.put d x).hp = s.hp ∧ (s.put d x).n = s.n ∧ (s.put d x).kn = s.kn ∧ (s.put d x).md = s.md ∧ (s.put d x).bs = s.bs := fun d x => by cases d <;> exact ⟨rfl, rfl, rfl, rfl, rfl⟩
    have hcmp : ∀ (d : Option Nat) (b : Bool), (s.cmp d b).hp = s.hp ∧ (s.cmp d b).n = s.n ∧ (s.cmp d b).kn = s.kn ∧ (s.cmp d b).md = s.md ∧ (s.cmp d b).bs = s.bs ++ [b] := fun d b => by cases d <;> exact ⟨rfl, rfl, rfl, rfl, rfl⟩
    have hputV : ∀ (d : Option Nat) (x : SV E), (s.putV d x).hp = s.hp ∧ (s.putV d x).n = s.n ∧ (s.putV d x).kn = s.kn ∧ (s.putV d x).md = s.md ∧ ∃ y, (s.putV d x).bs = s.bs ++ y := fun d x => by
      unfold St.putV
      split
      · obtain ⟨a, b, c, e, f⟩ := hcmp d ‹Bool›; exact ⟨a, b, c, e, _, f⟩
      · obtain ⟨a, b, c, e, f⟩ := hput d (some x); exact ⟨a, b, c, e, [], by rw [f, List.append_nil]⟩
    have fin : ∀ {s2 : St E}, (s2.hp = s.hp ∧ s2.n = s.n ∧ s2.kn = s.kn ∧ s2.md = s.md ∧ ∃ y, s2.bs = s.bs ++ y) → evP (P := P) F Z N r s2 = some s1 → s1.hp = s.hp ∧ s1.n = s.n ∧ s1.kn = s.kn ∧ s1.md = s.md ∧ ∃ x, s1.bs = s.bs ++ x := fun ⟨a, b, c, e, y, f⟩ h2 => by
      obtain ⟨a2, b2, c2, e2, z, f2⟩ := evP_st h2
      exact ⟨a2.trans a, b2.trans b, c2.trans c, e2.trans e, y ++ z, by rw [f2, f, List.append_assoc]⟩
    unfold evP at h
    cases hd : dOk o.dst && okD N o.dst with
    | false => rw [hd] at h; cases h
    | true =>
      rw [hd, cond_true] at h
      split at h
      · exact fin (hputV _ _) h
      · obtain ⟨a, b, c, e, f⟩ := hcmp o.dst ‹Bool›; exact fin ⟨a, b, c, e, _, f⟩ h
      · rename_i x _; obtain ⟨a, b, c, e, f⟩ := hput o.dst (some x); exact fin ⟨a, b, c, e, [], by rw [f, List.append_nil]⟩ h
      · cases h
      · split at h
        · split at h
          · split at h
            · split at h
              · rename_i f _ _ _ _ _ _
                cases hf : callOk P f with
                | false => rw [hf] at h; cases h
                | true => rw [hf] at h; exact fin (hputV _ _) h
              · cases h
            · cases h
          · cases h
        · cases h
theorem opCallF {m : Mn E} {s : St E} {e : Env} {w : World} (r : Rel w0 G0 s m e w) {g : Operand} {f : Nat} {args : Array Operand} {ats : Array TypeId} {l : List (SV E)} {x : SV E} {d : Option Nat} {ty : TypeId} {pos : String} {af : Array Edge} (h1 : opd s g = some (.fn f [])) (h2 : opds s args.toList = some l) (hp : Z.pc f l s = some x) (hf : callOk P f = true) (hN : okD N d = true) {rest : List Oper}
    (hk : ∀ m' v w', Up m m' → RelH w0 G0 s m' w' → RV m' x v → WL P ops Q N rest (e.putO d v) w') : WL P ops Q N (⟨d, .call ⟨.value g, args, ats⟩, ty, pos, af, none⟩ :: rest) e w := by
  obtain ⟨vf, a1, cv, rfl, a2⟩ := opd_ok r h1
  have a2 : cv = _ := a2
  subst a2
  obtain ⟨vs, b1, b2, b3⟩ := opds_ok r h2
  have hc := Z.pcok f l s x hp w0 G0 m w vs r.toRelH (by rw [b2, opds_len h2]) b3
  have hop := opCall (P := P) (N := N) (e := e) (w := w) (d := d) (ty := ty) (pos := pos) (af := af) (gd := none) (ats := ats) a1 hf b1 (by simpa using hc)
  rw [show args.toList.toArray = args from rfl] at hop
  refine wlStep hN hop fun v w' ⟨m', u, rh, hv⟩ => hk m' v w' u rh hv
theorem evP_ok {rest : List Oper} (hj : gslot ops j = some k) : ∀ {l : List Oper} {s s1 : St E} {m : Mn E} {e : Env} {w : World}, evP F Z N l s = some s1 → Rel w0 G0 s m e w → (∀ o ∈ l, o.guard = some (j, q)) → apart k l = true → e k = some (.bool q) →
    (∀ m' e' w', Up m m' → Rel w0 G0 s1 m' e' w' → (∀ t, t ∉ dsts l → e' t = e t) → WL P ops Q N rest e' w') → WL P ops Q N (l ++ rest) e w
  | [], s, s1, m, e, w, h, r, _, _, _, hk => by simp only [evP, Option.some.injEq] at h; subst h; exact hk m e w (Up.refl m) r fun _ _ => rfl
  | ⟨d, op, ty, pos, af, gd⟩ :: l, s, s1, m, e, w, h, r, hg, ha, hb, hk => by
    obtain rfl : gd = some (j, q) := hg _ List.mem_cons_self
    unfold apart at ha
    rw [List.all_cons, Bool.and_eq_true] at ha
    have hdk : d ≠ some k := fun e => by subst e; have := ha.1; simp at this
    unfold evP at h
    cases hdd : dOk d && okD N d with
    | false => simp only [hdd, cond_false] at h; cases h
    | true =>
      simp only [hdd, cond_true] at h
      rw [Bool.and_eq_true] at hdd
      obtain ⟨hd, hN⟩ := hdd
      have next : ∀ s2 m2 v w2, Up m m2 → Rel w0 G0 s2 m2 (e.putO d v) w2 → evP F Z N l s2 = some s1 → WL P ops Q N (l ++ rest) (e.putO d v) w2 := fun s2 m2 v w2 u2 r2 h2 =>
        evP_ok hj h2 r2 (fun o ho => hg o (List.mem_cons_of_mem _ ho)) ha.2 ((putO_other hdk).trans hb) fun m' e' w' u' r' he => hk m' e' w' (u2.trans u') r' fun t ht => (he t fun h => ht (dsts_tl h)).trans (putO_other fun h => ht (dsts_hd h))
      show WL P ops Q N (⟨d, op, ty, pos, af, some (j, q)⟩ :: (l ++ rest)) e w
      refine wlOn hj hb ?_
      split at h
      · rename_i x hx
        obtain ⟨v, h1, h2⟩ := ev_ok r hx
        obtain ⟨m', u, r'⟩ := r.putV hd h1
        exact wlVal (h2 w (r.wdOp _) _ _ _ _ _) hN (next _ _ _ _ u r' h)
      · rename_i b hx
        exact wlVal (ev_ok r hx w (r.wdOp _) _ _ _ _ _) hN (next _ _ _ _ (m.cmp_up b) (r.cmp hd) h)
      · rename_i c x hx
        obtain ⟨_, v, h1, h2⟩ := ev_ok r hx
        exact wlVal (h2 w (r.wdOp _) _ _ _ _ _) hN (next _ _ _ _ (Up.refl m) (r.put hd fun y hy => by simp only [Option.some.injEq] at hy; subst hy; exact h1) h)
      · cases h
      · split at h
        · rename_i c _
          obtain ⟨cl, args, ats⟩ := c
          simp only at h
          split at h
          · rename_i g
            split at h
            · rename_i f l' h1 h2
              split at h
              · rename_i x hp
                cases hf : callOk P f with
                | false => rw [hf] at h; cases h
                | true =>
                  rw [hf, cond_true] at h
                  refine opCallF r h1 h2 hp hf hN fun m' v w' u rh hv => ?_
                  obtain ⟨m2, u2, r2⟩ := (show Rel w0 G0 s m' e w' from ⟨rh, fun t y ht => by obtain ⟨v, g1, g2⟩ := r.sl t y ht; exact ⟨v, g1, g2.up u⟩⟩).putV (d := d) hd hv
                  exact next _ _ _ _ (u.trans u2) r2 h
              · cases h
            · cases h
          · cases h
        · cases h
theorem offP {rest : List Oper} (hj : gslot ops j = some k) {q' : Bool} (hq : (q' == q) = false) {w : World} : ∀ {l : List Oper} {s s1 : St E} {e : Env}, evP (P := P) F Z N l s = some s1 → (∀ o ∈ l, o.guard = some (j, q)) → apart k l = true → e k = some (.bool q') →
    (∀ e', (∀ t, t ∉ dsts l → e' t = e t) → WL P ops Q N rest e' w) → WL P ops Q N (l ++ rest) e w
  | [], s, s1, e, _, _, _, _, hk => hk e fun _ _ => rfl
  | ⟨d, op, ty, pos, af, gd⟩ :: l, s, s1, e, h, hg, ha, hb, hk => by
    obtain rfl : gd = some (j, q) := hg _ List.mem_cons_self
    unfold apart at ha
    rw [List.all_cons, Bool.and_eq_true] at ha
    have hdk : d ≠ some k := fun e => by subst e; have := ha.1; simp at this
    have next : ∀ {s2 : St E}, okD N d = true → evP (P := P) F Z N l s2 = some s1 → WL P ops Q N (⟨d, op, ty, pos, af, some (j, q)⟩ :: l ++ rest) e w := fun {s2} hN h2 =>
      wlOff hj hb hq hN (offP hj hq h2 (fun o ho => hg o (List.mem_cons_of_mem _ ho)) ha.2 ((putO_other hdk).trans hb) fun e' he => hk e' fun t ht => (he t fun h => ht (dsts_tl h)).trans (putO_other fun h => ht (dsts_hd h)))
    unfold evP at h
    cases hdd : dOk d && okD N d with
    | false => simp only [hdd, cond_false] at h; cases h
    | true =>
      simp only [hdd, cond_true] at h
      rw [Bool.and_eq_true] at hdd
      obtain ⟨hd, hN⟩ := hdd
      split at h
      · exact next hN h
      · exact next hN h
      · exact next hN h
      · cases h
      · split at h
        · split at h
          · split at h
            · split at h
              · rename_i f _ _ _ _ _ _
                cases hf : callOk P f with
                | false => rw [hf] at h; cases h
                | true => rw [hf] at h; exact next hN h
              · cases h
            · cases h
          · cases h
        · cases h
theorem dropD_get : ∀ {l : List Oper} {p : PT (SV E)} {t : Nat} {x : SV E}, (∀ o ∈ l, dOk o.dst = true) → (dropD l p).get t = some x → p.get t = some x ∧ t ∉ dsts l
  | [], p, t, x, _, h => ⟨h, by simp [dsts]⟩
  | o :: r, p, t, x, hd, h => by
    unfold dropD at h
    obtain ⟨h1, h2⟩ := dropD_get (fun o ho => hd o (List.mem_cons_of_mem _ ho)) h
    unfold dsts
    split at h1
    · rename_i d hdd
      have hlt : d + 1 < 2 ^ 12 := by
        have := hd o List.mem_cons_self
        rw [hdd] at this
        have : d < 4000 := Nat.le_of_ble_eq_true this
        exact Nat.lt_trans (Nat.succ_lt_succ this) (by decide : 4000 + 1 < 2 ^ 12)
      rw [PT.get_put _ _ _ _ _ hlt] at h1
      by_cases htd : t = d
      · rw [if_pos htd] at h1; cases h1
      · rw [if_neg htd] at h1
        try rw [hdd]
        exact ⟨h1, fun h => by rcases List.mem_cons.1 h with h | h; exact htd h; exact h2 h⟩
    · rename_i hdd
      try rw [hdd]
      exact ⟨h1, h2⟩
theorem evP_dOk : ∀ {l : List Oper} {s s1 : St E}, evP (P := P) F Z N l s = some s1 → ∀ o ∈ l, dOk o.dst = true
  | [], _, _, _ => fun o h => by cases h
  | o :: r, s, s1, h => by
    unfold evP at h
    cases hdd : dOk o.dst && okD N o.dst with
    | false => simp only [hdd, cond_false] at h; cases h
    | true =>
      simp only [hdd, cond_true] at h
      rw [Bool.and_eq_true] at hdd
      have fin : ∀ {s2 : St E}, evP (P := P) F Z N r s2 = some s1 → ∀ x ∈ o :: r, dOk x.dst = true := fun h2 x hx => by
        rcases List.mem_cons.1 hx with rfl | hx
        · exact hdd.1
        · exact evP_dOk h2 x hx
      split at h
      · exact fin h
      · exact fin h
      · exact fin h
      · cases h
      · split at h
        · split at h
          · split at h
            · split at h
              · rename_i f _ _ _ _ _ _
                cases hf : callOk P f with
                | false => rw [hf] at h; cases h
                | true => rw [hf] at h; exact fin h
              · cases h
            · cases h
          · cases h
        · cases h
theorem Mn.bs_up (m : Mn E) (x : List Bool) : Up m { m with bs := m.bs ++ x } :=
  ⟨fun _ _ h => h, Nat.le_refl _, fun _ _ => rfl, by simp, fun i hi => by unfold Mn.b; simp only []; rw [List.getElem?_append_left hi], fun _ _ => rfl, fun _ _ => rfl, fun _ _ => rfl⟩
theorem asBo_ok {s : St E} {m : Mn E} {e : Env} {w : World} (r : Rel w0 G0 s m e w) {x : Operand} {b : Bool} (h : asBo s x = some b) : opv e x = some (.bool b) := by
  unfold asBo at h
  split at h
  · rename_i y hy
    obtain ⟨v, h1, h2⟩ := opd_ok r hy
    rw [← r.bs] at h
    rw [h1, asB_ok h h2]
  · cases h
theorem mrg_ok {s s' : St E} {m : Mn E} {e : Env} {w : World} (r : Rel w0 G0 s m e w) {id n : Nat} {l : List Oper} (hj : gslot ops j = some k) (hk : s.sl.get k = some (.bv id)) (h : mrg (P := P) F Z N s j q k id l = some (s', n))
    (hK : ∀ m' e' w', Up m m' → Rel w0 G0 s' m' e' w' → (∀ t, t ∉ dsts l → e' t = e t) → WL P ops Q N (l.drop (n + 1)) e' w') : WL P ops Q N l e w := by
  unfold mrg at h
  split at h
  · rename_i o rest hsp
    split at h
    · rename_i c a b hgd hop
      obtain ⟨d, op, ty, pos, af, gd⟩ := o
      have hgd : gd = none := hgd
      have hop : op = .pick (.tmp c) a b := hop
      subst hgd hop
      cases hc : Nat.beq c k && (dOk d && okD N d) && apart k (spanG j q l).1 with
      | false => simp only [hc, cond_false] at h; cases h
      | true =>
        simp only [hc, cond_true] at h
        simp only [Bool.and_eq_true] at hc
        obtain ⟨⟨c1, hd, hN⟩, c2⟩ := hc
        obtain rfl := Nat.eq_of_beq_eq_true c1
        split at h
        · rename_i s1 tq h1 h2
          split at h
          · rename_i B1 B0 h3 h4
            simp only [Option.some.injEq, Prod.mk.injEq] at h
            obtain ⟨rfl, rfl⟩ := h
            obtain ⟨g1, g2⟩ := spanG_ok (j := j) (q := q) l
            rw [hsp] at g1
            obtain ⟨v, hv1, hv2⟩ := r.sl _ _ hk
            obtain ⟨_, hv2⟩ := leaf_L rfl hv2
            have hm : m.b id = tq := by unfold Mn.b; rw [r.bs, h2]; rfl
            rw [hm] at hv2
            subst hv2
            obtain ⟨t1, t2, t3, t4, x, t5⟩ := evP_st h1
            have hdo := evP_dOk h1
            generalize hp : (spanG j q l).1 = p at *
            have hl : l.drop (p.length + 1) = rest := by rw [g1, ← List.drop_drop, List.drop_left]; rfl
            rw [hl] at hK
            have hdl : ∀ t, t ∈ dsts p ∨ d = some t → t ∈ dsts l := fun t h => by
              rw [g1]
              rcases h with h | h
              · exact dsts_cat h
              · exact dsts_cat2 (dsts_hd h)
            -- the state behind them
            have fin : ∀ (m' : Mn E) (e' : Env) (w' : World), Up m m' → RelH w0 G0 { s with bs := s1.bs } m' w' → (∀ t, t ∉ dsts p → e' t = e t) → WL P ops Q N rest (e'.putO d (.bool (cond q (cond tq B1 B0) (cond tq B0 B1)))) w' := fun m' e' w' u rh he => by
              have r2 : Rel w0 G0 ({ s with bs := s1.bs, sl := dropD p s.sl } : St E) m' e' w' := ⟨⟨rh.bx, rh.n, rh.bs⟩, fun t y ht => by
                obtain ⟨q1, q2⟩ := dropD_get hdo ht
                obtain ⟨v, v1, v2⟩ := r.sl t y q1
                exact ⟨v, (he t q2).trans v1, v2.up u⟩⟩
              exact hK _ _ _ (u.trans (m'.cmp_up _)) (r2.cmp hd) fun t ht => (putO_other fun h => ht (hdl t (.inr h))).trans (he t fun h => ht (hdl t (.inl h)))
            rw [g1]
            by_cases hq : tq = q
            · subst hq
              refine evP_ok hj h1 r g2 c2 hv1 fun m' e' w' u r' he => ?_
              have hB := asBo_ok r' h3
              have hkk : opv e' (.tmp c) = some (.bool tq) := (he c fun h => by
                have : ∀ (p : List Oper), apart c p = true → c ∉ dsts p := fun p => by
                  induction p with
                  | nil => simp [dsts]
                  | cons o r ih =>
                    intro ha
                    unfold apart at ha
                    rw [List.all_cons, Bool.and_eq_true] at ha
                    unfold dsts
                    split
                    · rename_i d' hd'
                      rw [hd'] at ha
                      intro h
                      rcases List.mem_cons.1 h with rfl | h
                      · simp at ha
                      · exact ih ha.2 h
                    · exact ih ha.2
                exact this _ c2 h).trans hv1
              have rh : RelH w0 G0 { s with bs := s1.bs } m' w' := ⟨by
                obtain ⟨bl, L, hC, hB, hH⟩ := r'.bx
                exact ⟨bl, L, hC, hB, by rw [t1] at hH; exact hH⟩, by rw [r'.n, t2], r'.bs⟩
              have hf := fin m' e' w' u rh he
              cases tq with
              | true => exact wlVal (opPickT hkk hB) hN hf
              | false => exact wlVal (opPickF hkk hB) hN hf
            · have hq' : (tq == q) = false := by cases tq <;> cases q <;> first | rfl | exact absurd rfl hq
              refine offP (Q := Q) (w := w) hj hq' h1 g2 c2 hv1 fun e' he => ?_
              have r2 : Rel w0 G0 ({ s with sl := dropD p s.sl } : St E) m e' w := ⟨⟨r.bx, r.n, r.bs⟩, fun t y ht => by
                obtain ⟨q1, q2⟩ := dropD_get hdo ht
                obtain ⟨v, v1, v2⟩ := r.sl t y q1
                exact ⟨v, (he t q2).trans v1, v2⟩⟩
              have hB := asBo_ok r2 h4
              have hkk : opv e' (.tmp c) = some (.bool tq) := (he c fun h => by
                have : ∀ (p : List Oper), apart c p = true → c ∉ dsts p := fun p => by
                  induction p with
                  | nil => simp [dsts]
                  | cons o r ih =>
                    intro ha
                    unfold apart at ha
                    rw [List.all_cons, Bool.and_eq_true] at ha
                    unfold dsts
                    split
                    · rename_i d' hd'
                      rw [hd'] at ha
                      intro h
                      rcases List.mem_cons.1 h with rfl | h
                      · simp at ha
                      · exact ih ha.2 h
                    · exact ih ha.2
                exact this _ c2 h).trans hv1
              have u := m.bs_up x
              have rh : RelH w0 G0 { s with bs := s1.bs } { m with bs := m.bs ++ x } w := ⟨by
                obtain ⟨bl, L, hC, hB, hH⟩ := r.bx
                exact ⟨bl, L, hC, hB, hH.up u⟩, r.n, by show m.bs ++ x = s1.bs; rw [t5, r.bs]⟩
              have hf := fin _ e' w u rh he
              cases tq <;> cases q
              · exact absurd rfl hq
              · exact wlVal (opPickF hkk hB) hN hf
              · exact wlVal (opPickT hkk hB) hN hf
              · exact absurd rfl hq
          · cases h
        · cases h
    · cases h
  · cases h
theorem vcLk_drop {call : CallH E} {N : Nat} {ops : Array Oper} {K : St E → Prop} : ∀ (n : Nat) (l : List Oper) (s : St E), vcLk (P := P) F Z call N ops n l s K → vcLk (P := P) F Z call N ops 0 (l.drop n) s K
  | 0, l, s, h => h
  | n + 1, [], s, h => by cases n <;> exact h
  | n + 1, o :: r, s, h => by unfold vcLk at h; exact vcLk_drop n r s h
end
theorem dsts_sub {l : List Oper} {t : Nat} : ∀ (n : Nat), t ∈ dsts (l.drop n) → t ∈ dsts l := fun n h => by
  have := dsts_cat2 (a := l.take n) h
  rwa [List.take_append_drop] at this
theorem vcL_ok {call : CallH E} (hcall : CallOk P w0 G0 call) : ∀ (l : List Oper) {s : St E} {m : Mn E} {e : Env} {w : World} {K : St E → Prop}, Rel w0 G0 s m e w → vcL F Z call N ops l s K →
    (∀ s' m' e' w', Up m m' → Rel w0 G0 s' m' e' w' → (∀ t, t ∉ dsts l → e' t = e t) → K s' → WL P ops Q N [] e' w') → WL P ops Q N l e w
  | [], s, m, e, w, K, r, h, hk => hk s m e w (Up.refl m) r (fun _ _ => rfl) (by unfold vcL vcLk at h; exact h)
  | ⟨d, op, ty, pos, af, gd⟩ :: l, s, m, e, w, K, r, h, hk => by
    unfold vcL vcLk at h
    cases hdd : dOk d && okD N d with
    | false => simp only [hdd, cond_false] at h
    | true =>
      simp only [hdd, cond_true] at h
      rw [Bool.and_eq_true] at hdd
      obtain ⟨hd, hN⟩ := hdd
      have next : ∀ s' m' v w', Up m m' → Rel w0 G0 s' m' (e.putO d v) w' → vcL F Z call N ops l s' K → WL P ops Q N l (e.putO d v) w' := fun s' m' v w' u r' h' => vcL_ok hcall l r' h' fun s2 m2 e2 w2 u2 r2 he => hk s2 m2 e2 w2 (u.trans u2) r2 fun t ht => (he t fun h => ht (dsts_tl h)).trans (putO_other fun h => ht (dsts_hd h))
      cases gd with
      | none => exact vcOp1_ok hcall r h hd hN next
      | some g =>
        obtain ⟨j, q⟩ := g
        simp only at h
        split at h
        · rename_i k hj
          split at h
          · rename_i hs
            obtain ⟨v, h1, h2⟩ := r.sl _ _ hs
            have h2 : v = _ := h2
            subst h2
            exact wlOffU hj h1 hN (next _ _ _ _ (Up.refl m) (r.put hd fun y hy => by simp only [Option.some.injEq] at hy; subst hy; rfl) h)
          · rename_i x _ hs
            split at h
            · rename_i s2 n hmr
              unfold mrgV at hmr
              cases hmg : Z.mg with
              | false => rw [hmg] at hmr; cases hmr
              | true =>
                rw [hmg, cond_true] at hmr
                split at hmr
                · rename_i id _
                  cases hkn : s.kn.any (Nat.beq id) with
                  | true => rw [hkn] at hmr; cases hmr
                  | false =>
                    rw [hkn, cond_false] at hmr
                    refine mrg_ok (l := ⟨d, op, ty, pos, af, some (j, q)⟩ :: l) r hj hs hmr fun m' e' w' u r' he => ?_
                    have h' := vcLk_drop n l s2 h
                    exact vcL_ok hcall (l.drop n) r' h' fun s3 m3 e3 w3 u3 r3 he3 => hk s3 m3 e3 w3 (u.trans u3) r3 fun t ht => (he3 t fun hh => ht (dsts_tl (dsts_sub n hh))).trans (he t ht)
                · cases hmr
            obtain ⟨v, h1, h2⟩ := r.sl _ _ hs
            obtain ⟨p, s', hp, r', h'⟩ := ask_ok r h2 h
            subst hp
            cases p <;> cases q
            · exact wlOn hj h1 (vcOp1_ok hcall r' h' hd hN next)
            · exact wlOff hj h1 rfl hN (next _ _ _ _ (Up.refl m) (r'.put hd fun y hy => by simp only [Option.some.injEq] at hy; subst hy; rfl) h')
            · exact wlOff hj h1 rfl hN (next _ _ _ _ (Up.refl m) (r'.put hd fun y hy => by simp only [Option.some.injEq] at hy; subst hy; rfl) h')
            · exact wlOn hj h1 (vcOp1_ok hcall r' h' hd hN next)
          · exact h.elim
        · exact h.elim
termination_by l => l.length
decreasing_by all_goals (simp only [List.length_cons, List.length_drop]; omega)
end
end Go.Vz
