/- Walks by reckoning: what is to be shown is enough: arrays of numbers, functions that the model stands in for. No condition. -/
import Derived.Test.YtpbcabanpppfoaaGreatVzVc
import Derived.Test.YtpbcabanpppfoaaGreatGxObj
set_option linter.all false
namespace Go.Vz
open Go Go.Gx
variable {E : DE} {P : Program} {F : DF E} {Z : ZF P E} {w0 : World} {G0 : Gh}
section
variable {m : Mn E} {N : Nat} {e : Env} {w : World} {s : St E} {ops : Array Oper} {Q : Exit → Act → World → Prop} {rest : List Oper} {d : Option Nat} {ty : TypeId} {pos : String} {af : Array Edge} {K : St E → Prop}
theorem vel_at {id o n i k : Nat} {x : HB E} {v : Value} {T b : Nat} {cs : List Value} (hv : RV m (.vel id o n i : SV E) v) (e3 : m.ν id = .pointer (some ⟨b, 0, none⟩)) : v = .pointer (some ⟨b, o + i, none⟩) ∧ i < n := by
  obtain ⟨_, h9, b', o', h6, h7⟩ := leaf_L rfl hv
  rw [e3] at h6
  simp only [Value.pointer.injEq, Option.some.injEq, Addr.mk.injEq, and_true] at h6
  obtain ⟨rfl, rfl⟩ := h6
  rw [Nat.zero_add] at h7
  exact ⟨h7, h9⟩
theorem vcVst_ok (r : Rel w0 G0 s m e w) {t id o n i : Nat} {a x : Operand} {y : SV E} (ha : opd s a = some (.vel id o n i)) (hy : opd s x = some y) (h : vcVst P s d t id o n i y K) (hd : dOk d = true) (hN : okD N d = true)
    (hk : ∀ s' m' v w', Up m m' → Rel w0 G0 s' m' (e.putO d v) w' → K s' → WL P ops Q N rest (e.putO d v) w') : WL P ops Q N (⟨d, .store t a x, ty, pos, af, none⟩ :: rest) e w := by
  unfold vcVst at h
  split at h
  · rename_i k T c sz hg hsz
    obtain ⟨va, h1, h2⟩ := opd_ok r ha
    obtain ⟨v, h3, h4⟩ := opd_ok r hy
    obtain ⟨_, _, _, ⟨b, cs, e1, e2, e3, e4⟩, _⟩ := r.wd hg
    obtain ⟨p, q, A, B, hC, hB, hT⟩ := r.toRelH.turn hg
    obtain ⟨rfl, hi⟩ := vel_at (k := k) (x := .oth) (T := T) (cs := cs) h2 e3
    rw [e1] at hB
    rw [e2] at hC hB
    have fin : ∀ {c' : List (SV E)} {z : Value}, sz = 1 → v = z → z.cells = #[z] → z.oneCell' = true → RC m c' (cs.take (o + i) ++ [z] ++ cs.drop (o + i + 1)) → o + i + 1 ≤ cs.length → K ((s.turn id (.box T c')).put d none) →
        WL P ops Q N (⟨d, .store t a x, ty, pos, af, none⟩ :: rest) e w := by
      intro c' z hz hv hzc hz1 f1 f3 hK
      subst hv hz
      refine wlStore p.length hC hB (show (p ++ ([(b, T, cs)] ++ q))[p.length]? = some (b, T, cs) by simp) h1 h3 hsz hzc rfl (by simp [hz1]) f3 rfl hN fun w' hC' hB' => ?_
      obtain ⟨u, r'⟩ := hT m.G w' (.box T c') [(b, T, cs.take (o + i) ++ [v] ++ cs.drop (o + i + 1))] [] (GLe.refl _) hC' (by simpa using hB') ⟨b, _, rfl, rfl, e3, f1⟩
      exact hk _ _ _ _ u ((r.mem u r' rfl).put hd fun y hy => by cases hy) hK
    split at h
    · rename_i A' kk q' l rr ht hdr
      split at h
      · rename_i k' z hz
        cases hc : Nat.beq sz 1 && (Nat.beq q' n && decide (k' = kk)) with
        | false => rw [hc] at h; exact h.elim
        | true =>
          rw [hc] at h
          simp only [Bool.and_eq_true, decide_eq_true_eq] at hc
          obtain ⟨c1, c2, rfl⟩ := hc
          have c1 := Nat.eq_of_beq_eq_true c1
          have c2 := Nat.eq_of_beq_eq_true c2
          subst c2
          have := asI_ok hz h4
          obtain ⟨f1, f2⟩ := e4.vput (X := [z]) (lo := i) ht hdr (by simp; omega)
          have hlen : i < l.length := by
            obtain ⟨_, _, _, ⟨_, hq⟩, _⟩ := e4.drop hdr
            omega
          rw [lput_set hlen] at f1
          exact fin c1 this rfl rfl (by simpa using f1) (by simpa using f2) h
      · exact h.elim
    · rename_i A' g rr ht hdr
      split at h
      · rename_i z
        cases hc : Nat.beq sz 1 && Nat.beq n 32 with
        | false => rw [hc] at h; exact h.elim
        | true =>
          rw [hc] at h
          rw [Bool.and_eq_true] at hc
          have c1 := Nat.eq_of_beq_eq_true hc.1
          have c2 := Nat.eq_of_beq_eq_true hc.2
          subst c2
          obtain ⟨f1, f2⟩ := e4.dput (x := z) ht hdr hi
          have h4 : v = _ := leaf_L rfl h4
          exact fin c1 h4 rfl rfl f1 f2 h
      · exact h.elim
    · exact h.elim
  · exact h.elim
theorem vsl_at {id o n lo len : Nat} {v : Value} {b : Nat} (hv : RV m (.vsl id o n lo len : SV E) v) (e3 : m.ν id = .pointer (some ⟨b, 0, none⟩)) : v = .slice (some ⟨b, o + lo, none⟩) len (n - lo) ∧ lo + len ≤ n := by
  obtain ⟨_, h8, h9, b', o', h6, h7⟩ := leaf_L rfl hv
  rw [e3] at h6
  simp only [Value.pointer.injEq, Option.some.injEq, Addr.mk.injEq, and_true] at h6
  obtain ⟨rfl, rfl⟩ := h6
  rw [Nat.zero_add] at h7
  exact ⟨h7, h8⟩
theorem sliceElT_of {t el : Nat} (h : sliceElT P t = some el) : P.underlying t = some (.slice el) := by
  unfold sliceElT at h
  split at h
  · rename_i hu; simp only [Option.some.injEq] at h; subst h; exact hu
  · cases h
theorem vcVcl_ok (r : Rel w0 G0 s m e w) {t id o n lo len : Nat} {x : Operand} (hx : opd s x = some (.vsl id o n lo len)) (h : vcVcl P s d t id o n lo len K) (hd : dOk d = true) (hN : okD N d = true)
    (hk : ∀ s' m' v w', Up m m' → Rel w0 G0 s' m' (e.putO d v) w' → K s' → WL P ops Q N rest (e.putO d v) w') : WL P ops Q N (⟨d, .call ⟨.builtin .clear, #[x], #[t]⟩, ty, pos, af, none⟩ :: rest) e w := by
  unfold vcVcl at h
  split at h
  · rename_i k T c el hg hel
    split at h
    · rename_i A' kk q' l rr k' z ht hdr hz
      cases hc : Nat.beq q' n && decide (k' = kk) with
      | false => rw [hc] at h; exact h.elim
      | true =>
        rw [hc] at h
        simp only [Bool.and_eq_true, decide_eq_true_eq] at hc
        obtain ⟨c2, rfl⟩ := hc
        have c2 := Nat.eq_of_beq_eq_true c2
        subst c2
        obtain ⟨v, h1, h2⟩ := opd_ok r hx
        obtain ⟨_, _, _, ⟨b, cs, e1, e2, e3, e4⟩, _⟩ := r.wd hg
        obtain ⟨p, q, A, B, hC, hB, hT⟩ := r.toRelH.turn hg
        obtain ⟨rfl, hi⟩ := vsl_at h2 e3
        rw [e1] at hB
        rw [e2] at hC hB
        obtain ⟨f1, f2⟩ := e4.vput (X := List.replicate len z) (lo := lo) ht hdr (by simpa using hi)
        rw [List.map_replicate, List.length_replicate] at f1
        rw [List.length_replicate] at f2
        refine wlClearB (z := .int k' z) p.length (sliceElT_of hel) hz rfl rfl hC hB (show (p ++ ([(b, T, cs)] ++ q))[p.length]? = some (b, T, cs) by simp) h1 f2 rfl hN fun w' hC' hB' => ?_
        obtain ⟨u, r'⟩ := hT m.G w' (.box T _) [(b, T, _)] [] (GLe.refl _) hC' (by simpa using hB') ⟨b, _, rfl, rfl, e3, f1⟩
        exact hk _ _ _ _ u ((r.mem u r' rfl).put hd fun y hy => by simp only [Option.some.injEq] at hy; subst hy; exact ⟨[], rfl, rfl⟩) h
    · exact h.elim
  · exact h.elim
theorem take_range {G : Gh} {A : Addr} {cap : Nat} {ys : List UInt8} {M : Nat} (hS : Sl G (.slice (some A) ys.length cap) ys) (hh : Holds G w) (hM : M ≤ ys.length) (h0 : 0 < M) : A.spot = none ∧ w.rangeAt A.block A.off ((ys.take M).map fun x => Value.int .u8 (x.toNat : Int)) := by
  obtain ⟨A', cap', hv, h2, h3, h4⟩ := hS
  injection hv with e1 _ _
  subst e1
  have h5 : ∀ j x, ys[j]? = some x → A = ⟨A.block, A.off, none⟩ ∧ w.cell? ⟨A.block, A.off + j, none⟩ = some (.int .u8 (x.toNat : Int)) := fun j x hj => by
    obtain ⟨b, o, row, hA, hr, hx⟩ := h4 j x hj
    injection hA with hA
    subst hA
    have hx : row = [.int .u8 (x.toNat : Int)] := hx
    subst hx
    have := RowG.cell hh hr (show [Value.int .u8 (x.toNat : Int)][0]? = some _ from rfl)
    exact ⟨rfl, by simpa [Rp.sz] using this⟩
  refine ⟨?_, fun j v hj => ?_⟩
  · have := (h5 0 ys[0] (List.getElem?_eq_getElem (by omega))).1
    rw [this]
  · rw [List.getElem?_map, List.getElem?_take] at hj
    split at hj
    · obtain ⟨x, hx, rfl⟩ := Option.map_eq_some_iff.1 hj
      exact (h5 j x hx).2
    · cases hj
theorem vcVcp_ok (r : Rel w0 G0 s m e w) {t t2 id o n lo len : Nat} {x y : Operand} {u : Ty} {xs : List (u.den E)} (hx : opd s x = some (.vsl id o n lo len)) (hy : opd s y = some (.sl u xs)) (h : vcVcp P s d t id o n lo len u xs K) (hd : dOk d = true) (hN : okD N d = true)
    (hk : ∀ s' m' v w', Up m m' → Rel w0 G0 s' m' (e.putO d v) w' → K s' → WL P ops Q N rest (e.putO d v) w') : WL P ops Q N (⟨d, .call ⟨.builtin .copy, #[x, y], #[t, t2]⟩, ty, pos, af, none⟩ :: rest) e w := by
  unfold vcVcp at h
  split at h
  · rename_i k T c el ys hg hel hys
    split at h
    · rename_i A' q' l rr ht hdr
      cases hc : Nat.beq q' n && sliceOk P t el 1 with
      | false => rw [hc] at h; exact h.elim
      | true =>
        rw [hc] at h
        rw [Bool.and_eq_true] at hc
        obtain ⟨c2, hsl⟩ := hc
        have c2 := Nat.eq_of_beq_eq_true c2
        subst c2
        obtain ⟨v, h1, h2⟩ := opd_ok r hx
        obtain ⟨v2, h3, h4⟩ := opd_ok r hy
        have hS : @Sl _ (Ty.rp E .u8) m.G v2 ys := Sl.to hys (leaf_L rfl h4)
        have hS : @Sl UInt8 _ m.G v2 ys := hS
        obtain ⟨_, _, _, ⟨b, cs, e1, e2, e3, e4⟩, _⟩ := r.wd hg
        obtain ⟨p, q, A, B, hC, hB, hT⟩ := r.toRelH.turn hg
        obtain ⟨rfl, hi⟩ := vsl_at h2 e3
        rw [e1] at hB
        rw [e2] at hC hB
        have hX : ((ys.take len).map fun x => (x.toNat : Int)).length = Nat.min ys.length len := by
          rw [List.length_map, List.length_take]; exact Nat.min_comm _ _
        have hXm : (((ys.take len).map fun x => (x.toNat : Int)).map (Value.int .u8)) = (ys.take (Nat.min ys.length len)).map fun x => Value.int .u8 (x.toNat : Int) := by
          rw [List.map_map]
          have : ys.take len = ys.take (Nat.min ys.length len) := by
            have h1 : Nat.min ys.length len = min len ys.length := Nat.min_comm _ _
            rw [h1, List.take_eq_take_iff]; omega
          rw [← this]; rfl
        have hmin : Nat.min ys.length len ≤ len := Nat.min_le_right _ _
        have hmin2 : Nat.min ys.length len ≤ ys.length := Nat.min_le_left _ _
        obtain ⟨f1, f2⟩ := e4.vput (X := (ys.take len).map fun x => (x.toNat : Int)) (lo := lo) ht hdr (by rw [hX]; omega)
        rw [hX, hXm] at f1
        rw [hX] at f2
        have hrow : ((ys.take (Nat.min ys.length len)).map fun x => Value.int .u8 (x.toNat : Int)).length = Nat.min ys.length len := by
          rw [List.length_map, List.length_take]; omega
        obtain ⟨A2, cap2, rfl⟩ := hS.form
        have fin : ∀ w', Cx w0 G0 m.G w' ⟨[], A ++ ([] ++ B)⟩ → Bxs m.G w' w0.heap.size (p ++ ([(b, T, cs.take (o + lo) ++ ((ys.take (Nat.min ys.length len)).map fun x => Value.int .u8 (x.toNat : Int)) ++ cs.drop (o + lo + Nat.min ys.length len))] ++ q)) ⟨[], A ++ ([] ++ B)⟩ →
            WL P ops Q N rest (e.putO d (goInt (Nat.min ys.length len))) w' := by
          intro w' hC' hB'
          obtain ⟨u, r'⟩ := hT m.G w' (.box T _) [(b, T, _)] [] (GLe.refl _) hC' hB' ⟨b, _, rfl, rfl, e3, f1⟩
          exact hk _ _ _ _ u ((r.mem u r' rfl).put hd fun y hy => by simp only [Option.some.injEq] at hy; subst hy; rfl) h
        by_cases h0 : Nat.min ys.length len = 0
        ·
          refine wlStep (R := fun v w' => v = goInt (Nat.min ys.length len) ∧ w' = w) hN (fun a ha => ?_) ?_
          · unfold OpR
            obtain ⟨hu, hz⟩ := sliceOk_of' hsl
            have hr := run_copy_none (P := P) w t t2 ty el (some ⟨b, o + lo, none⟩) A2 len (q' - lo) ys.length cap2 hu hz h0
            have hr' : (execOp a.eval ⟨d, .call ⟨.builtin .copy, #[x, y], #[t, t2]⟩, ty, pos, af, none⟩).run P w = .ok (.value (goInt (Nat.min ys.length len))) w := by
              simp only [execOp, resolve, Sem.run_bind, Sem.run_pure, Result.andThen_ok, invoke, builtin, List.map_toArray, List.map_cons, List.map_nil, ha.eval h1, ha.eval h3, hr, h0]
              rfl
            rw [hr']; exact ⟨rfl, rfl⟩
          · rintro v w' ⟨rfl, rfl⟩
            refine fin w' hC ?_
            rw [h0]
            simpa using hB
        · cases A2 with
          | none =>
            exfalso
            obtain ⟨A', cap', hv, _, _, h4'⟩ := hS
            injection hv with e5 _ _
            subst e5
            obtain ⟨_, _, _, hA, _⟩ := h4' 0 ys[0] (List.getElem?_eq_getElem (by omega))
            cases hA
          | some A2 =>
            obtain ⟨g1, g2⟩ := take_range (M := Nat.min ys.length len) hS r.holds hmin2 (by omega)
            obtain ⟨b2, o2, sp⟩ := A2
            have g1 : sp = none := g1
            subst g1
            refine wlCopyB (el := el) (sz := 1) p.length hC hB (show (p ++ ([(b, T, cs)] ++ q))[p.length]? = some (b, T, cs) by simp) h1 h3 hsl g2 (by rw [hrow, Nat.mul_one]) (by rw [hrow]; exact f2) (by intro v hv; obtain ⟨_, _, rfl⟩ := List.mem_map.1 hv; rfl) (by rw [hrow]) hN fun w' hC' hB' => ?_
            exact fin w' hC' (by simpa using hB')
    · exact h.elim
  · exact h.elim
theorem opCallX {g : Operand} {f : Nat} {xs : List Operand} {vs : List Value} {ats : Array TypeId} {v : Value} {w' : World} {gd : Option (Nat × Bool)} {R : Value → World → Prop} (hx : opv e g = some (.func (.func f) #[] #[])) (hvs : opvs e xs = some vs)
    (hr : (callFunc f vs.toArray).run P w = .ok (.value v) w') (hR : R v w') : OpRun P N e w ⟨d, .call ⟨.value g, xs.toArray, ats⟩, ty, pos, af, gd⟩ R := by
  intro a ha
  unfold OpR
  have hev := ha.evals hvs
  have h1 : (execOp a.eval ⟨d, .call ⟨.value g, xs.toArray, ats⟩, ty, pos, af, gd⟩).run P w = .ok (.value v) w' := by
    simp only [execOp, resolve, ha.eval hx, hev, Deferred.ofValue, Sem.run_bind, Sem.run_pure, Result.andThen_ok, invoke]
    simp [hr]
  rw [h1]
  exact hR
theorem setCell_row {g o : Nat} {cs : List Value} {t : TypeId} {v : Value} (hg : w.heap[g]? = some (.cells cs.toArray t (0, 0))) (h : o + 1 ≤ cs.length) : w.setCell ⟨g, o, none⟩ v = w.setRow g (cs.take o ++ [v] ++ cs.drop (o + 1)).toArray := by
  have he : (cs.take o ++ [v] ++ cs.drop (o + 1)).toArray = cs.toArray.setIfInBounds o v := by
    apply Array.ext'
    simp only [Array.toList_setIfInBounds]
    rw [List.set_eq_take_append_cons_drop, if_pos (by omega)]
    simp
  rw [he]
  have hlt : g < w.heap.size := (Array.getElem?_eq_some_iff.1 hg).1
  have hv : w.heap[g] = .cells cs.toArray t (0, 0) := (Array.getElem?_eq_some_iff.1 hg).2
  unfold World.setCell World.setRow
  cases w with
  | mk heap tape drawn os output =>
    congr 1
    apply Array.ext
    · simp
    · intro k h1 h2
      simp only [Array.getElem_modify]
      split
      · rename_i hk; subst hk; simp at hv; simp [hv]
      · rfl
theorem cell_of_box {g o : Nat} {cs : List Value} {t : TypeId} {v : Value} (hg : w.heap[g]? = some (.cells cs.toArray t (0, 0))) (h : cs[o]? = some v) : w.cell? ⟨g, o, none⟩ = some v ∧ w.frozen? ⟨g, o, none⟩ = false := by
  constructor
  · rw [World.cell?, hg]; simpa using h
  · simp [World.frozen?, hg]
theorem vcExt_ok (r : Rel w0 G0 s m e w) {g : Operand} {f : Nat} {args : Array Operand} {l : List (SV E)} {ats : Array TypeId} (hg : opv e g = some (.func (.func f) #[] #[])) {vs : List Value} (hvs : opvs e args.toList = some vs) (hll : vs.length = l.length) (hv : ∀ (i : Nat) (x : SV E), l[i]? = some x → ∃ v, vs[i]? = some v ∧ RV m x v)
    (h : vcExt Z s d f l K) (hd : dOk d = true) (hN : okD N d = true)
    (hk : ∀ s' m' v w', Up m m' → Rel w0 G0 s' m' (e.putO d v) w' → K s' → WL P ops Q N rest (e.putO d v) w') : WL P ops Q N (⟨d, .call ⟨.value g, args, ats⟩, ty, pos, af, none⟩ :: rest) e w := by
  unfold vcExt at h
  split at h
  · rename_i x y c hf
    cases hc : decide (0 ≤ x) && (decide (0 ≤ y) && (decide (0 ≤ c) && decide (c ≤ 1))) with
    | false => rw [hc, brM_f] at h; exact h.elim
    | true =>
      rw [hc, brM_t] at h
      simp only [Bool.and_eq_true, decide_eq_true_eq] at hc
      obtain ⟨c1, c2, c3, c4⟩ := hc
      obtain ⟨v1, a1, b1⟩ := hv 0 _ rfl
      obtain ⟨v2, a2, b2⟩ := hv 1 _ rfl
      obtain ⟨v3, a3, b3⟩ := hv 2 _ rfl
      have b1 : v1 = _ := leaf_L rfl b1
      have b2 : v2 = _ := leaf_L rfl b2
      have b3 : v3 = _ := leaf_L rfl b3
      subst b1 b2 b3
      have hvl : vs = [.int .u64 x, .int .u64 y, .int .u64 c] := by
        match vs, hll with
        | [p, q, z], _ => simp at a1 a2 a3; rw [a1, a2, a3]
      subst hvl
      have hX := Z.exok _ _ hf x y c w c1 c2 c3 c4
      have hop := opCallX (P := P) (N := N) (d := d) (ty := ty) (pos := pos) (af := af) (ats := ats) (gd := none) (R := fun v w' => v = .tuple #[.int .u64 ((x + y + c) % 18446744073709551616), .int .u64 ((x + y + c) / 18446744073709551616)] ∧ w' = w) hg hvs hX ⟨rfl, rfl⟩
      rw [show args.toList.toArray = args from rfl] at hop
      refine wlStep hN hop ?_
      rintro v w' ⟨rfl, rfl⟩
      exact hk _ _ _ _ (Up.refl m) (r.put hd fun y hy => by simp only [Option.some.injEq] at hy; subst hy; exact ⟨_, rfl, _, _, rfl, rfl, _, _, rfl, rfl, rfl⟩) h
  · rename_i k id off k' y hf
    split at h
    · rename_i ver T c hgt
      split at h
      · rename_i A' q x rr ht hdr
        cases hc : decide (k' = q) && decide (k = q) with
        | false => rw [hc] at h; exact h.elim
        | true =>
          rw [hc] at h
          simp only [Bool.and_eq_true, decide_eq_true_eq] at hc
          obtain ⟨rfl, rfl⟩ := hc
          obtain ⟨v1, a1, b1⟩ := hv 0 _ rfl
          obtain ⟨v2, a2, b2⟩ := hv 1 _ rfl
          obtain ⟨_, b', o', h6, b1⟩ := leaf_L rfl b1
          have b2 : v2 = _ := leaf_L rfl b2
          subst b1 b2
          have hvl : vs = [.pointer (some ⟨b', o' + off, none⟩), .int k y] := by
            match vs, hll with
            | [p, q], _ => simp at a1 a2; rw [a1, a2]
          subst hvl
          obtain ⟨_, _, _, ⟨b, cs, e1, e2, e3, e4⟩, _⟩ := r.wd hgt
          obtain ⟨p, q, A, B, hC, hB, hT⟩ := r.toRelH.turn hgt
          rw [e3] at h6
          simp only [Value.pointer.injEq, Option.some.injEq, Addr.mk.injEq, and_true] at h6
          obtain ⟨rfl, rfl⟩ := h6
          rw [e1] at hB
          rw [e2] at hC hB
          have hA := e4.take ht
          obtain ⟨d1, d2, f0, f1, f2⟩ := e4.drop hdr
          obtain ⟨u, rfl, f9⟩ := f1.leaf_ rfl
          have f9 : u = _ := f9
          subst f9
          have hlen : off + 1 ≤ cs.length := by
            have := congrArg List.length f0
            simp at this; omega
          have hcell : cs[off]? = some (.int k x) := by
            have := congrArg (·[0]?) f0
            simpa using this
          have hi : (p ++ ([(b, T, cs)] ++ q))[p.length]? = some (b, T, cs) := by simp
          have hgb := hB.get hi
          obtain ⟨k1, k2⟩ := cell_of_box hgb.1 hcell
          have hX := Z.exok _ _ hf ⟨b, off, none⟩ x y w k1 k2
          rw [setCell_row hgb.1 hlen] at hX
          have hop := opCallX (P := P) (N := N) (d := d) (ty := ty) (pos := pos) (af := af) (ats := ats) (gd := none) (R := fun v w' => v = .int k (k.wrap (x + y)) ∧ w' = w.setRow b (cs.take off ++ [Value.int k (k.wrap (x + y))] ++ cs.drop (off + 1)).toArray) hg hvs (by simpa using hX) ⟨rfl, rfl⟩
          rw [show args.toList.toArray = args from rfl] at hop
          refine wlStep hN hop ?_
          rintro v w' ⟨rfl, hw⟩
          have hC' : Cx w0 G0 m.G w' ⟨[], A ++ ([] ++ B)⟩ := by rw [hw]; exact hC.setRow' hgb.2.1 hgb.2.2 (hB.off hi) _
          have hB' : Bxs m.G w' w0.heap.size ((p ++ ([(b, T, cs)] ++ q)).set p.length (b, T, cs.take off ++ [Value.int k (k.wrap (x + y))] ++ cs.drop (off + 1))) ⟨[], A ++ ([] ++ B)⟩ := by rw [hw]; exact hB.set hi _
          have hdrop : cs.drop (off + 1) = d2 := by
            rw [← List.drop_drop, f0]; rfl
          have f3 : RC m (A' ++ .i k (k.wrap (x + y)) :: rr) (cs.take off ++ [.int k (k.wrap (x + y))] ++ cs.drop (off + 1)) := by
            rw [hdrop, List.append_assoc]
            exact hA.append ⟨[_], d2, rfl, ⟨_, rfl, rfl⟩, f2⟩
          obtain ⟨u, r'⟩ := hT m.G w' (.box T _) [(b, T, _)] [] (GLe.refl _) hC' (by simpa using hB') ⟨b, _, rfl, rfl, e3, f3⟩
          exact hk _ _ _ _ u ((r.mem u r' rfl).put hd fun y hy => by simp only [Option.some.injEq] at hy; subst hy; rfl) h
      · exact h.elim
    · exact h.elim
  · rename_i t xs t' ys hf
    split at h
    · rename_i a b ha hb
      obtain ⟨v1, a1, b1⟩ := hv 0 _ rfl
      obtain ⟨v2, a2, b2⟩ := hv 1 _ rfl
      have b1 : @Sl UInt8 _ m.G v1 a := Sl.to ha (leaf_L rfl b1)
      have b2 : @Sl UInt8 _ m.G v2 b := Sl.to hb (leaf_L rfl b2)
      have hvl : vs = [v1, v2] := by
        match vs, hll with
        | [p, q], _ => simp at a1 a2; rw [a1, a2]
      subst hvl
      have hX := Z.exok _ _ hf m.G v1 v2 a b w r.holds b1 b2
      have hop := opCallX (P := P) (N := N) (d := d) (ty := ty) (pos := pos) (af := af) (ats := ats) (gd := none) (R := fun v w' => v = .int .i64 (cmpB a b) ∧ w' = w) hg hvs hX ⟨rfl, rfl⟩
      rw [show args.toList.toArray = args from rfl] at hop
      refine wlStep hN hop ?_
      rintro v w' ⟨rfl, rfl⟩
      exact hk _ _ _ _ (Up.refl m) (r.put hd fun y hy => by simp only [Option.some.injEq] at hy; subst hy; rfl) h
    · exact h.elim
  · exact h.elim
end
end Go.Vz
