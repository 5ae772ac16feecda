/- A part of the proof. No condition. -/
import Derived.Test.YtpbcabanpppfoaaGreatA4
set_option linter.all false
namespace Go.Vz
open Go Go.Gx
variable {E : DE} {P : Program} {F : DF E} {Z : ZF P E} {w0 : World} {G0 : Gh}
def a9q (P : Program) (w0 : World) (G0 : Gh) (call : j7 E) : Prop :=
 ∀ (f : Nat) (args : List (SV E)) (s : St E) (K : St E -> SV E -> Prop) (m : Mn E) (w : World) (vs : List Value), RelH w0 G0 s m w -> args.length = vs.length ->
  (∀ (i : Nat) (x : SV E), args[i]? = some x -> ∃ v, vs[i]? = some v /\ RV m x v) -> call f args s K ->
  Calls P f vs.toArray w fun e w' => ∃ v, e = .returned v /\ ∃ s' m' x, Up m m' /\ RelH w0 G0 s' m' w' /\ RV m' x v /\ K s' x
section
variable {m : Mn E} {N : Nat} {e : Env} {w : World} {s : St E}
def b5g (r : Rel w0 G0 s m e w) {x : SV E} {v : Value} (hv : RV m x v) {K1 K0 : St E -> Prop} (h : ask s x K1 K0) : ∃ q s', v = .bool q /\ Rel w0 G0 s' m e w /\ cond q (K1 s') (K0 s') := by
 unfold ask at h
 split at h
 ·rename_i q; exact ⟨q, s, hv, r, h⟩
 ·rename_i q; refine ⟨q, s, hv, r, ?_⟩; cases q
  ·rw [a8t] at h; exact h
  ·rw [a6l] at h; exact h
 ·rename_i id; split at h
  ·rename_i q hq; obtain ⟨_, hv⟩ := d6 rfl hv; have hm : m.b id = q := by unfold Mn.b; rw [r.bs, hq]; rfl
   rw [hm] at hv; cases hk : s.kn.any (Nat.beq id) with
   | true =>
    rw [hk] at h; exact ⟨q, s, hv, r, h⟩
   | false =>
    rw [hk] at h; refine ⟨q, s.setb id q, hv, r.setb hq, ?_⟩; simp only [B8] at h; cases q
    ·rw [a8t] at h; exact h
    ·rw [a6l] at h; exact h
  ·exact h.elim
 ·exact h.elim
variable {ops : Array Oper} {Q : Exit -> Act -> World -> Prop} {rest : List Oper} {ty : TypeId} {pos : String} {af : Array Edge}
def b0v {α : Type} [Rp α] {G : Gh} {L : List (Nat × Obj)} {x y : Operand} {t el bytes : Nat} {rt : TypeId} {o : Option Bx} {v v2 : Value} {xs ys : List α} {bl r : List Bx} {d : Option Nat} (he : a1i P t el (Rp.sz α) bytes = true) (hC : Cx w0 G0 G w ⟨[], L⟩) (hB : Bxs G w w0.heap.size (bl ++ (o.toList ++ r)) ⟨[], L⟩)
  (hx : opv e x = some v) (hy : opv e y = some v2) (hO : Ow G o el v xs) (hS : Sl G v2 ys) (hb : (xs.length + ys.length) * bytes <= 140737488355328) (hl : xs.length + ys.length <= 140737488355328) (hd : okD N d = true)
  (h : ∀ A cap o' w', Cx w0 G0 G w' ⟨[], L⟩ -> Bxs G w' w0.heap.size (bl ++ (o'.toList ++ r)) ⟨[], L⟩ -> Ow G o' el (.slice A (xs ++ ys).length cap) (xs ++ ys) -> WL P ops Q N rest (e.putO d (.slice A (xs ++ ys).length cap)) w') :
  WL P ops Q N (⟨d, .call ⟨.builtin .append, #[x, y], #[t, t]⟩, rt, pos, af, none⟩ :: rest) e w := by
 have hp : (bl ++ (o.toList ++ r)).Perm (o.toList ++ (bl ++ r)) := by
  rw [<- B6, <- B6]; exact List.perm_append_comm.append_right r
 obtain ⟨v', o', w', hr, k1, k2, k3, _, _⟩ := b1t (P := P) (ty := rt) he hC (B9 _) hC.size (hB.perm hp) hO hS (by simp only [maxLen]; omega) hb
 have hp' : (o'.toList ++ (bl ++ r)).Perm (bl ++ (o'.toList ++ r)) := by
  rw [<- B6, <- B6]; exact List.perm_append_comm.append_right r
 obtain ⟨A, cap, rfl⟩ := k3.form
 refine x5 (R := fun u w2 => u = .slice A (xs ++ ys).length cap /\ w2 = w') hd (fun a ha => ?_) ?_
 ·unfold OpR; have : (execOp a.eval ⟨d, .call ⟨.builtin .append, #[x, y], #[t, t]⟩, rt, pos, af, none⟩).run P w = .ok (.value (.slice A (xs ++ ys).length cap)) w' := by
   simp only [execOp, resolve, Sem.run_bind, Sem.run_pure, Result.andThen_ok, invoke, builtin, K8, C9, L0, ha.eval hx, ha.eval hy, hr]
  rw [this]; exact ⟨rfl, rfl⟩
 ·rintro u w2 ⟨rfl, rfl⟩; exact h A cap o' w2 k1 (k2.perm hp') k3
def f5f {G G' : Gh} {w w' : World} {M : Mu} (k : Cx w0 G0 G' w' M) (hC : Cx w0 G0 G w M) (hg : GLe G G') : Cx w0 G0 G w' M :=
 ⟨fun b o hb => k.holds b o (hg b o hb), k.os, k.tape, k.output, k.size, k.old', hC.gle, hC.fresh, fun x hx => ⟨(k.held x hx).1, (by
  cases hq : G x.1 with
  | none => rfl
  | some o => have := hg _ _ hq; rw [(k.held x hx).2.1] at this; cases this), (k.held x hx).2.2⟩, k.hnd⟩
def c2z {G : Gh} {L : List (Nat × Obj)} {x y : Operand} {t el bytes b off T : Nat} {cs : List Value} {dg : Dig} {rt : TypeId} {o : Option Bx} {v : Value} {xs : List UInt8} {bl r : List Bx} {d : Option Nat} (he : a1i P t el 1 bytes = true) (hC : Cx w0 G0 G w ⟨[], L⟩) (hB : Bxs G w w0.heap.size (bl ++ (o.toList ++ r)) ⟨[], L⟩)
  (hx : opv e x = some v) (hX : (b, T, cs) ∈ bl ++ r) (hcs : (cs.drop off).take 32 = dg.cells) (hy : opv e y = some (.slice (some ⟨b, off, none⟩) 32 32)) (hO : Ow G o el v xs) (hb : (xs.length + 32) * bytes <= 140737488355328) (hl : xs.length + 32 <= 140737488355328) (hd : okD N d = true)
  (h : ∀ A cap o' w', Cx w0 G0 G w' ⟨[], L⟩ -> Bxs G w' w0.heap.size (bl ++ (o'.toList ++ r)) ⟨[], L⟩ -> Ow G o' el (.slice A (xs ++ dg.l).length cap) (xs ++ dg.l) -> WL P ops Q N rest (e.putO d (.slice A (xs ++ dg.l).length cap)) w') :
  WL P ops Q N (⟨d, .call ⟨.builtin .append, #[x, y], #[t, t]⟩, rt, pos, af, none⟩ :: rest) e w := by
 obtain ⟨s1, s2, hs⟩ := Y6 hX
 have hp : ∀ o : List Bx, (bl ++ (o ++ r)).Perm ((b, T, cs) :: (o ++ (s1 ++ s2))) := fun o => by
  have p1 : (bl ++ (o ++ r)).Perm (o ++ (bl ++ r)) := by
   rw [<- B6, <- B6]; exact List.perm_append_comm.append_right r
  rw [hs] at p1; refine p1.trans ?_; have p2 : (o ++ (s1 ++ (b, T, cs) :: s2)).Perm (o ++ ((b, T, cs) :: (s1 ++ s2))) := List.perm_middle.append_left o; exact p2.trans V5
 have hB1 := hB.perm (hp o.toList)
 obtain ⟨g1, g2, g3⟩ := d3w hC (B9 _) hB1
 obtain ⟨x1, x2, x3⟩ := hB1.at_ (b, T, cs) E7
 have x4 := hB1.apart (b, T, cs) E7
 have hrow : a4k (G.add b (.cells cs.toArray T (0, 0))) b 0 cs := ⟨_, _, _, Gh.add_self, fun j u hu => by simpa using hu⟩
 have hS : Sl (G.add b (.cells cs.toArray T (0, 0))) (.slice (some ⟨b, off, none⟩) 32 32) dg.l := Sl.ofDigO (by have := hrow.part hcs; rwa [F2] at this)
 have hl32 : dg.l.length = 32 := dg.h
 obtain ⟨v', o', w', hr, k1, k2, k3, _, _⟩ := b1t (P := P) (ty := rt) he g2 (B9 _) hC.size g3 (hO.mono g1) hS (by rw [hl32]; simp only [maxLen]; omega) (by rw [hl32]; exact hb)
 obtain ⟨A, cap, rfl⟩ := k3.form
 refine x5 (R := fun u w2 => u = .slice A (xs ++ dg.l).length cap /\ w2 = w') hd (fun a ha => ?_) ?_
 ·unfold OpR; have : (execOp a.eval ⟨d, .call ⟨.builtin .append, #[x, y], #[t, t]⟩, rt, pos, af, none⟩).run P w = .ok (.value (.slice A (xs ++ dg.l).length cap)) w' := by
   simp only [execOp, resolve, Sem.run_bind, Sem.run_pure, Result.andThen_ok, invoke, builtin, K8, C9, L0, ha.eval hx, ha.eval hy, hr]
  rw [this]; exact ⟨rfl, rfl⟩
 ·rintro u w2 ⟨rfl, rfl⟩; have hne : ∀ z : Nat, (G.add b (.cells cs.toArray T (0, 0))) z = none -> z ≠ b := fun z hz e => by rw [e, Gh.add_self] at hz; cases hz
  have hgn : ∀ z : Nat, (G.add b (.cells cs.toArray T (0, 0))) z = none -> G z = none := fun z hz => by
   cases hq : G z with
   | none => rfl
   | some q => have := g1 _ _ hq; rw [hz] at this; cases this
  refine h A cap o' w2 (f5f k1 hC g1) (Bxs.perm ⟨?_, ?_, ?_⟩ (hp o'.toList).symm) ?_
  ·intro z hz; rcases D2.1 hz with rfl | hz
   ·exact ⟨k1.holds _ _ Gh.add_self, x2, x3⟩
   ·obtain ⟨z1, z2, z3⟩ := k2.at_ z hz; exact ⟨z1, hgn _ z2, z3⟩
  ·rw [C9, L5]; refine ⟨fun hm => ?_, k2.nodup⟩; obtain ⟨z, hz, he⟩ := E1.1 hm; exact hne _ (k2.at_ z hz).2.1 he
  ·intro z hz; rcases D2.1 hz with rfl | hz
   ·exact x4
   ·exact k2.apart z hz
  ·obtain ⟨rows, r1, r2⟩ := k3; refine ⟨rows, r1, ?_⟩; have : ∀ (rs : List (List Value)) (l : List UInt8), p5 (G.add b (.cells cs.toArray T (0, 0))) rs l -> p5 G rs l := by
    intro rs
    induction rs with
    | nil => intro l hl; cases l with | nil => trivial | cons _ _ => exact hl.elim
    | cons a rs ih => intro l hl; cases l with | nil => exact hl.elim | cons y l => exact ⟨hl.1, ih l hl.2⟩
   exact this _ _ r2
def b7z {n el : Nat} (h : n * j0 P el <= d4) : n * a3n P el <= 140737488355328 /\ n <= 140737488355328 := by
 unfold j0 at h; unfold d4 at h
 split at h
 ·rename_i hb; rw [hb]; omega
 ·rename_i k hb; rw [hb]; refine ⟨h, D5 (S6 n (Nat.succ_pos k)) h⟩
def c8o (r : Rel w0 G0 s m e w) {d : Option Nat} {x y : Operand} {t t' : Nat} {K : St E -> Prop} (h : d4i (P := P) Z s d x y t t' K) (hd : dOk d = true) (hN : okD N d = true)
  (hk : ∀ s' m' v w', Up m m' -> Rel w0 G0 s' m' (e.putO d v) w' -> K s' -> WL P ops Q N rest (e.putO d v) w') : WL P ops Q N (⟨d, .call ⟨.builtin .append, #[x, y], #[t, t']⟩, ty, pos, af, none⟩ :: rest) e w := by
 unfold d4i at h
 split at h
 ·split at h
  ·rename_i s1 hs1; obtain ⟨m1, u1, rh1, hsl, _⟩ := a9o r.toRelH hs1; have r1 := r.mem u1 rh1 hsl; split at h
   ·rename_i a b el ha hb hel; split at h
    ·rename_i o u xs ho; split at h
     ·rename_i ys hys; cases hc : Nat.beq t t' && a1i P t el (Ty.sz (E := E) u) (a3n P el) with
      | false => rw [hc] at h; exact h.elim
      | true =>
       rw [hc] at h; simp only [B5] at h; rw [A7] at hc; obtain ⟨ht, he⟩ := hc; have := A8 ht; subst this; cases hn : Nat.ble ((xs.length + ys.length) * j0 P el) d4 with
       | false => rw [hn, a8t] at h; exact h.elim
       | true =>
        rw [hn, a6l] at h; obtain ⟨n1, n2⟩ := b7z (C2 hn); obtain ⟨va, a1, a2⟩ := d8 r1 ha; obtain ⟨vb, b1, b2⟩ := d8 r1 hb; have hS := f2h hys b2; unfold d4h at ho; split at ho
        ·rename_i id; split at ho
         ·rename_i k u' el' xs' hg; cases hee : Nat.beq el el' with
          | false => rw [hee] at ho; cases ho
          | true =>
           rw [hee] at ho; simp only [B5, A3, I4, S7] at ho; obtain ⟨rfl, rfl, hx⟩ := ho; have hx := X8 hx; subst hx; have := A8 hee; subst this; obtain ⟨_, _, _, ⟨o, h3, h4, h5, h6⟩, _⟩ := r1.wd hg; obtain ⟨p, q, A, B, hC, hB, hT⟩ := r1.toRelH.ren hg; obtain ⟨_, rfl, _⟩ := d6 rfl a2; rw [h3] at hB; refine b0v he hC hB a1 b1 h5 hS n1 n2 hN fun A' cap o' w' k1 k2 k3 => ?_
           rw [h4] at k1 k2; obtain ⟨u2, r2⟩ := hT m1.G w' (.arr u' el (xs' ++ ys)) (.slice A' (xs' ++ ys).length cap) o'.toList [] (GLe.refl _) k1 k2 ⟨o', rfl, rfl, k3, by rw [B7]; exact n2⟩; refine hk _ _ _ _ (u1.trans u2) ((r1.mem u2 r2 rfl).put hd fun y hy => ?_) h; cases hy; exact ⟨by simp [Mn.add, Mn.g, r1.n], by rw [<- r1.n]; exact Mn.add_ν.symm, A', _, cap, by rw [<- r1.n]; exact Mn.add_ν⟩
         ·cases ho
        ·split at ho
         ·rename_i u' _; simp only [A3, I4, S7] at ho; obtain ⟨rfl, rfl, hx⟩ := ho; have hx := X8 hx; subst hx; obtain ⟨bl, L, hC, hB, hT⟩ := r1.toRelH.new; have va : va = _ := d6 rfl a2; subst va; refine b0v (o := none) (bl := []) (r := bl) he hC hB a1 b1 (Ow.nil_ _ _) hS n1 n2 hN fun A' cap o' w' k1 k2 k3 => ?_
          obtain ⟨u2, r2⟩ := hT m1.G w' (.arr u' el (([] : List (u'.den E)) ++ ys)) (.slice A' (([] : List (u'.den E)) ++ ys).length cap) o'.toList [] (GLe.refl _) k1 k2 ⟨o', rfl, rfl, k3, by rw [B7]; exact n2⟩; refine hk _ _ _ _ (u1.trans u2) ((r1.mem u2 r2 rfl).put hd fun y hy => ?_) h; cases hy; exact ⟨by simp [Mn.add, Mn.g, r1.n], by rw [<- r1.n]; exact Mn.add_ν.symm, A', _, cap, by rw [<- r1.n]; exact Mn.add_ν⟩
         ·cases ho
        ·cases ho
     ·exact h.elim
    ·exact h.elim
   ·exact h.elim
  ·exact h.elim
 ·exact h.elim
def d4k {m : Mn E} : ∀ {l : List (SV E)} {vs : List Value}, c2x l = true -> vs.length = l.length -> (∀ (i : Nat) (x : SV E), l[i]? = some x -> ∃ v, vs[i]? = some v /\ RV m x v) -> LL m l vs /\ @p5 Value rpV m.G (vs.map fun v => v.cells.toList) vs
 | [], vs, _, hl, _ => by
  have : vs = [] := H6.1 (by simpa using hl); subst this; exact ⟨rfl, trivial⟩
 | x :: l, [], _, hl, _ => by simp at hl
 | x :: l, v :: vs, hp, hl, hv => by
  letI := rpV; have hv0 : RV m x v := by
   obtain ⟨v', e1, e2⟩ := hv 0 x rfl; simp only [E0, A3] at e1; subst e1; exact e2
  have hr := fun (h : c2x l = true) => d4k h (by simpa using hl) (fun i y hi => by simpa using hv (i + 1) y (by simpa using hi))
  have one : ∀ {u : Value}, u.oneCell' = true -> u.cells.toList = [u] := fun {u} hu => by
   cases u <;> first | rfl | (simp [Value.oneCell'] at hu; done) | (cases hu; done)
  unfold c2x at hp; split at hp
  ·rename_i heq; cases heq
  ·rename_i id off r heq; injection heq with h1 h2
   subst h1 h2; have hL : L m (SV.ptr id off : SV E) v := d6 rfl hv0; obtain ⟨g1, g2⟩ := hr hp; exact ⟨⟨v, vs, rfl, hL, g1⟩, ⟨one hL.one, hL.one⟩, g2⟩
  ·rename_i id r heq; injection heq with h1 h2
   subst h1 h2; have hL : L m (SV.mp id : SV E) v := d6 rfl hv0; obtain ⟨g1, g2⟩ := hr hp; exact ⟨⟨v, vs, rfl, hL, g1⟩, ⟨one hL.one, hL.one⟩, g2⟩
  ·cases hp
def d8a (r : Rel w0 G0 s m e w) {d : Option Nat} {x y : Operand} {t t' id2 k2 e2 : Nat} {ys : List (SV E)} {K : St E -> Prop} (hy : opd s y = some (.own id2)) (hg2 : o6 s.hp id2 = some (k2, .pts e2 ys)) (h : d1w P s d x t t' id2 e2 ys K) (hd : dOk d = true) (hN : okD N d = true)
  (hk : ∀ s' m' v w', Up m m' -> Rel w0 G0 s' m' (e.putO d v) w' -> K s' -> WL P ops Q N rest (e.putO d v) w') : WL P ops Q N (⟨d, .call ⟨.builtin .append, #[x, y], #[t, t']⟩, ty, pos, af, none⟩ :: rest) e w := by
 letI := rpV
 obtain ⟨vb, b1, b2⟩ := d8 r hy
 obtain ⟨m1, u1, rh1, us, hS, hL2, hul⟩ : ∃ m1, Up m m1 /\ RelH w0 G0 (s.turn id2 .oth) m1 w /\ ∃ us : List Value, Sl m1.G vb us /\ LL m1 ys us /\ us.length <= d4 := by
  obtain ⟨_, _, _, ⟨o, us, h3, h4, h5, h6, h7⟩, _⟩ := r.wd hg2; obtain ⟨p, q, A, B, hC, hB, hT⟩ := r.toRelH.turn hg2; rw [h3, h4] at hB; rw [h4] at hC; obtain ⟨G', k1, k2, k3, k4⟩ := h5.freeze' hC (B9 _) hB h6; obtain ⟨u, r'⟩ := hT G' w .oth [] [] k1 k2 k3 trivial; obtain ⟨_, rfl, _⟩ := d6 rfl b2; refine ⟨_, u, r', us, ?_, h7.up u, h6⟩; exact k4
 have r1 : Rel w0 G0 (s.turn id2 .oth) m1 e w := r.mem u1 rh1 rfl
 have hn1 : (s.turn id2 .oth).n = s.n + 1 := rfl
 have hmn : m1.n = s.n + 1 := by rw [<- hn1]; exact r1.n
 have hly := (LL.at_ hL2).1
 unfold d1w at h
 split at h
 ·rename_i el ha hel; cases hc : Nat.beq t t' && (Nat.beq el e2 && a1i P t el 1 (a3n P el)) with
  | false => rw [hc] at h; exact h.elim
  | true =>
   rw [hc] at h; simp only [B5] at h; simp only [A7] at hc; obtain ⟨ht, hee, he⟩ := hc; have := A8 ht; subst this; cases hn : Nat.ble ((0 + ys.length) * j0 P el) d4 with
   | false => rw [hn, a8t] at h; exact h.elim
   | true =>
    rw [hn, a6l] at h; have hn' := C2 hn; rw [hly] at hn'; obtain ⟨n1, n2⟩ := b7z hn'; obtain ⟨va, a1, a2⟩ := d8 r ha; obtain ⟨bl, L, hC, hB, hT⟩ := r1.toRelH.new; have va : va = _ := d6 rfl a2; subst va; refine b0v (α := Value) (o := none) (xs := []) (bl := []) (r := bl) he hC hB a1 b1 (Ow.nil_ _ _) hS n1 n2 hN fun A' cap o' w' k1 k2 k3 => ?_
    obtain ⟨u2, r2⟩ := hT m1.G w' (.pts el ys) (.slice A' (([] : List Value) ++ us).length cap) o'.toList [] (GLe.refl _) k1 k2 ⟨o', _, rfl, rfl, k3, by rw [T8]; exact hul, by rw [T8]; exact hL2.up (Mn.g_up (GLe.refl _))⟩; refine hk _ _ _ _ (u1.trans u2) ((r1.mem u2 r2 rfl).put hd fun y hy => ?_) h; cases hy; exact ⟨by simp [Mn.add, Mn.g, hmn], by rw [<- hmn]; exact Mn.add_ν.symm, A', _, cap, by rw [<- hmn]; exact Mn.add_ν⟩
 ·rename_i id1 el ha hel; split at h
  ·rename_i k1' e1 xs hg; cases hc : Nat.beq t t' && (Nat.beq el e2 && (Nat.beq el e1 && a1i P t el 1 (a3n P el))) with
   | false => rw [hc] at h; exact h.elim
   | true =>
    rw [hc] at h; simp only [B5] at h; simp only [A7] at hc; obtain ⟨ht, hee, hee1, he⟩ := hc; have := A8 ht; subst this; have := A8 hee1; subst this; cases hn : Nat.ble ((xs.length + ys.length) * j0 P el) d4 with
    | false => rw [hn, a8t] at h; exact h.elim
    | true =>
     rw [hn, a6l] at h; obtain ⟨va, a1, a2⟩ := d8 r ha; have a2 := a2.up u1; obtain ⟨_, _, _, ⟨o, vx, h3, h4, h5, h6, h7⟩, _⟩ := r1.wd hg; have hlx := (LL.at_ h7).1; have hn' := C2 hn; rw [hly, hlx] at hn'; obtain ⟨n1, n2⟩ := b7z hn'; obtain ⟨p, q, A, B, hC, hB, hT⟩ := r1.toRelH.ren hg; obtain ⟨_, rfl, _⟩ := d6 rfl a2; rw [h3] at hB; refine b0v (α := Value) he hC hB a1 b1 h5 hS n1 n2 hN fun A' cap o' w' k1 k2 k3 => ?_
     rw [h4] at k1 k2; obtain ⟨u2, r2⟩ := hT m1.G w' (.pts el (xs ++ ys)) (.slice A' (vx ++ us).length cap) o'.toList [] (GLe.refl _) k1 k2 ⟨o', _, rfl, rfl, k3, by rw [B7]; exact n2, (h7.app hL2).up (Mn.g_up (GLe.refl _))⟩; refine hk _ _ _ _ (u1.trans u2) ((r1.mem u2 r2 rfl).put hd fun y hy => ?_) h; cases hy; exact ⟨by simp [Mn.add, Mn.g, hmn], by rw [<- hmn]; exact Mn.add_ν.symm, A', _, cap, by rw [<- hmn]; exact Mn.add_ν⟩
  ·exact h.elim
 ·exact h.elim
def d8b (r : Rel w0 G0 s m e w) {d : Option Nat} {x y : Operand} {id off t t' : Nat} {K : St E -> Prop} (hy : opd s y = some (.vw id off)) (h : d1v (P := P) Z s d x id off t t' K) (hd : dOk d = true) (hN : okD N d = true)
  (hk : ∀ s' m' v w', Up m m' -> Rel w0 G0 s' m' (e.putO d v) w' -> K s' -> WL P ops Q N rest (e.putO d v) w') : WL P ops Q N (⟨d, .call ⟨.builtin .append, #[x, y], #[t, t']⟩, ty, pos, af, none⟩ :: rest) e w := by
 unfold d1v at h
 split at h
 ·rename_i kv T c a el hg ha hel; split at h
  ·rename_i dg tl o xs hdr ho; cases hc : Nat.beq t t' && (a1i P t el 1 (a3n P el) && !(Nat.beq T el)) with
   | false => rw [hc] at h; exact h.elim
   | true =>
    rw [hc] at h; simp only [B5] at h; rw [A7, A7, K4] at hc; obtain ⟨ht, he, hTe⟩ := hc; have := A8 ht; subst this; cases hn : Nat.ble ((List.length xs + 32) * j0 P el) d4 with
    | false => rw [hn, a8t] at h; exact h.elim
    | true =>
     rw [hn, a6l] at h; obtain ⟨n1, n2⟩ := b7z (C2 hn); obtain ⟨va, a1, a2⟩ := d8 r ha; obtain ⟨vb, b1, b2⟩ := d8 r hy; obtain ⟨_, bb, oo, b3, rfl⟩ := d6 rfl b2; obtain ⟨gw, hid, hkv, ⟨b5, cs, e1, e2, e3, e4⟩, _⟩ := r.wd hg; rw [e3] at b3; simp only [Value.pointer.injEq, A3, Addr.mk.injEq, M0] at b3; obtain ⟨rfl, rfl⟩ := b3; rw [F2] at b1; obtain ⟨c1, c2, f1, f2, _⟩ := e4.drop hdr; have f2 : c1 = dg.cells := f2; subst f2; have hcs : (cs.drop off).take 32 = dg.cells := by rw [f1]; simp
     have hXm : (b5, T, cs) ∈ m.R kv := by rw [e1]; simp
     have h32 : dg.l.length = 32 := dg.h; unfold d4h at ho; split at ho
     ·rename_i q; split at ho
      ·rename_i k u' el' xs' hgq; cases hee : Nat.beq el el' with
       | false => rw [hee] at ho; cases ho
       | true =>
        rw [hee] at ho; simp only [B5, A3, I4, S7] at ho; obtain ⟨rfl, rfl, hx⟩ := ho; have hx := X8 hx; subst hx; have := A8 hee; subst this; obtain ⟨_, _, _, ⟨o, h3, h4, h5, h6⟩, _⟩ := r.wd hgq; obtain ⟨p, qq, A, B, hmem, hC, hB, hT⟩ := r.toRelH.ren' hgq; obtain ⟨_, rfl, _⟩ := d6 rfl a2; have hne : (b5, T, cs) ∈ p ++ qq := by
         have h7 := hmem _ _ _ hg _ hXm; rw [h3] at h7; simp only [D4] at h7 ⊢; rcases h7 with h7 | h7 | h7
         ·exact .inl h7
         ·cases o with
          | none => cases h7
          | some y0 =>
           have h7 : (b5, T, cs) = y0 := by simpa using h7
           subst h7; obtain ⟨rows, ⟨_, h8⟩, _⟩ := h5; obtain ⟨h8, _⟩ := h8; rw [h8, T9] at hTe; cases hTe
         ·exact .inr h7
        rw [h3] at hB; refine c2z he hC hB a1 hne hcs b1 h5 n1 n2 hN fun A' cap o' w' k1 k2 k3 => ?_
        rw [h4] at k1 k2; obtain ⟨u2, r2⟩ := hT m.G w' (.arr .u8 el (xs' ++ dg.l)) (.slice A' (xs' ++ dg.l).length cap) o'.toList [] (GLe.refl _) k1 k2 ⟨o', rfl, rfl, k3, by rw [B7, h32]; exact n2⟩; refine hk _ _ _ _ u2 ((r.mem u2 r2 rfl).put hd fun y hy => ?_) h; cases hy; exact ⟨by simp [Mn.add, Mn.g, r.n], by rw [<- r.n]; exact Mn.add_ν.symm, A', _, cap, by rw [<- r.n]; exact Mn.add_ν⟩
      ·cases ho
     ·split at ho
      ·rename_i u' _; simp only [A3, I4, S7] at ho; obtain ⟨rfl, rfl, hx⟩ := ho; have hx := X8 hx; subst hx; obtain ⟨bl, L, hmem, hC, hB, hT⟩ := r.toRelH.new'; have va : va = _ := d6 rfl a2; subst va; refine c2z (o := none) (bl := []) (r := bl) he hC hB a1 (by simpa using hmem _ _ _ hg _ hXm) hcs b1 (Ow.nil_ _ _) n1 n2 hN fun A' cap o' w' k1 k2 k3 => ?_
       obtain ⟨u2, r2⟩ := hT m.G w' (.arr .u8 el (([] : List UInt8) ++ dg.l)) (.slice A' (([] : List UInt8) ++ dg.l).length cap) o'.toList [] (GLe.refl _) k1 k2 ⟨o', rfl, rfl, k3, by rw [B7, h32]; exact n2⟩; refine hk _ _ _ _ u2 ((r.mem u2 r2 rfl).put hd fun y hy => ?_) h; cases hy; exact ⟨by simp [Mn.add, Mn.g, r.n], by rw [<- r.n]; exact Mn.add_ν.symm, A', _, cap, by rw [<- r.n]; exact Mn.add_ν⟩
      ·cases ho
     ·cases ho
  ·exact h.elim
 ·exact h.elim
def b6o {u : Ty} : ∀ {l : List (SV E)} {xs : List (u.den E)} {vs : List Value}, a9p F m.bs u l = some xs -> vs.length = l.length -> (∀ (i : Nat) (x : SV E), l[i]? = some x -> ∃ v, vs[i]? = some v /\ RV m x v) -> p5 m.G (vs.map fun v => v.cells.toList) xs
 | [], xs, vs, h, hl, _ => by
  simp only [a9p, A3] at h; subst h; cases vs with | nil => trivial | cons _ _ => simp at hl
 | x :: l, xs, [], h, hl, _ => by simp at hl
 | x :: l, xs, v :: vs, h, hl, hv => by
  simp only [a9p] at h; split at h
  ·rename_i c hc; split at h
   ·rename_i a b ha hb; cases h; obtain ⟨v', e1, e2⟩ := hv 0 x rfl; simp only [E0, A3] at e1; subst e1; obtain ⟨cs, h3, h4⟩ := a3m hc e2; refine ⟨?_, b6o hb (by simpa using hl) fun i y hi => by simpa using hv (i + 1) y (by simpa using hi)⟩; show Rp.Is m.G v.cells.toList a; rw [h3]; exact b3i F u c a cs ha h4
   ·cases h
  ·cases h
def b5h : ∀ {l : List Nat} {i : Nat}, b5f i l = true -> l = List.range' i l.length
 | [], _, _ => rfl
 | x :: l, i, h => by
  simp only [b5f, A7] at h; have := A8 h.1; subst this; rw [I3, List.range'_succ, <- b5h h.2]
def d4l {A B : List (Nat × Obj)} {x : Nat × Obj} : (A ++ ([x] ++ B))[A.length]? = some x := by simp
def c5n {A B : List (Nat × Obj)} {x y : Nat × Obj} : (A ++ ([x] ++ B)).set A.length y = A ++ ([y] ++ B) := by
 rw [G4 _ _ (B9 _)]; simp
def c3a (r : Rel w0 G0 s m e w) {d : Option Nat} {x : Operand} {id k0 mid ver kt : Nat} {k : Ty} {left : List (k.den E)} {y : HB E} {rr : Nat} {it : Obj} {b : Nat} {ob : Obj} {K : St E -> Prop}
  (hg : o6 s.hp id = some (k0, y)) (h1 : m.R k0 = []) (h2 : m.O k0 = [(rr, it)]) (hv : m.ν id = .pointer (some ⟨rr, 0, none⟩)) (h3 : mid < m.n) (h4 : ver < m.n) (h5 : m.ν mid = .map (some b)) (h6 : m.O ver = [(b, ob)]) (h7 : ItO (k.enc E) ob it b left)
  (hx : opv e x = some (.pointer (some ⟨rr, 0, none⟩))) (h : c5l s d id mid ver kt k left K) (hd : dOk d = true) (hN : okD N d = true)
  (hk : ∀ s' m' v w', Up m m' -> Rel w0 G0 s' m' (e.putO d v) w' -> K s' -> WL P ops Q N rest (e.putO d v) w') : WL P ops Q N (⟨d, .next x false, ty, pos, af, none⟩ :: rest) e w := by
 unfold c5l at h
 split at h
 ·rename_i ver' k' vt xs hg2; cases hc : Nat.beq ver ver' && decide (k = k') with
  | false => rw [hc] at h; exact h.elim
  | true =>
   rw [hc] at h; simp only [B5] at h; rw [A7] at hc; have := A8 hc.1; subst this; have := A6 hc.2; subst this; obtain ⟨g1, _, _, _, _⟩ := r.wd hg; obtain ⟨g2, _, _, ⟨b2, o2, _, q4, q5, q6⟩, _⟩ := r.wd hg2; rw [h6] at q4; injection q4 with q4; injection q4 with q3 q4; subst q3 q4
   have hit : w.heap[rr]? = some it := (g1.2 _ rfl).2 (rr, it) (by rw [h2]; exact K3 _); have hmp : w.heap[b]? = some ob := (g2.2 _ rfl).2 (b, ob) (by rw [h6]; exact K3 _); obtain ⟨n0, n1⟩ := h; letI := Ty.dec E k; letI := rlT E vt; rcases ItO.next (ty := ty) q6 h7 hit hmp with ⟨rfl, e2⟩ | ⟨l1, kx, l2, kv, it', w1, rfl, e2, e3, e4, e5⟩
   ·exact e7v hx e2 hN (hk _ _ _ _ (Up.refl m) (r.put hd fun y hy => by cases hy; exact ⟨_, rfl, _, [], rfl, rfl, rfl⟩) (n0 rfl))
   ·obtain ⟨p, q, A, B, hC, hB, hT⟩ := r.toRelH.turn hg; rw [h1, h2] at hB; rw [h2] at hC; refine e7w hC hB d4l hx e2 e3 hN fun w' hC' hB' => ?_
    rw [c5n] at hC' hB'; obtain ⟨u, r'⟩ := hT m.G w' (.cur mid ver kt k kx (l1 ++ l2)) [] [(rr, it')] (GLe.refl _) hC' hB' ⟨rr, it', b, ob, rfl, rfl, hv, h3, h4, h5, h6, e4, e5⟩; exact hk _ _ _ _ u ((r.mem u r' rfl).put hd fun y hy => by cases hy; exact ⟨_, rfl, rfl⟩) (n1 l1 kx l2 rfl)
 ·exact h.elim
def Sl.nilE {α : Type} [Rp α] {G : Gh} {v : Value} {xs : List α} (h : Sl G v xs) : ∃ A n cap, v = .slice A n cap /\ (A = none -> xs = []) := by
 obtain ⟨A, cap, e1, _, _, e4⟩ := h
 refine ⟨A, _, cap, e1, fun hA => ?_⟩
 cases xs with
 | nil => rfl
 | cons z zs => obtain ⟨b, o, row, h5, _⟩ := e4 0 z rfl; rw [hA] at h5; cases h5
def e1k (r : Rel w0 G0 s m e w) {d : Option Nat} {op : Op} {K : St E -> Prop} (h : e0v (P := P) F Z s d op K) (hd : dOk d = true) (hN : okD N d = true)
  (hk : ∀ s' m' v w', Up m m' -> Rel w0 G0 s' m' (e.putO d v) w' -> K s' -> WL P ops Q N rest (e.putO d v) w') : WL P ops Q N (⟨d, op, ty, pos, af, none⟩ :: rest) e w := by
 unfold e0v at h
 split at h
 ·rename_i T; split at h
  ·split at h
   ·rename_i k v _ _; obtain ⟨bl, L, hC, hB, hT⟩ := r.toRelH.new; refine d1f hC hB hN fun b w' hC' hB' => ?_
    letI := rlT E v; obtain ⟨u, r'⟩ := hT m.G w' (.map k v []) (.map (some b)) [] [(b, .map #[] 0)] (GLe.refl _) hC' hB' ⟨b, _, rfl, rfl, rfl, MpO.nil_ _ _⟩; refine hk _ _ _ _ u ((r.mem u r' rfl).put hd fun y hy => ?_) h; cases hy; exact ⟨by simp [Mn.add, Mn.g, r.n], by rw [<- r.n]; exact Mn.add_ν.symm, b, by rw [<- r.n]; exact Mn.add_ν⟩
   ·exact h.elim
  ·exact h.elim
 ·rename_i t x y z; split at h
  ·split at h
   ·rename_i s1 hs1; obtain ⟨m1, u1, rh1, hsl, _⟩ := a9o r.toRelH hs1; have r1 := r.mem u1 rh1 hsl; split at h
    ·rename_i id b c hx hy hz; split at h
     ·rename_i ver k vt xs hg; split at h
      ·rename_i a _ q hkey hval; obtain ⟨vx, a1, a2⟩ := d8 r1 hx; obtain ⟨vy, b1, b2⟩ := d8 r1 hy; obtain ⟨vz, c1, c2⟩ := d8 r1 hz; rw [<- r1.bs] at hkey hval; obtain ⟨kt, et, zv, g1, g2, g3, _, _⟩ := b9e hkey b2; have hq := a5p F hval c2; subst g3; obtain ⟨g0, _, _, ⟨bb, o, q1, q2, q3, q4⟩, _⟩ := r1.wd hg; obtain ⟨_, a3, _⟩ := d6 rfl a2; rw [q3] at a3; subst a3; letI := Ty.dec E k; letI := rlT E vt; obtain ⟨o', p1, p2, _⟩ := MpO.put q4 g2 g1 (show Rl.Is1 m1.G vz q from hq) a; have hb : w.heap[bb]? = some o := (g0.2 _ rfl).2 (bb, o) (by rw [q2]; exact K3 _); obtain ⟨pp, qq, A, B, hC, hB, hT⟩ := r1.toRelH.turn hg; rw [q1, q2] at hB; rw [q2] at hC; refine d7w hC hB d4l a1 b1 c1 (p2 w bb hb) hN fun w' hC' hB' => ?_
       rw [c5n] at hC' hB'; obtain ⟨u2, r2⟩ := hT m1.G w' (.map k vt (j6 k vt xs a q)) [] [(bb, o')] (GLe.refl _) hC' hB' ⟨bb, o', rfl, rfl, q3, p1⟩; exact hk _ _ _ _ (u1.trans u2) ((r1.mem u2 r2 rfl).put hd fun y hy => by cases hy) h
      ·exact h.elim
     ·exact h.elim
    ·exact h.elim
   ·exact h.elim
  ·exact h.elim
 ·rename_i t x y; split at h
  ·rename_i id b hx hy; split at h
   ·rename_i ver k vt xs hg; split at h
    ·rename_i a z hkey; obtain ⟨vx, a1, a2⟩ := d8 r hx; obtain ⟨vy, b1, b2⟩ := d8 r hy; rw [<- r.bs] at hkey; obtain ⟨kt, et, zv, g1, g2, g3, g4, g5⟩ := b9e hkey b2; subst g3; obtain ⟨g0, hid, _, ⟨bb, o, q1, q2, q3, q4⟩, _⟩ := r.wd hg; obtain ⟨_, a3, _⟩ := d6 rfl a2; rw [q3] at a3; subst a3; letI := Ty.dec E k; letI := rlT E vt; obtain ⟨o1, v1, st, p1, p2, p3, p4⟩ := MpO.entry2 q4 g2 g1 g4 (show Rl.Is1 m.G zv z from g5) a; have hb : w.heap[bb]? = some o := (g0.2 _ rfl).2 (bb, o) (by rw [q2]; exact K3 _); obtain ⟨pp, qq, A, B, hC, hB, hT⟩ := r.toRelH.turn hg; rw [q1, q2] at hB; rw [q2] at hC; refine e0d hC hB d4l a1 b1 (p3 w bb hb) hN fun w' hC' hB' => ?_
     rw [c5n] at hC' hB'; obtain ⟨u2, r2⟩ := hT m.G w' (.map k vt (j6 k vt xs a ((a0f k vt xs a).getD z))) [] [(bb, o1)] (GLe.refl _) hC' hB' ⟨bb, o1, rfl, rfl, q3, p1⟩; obtain ⟨bl3, L3, hC3, hB3, hT3⟩ := r2.new; have hn : m.n = s.n := r.n; obtain ⟨u3, r3⟩ := hT3 _ w' (.stp id s.n k a) (.int .i64 st) [] [] (GLe.refl _) hC3 hB3 ⟨bb, o1, st, rfl, rfl, rfl, C3 hid (by simp [Mn.add, Mn.g]), by simp [Mn.add, Mn.g, hn], by
      show (if id = m.n then undef else m.ν id) = _; rw [F7 (W2 hid)]; exact q3, by
      show (if s.n = m.n then [(bb, o1)] else _) = _; rw [F8 hn.symm], p4⟩
     have u := u2.trans u3; refine hk _ _ _ _ u ((r.mem u r3 rfl).put hd fun y hy => ?_) h; cases hy; refine ⟨_, rfl, v1, _, rfl, b0u (F := F) (IsV.mono u.g p2), .int .i64 st, [], rfl, ⟨?_, ?_, st, ?_⟩, rfl⟩
     ·simp [Mn.add, Mn.g, hn]
     ·show _ = (if s.n + 1 = m.n + 1 then Value.int .i64 st else _); rw [F8 (by omega)]
     ·show (if s.n + 1 = m.n + 1 then Value.int .i64 st else _) = _; rw [F8 (by omega)]
    ·exact h.elim
   ·exact h.elim
  ·exact h.elim
 ·rename_i t x y z; split at h
  ·split at h
   ·rename_i s1 hs1; obtain ⟨m1, u1, rh1, hsl, _⟩ := a9o r.toRelH hs1; have r1 := r.mem u1 rh1 hsl; split at h
    ·rename_i id q c hx hy hz; split at h
     ·rename_i ver' k vt xs ver0 mid ver k' a kt et hg hgq ht; split at h
      ·rename_i a' y' ha hval; cases hc : Nat.beq mid id && (Nat.beq ver ver' && Z.kyB kt k) with
       | false => rw [hc] at h; exact h.elim
       | true =>
        rw [hc] at h; rw [A7, A7] at hc; obtain ⟨c1, c2, c3⟩ := hc; have := A8 c1; subst this; have := A8 c2; subst this; obtain ⟨e1, e2⟩ := Ty.to_ok (C := fun t => t.den E) ha; subst e1; simp only at e2; subst e2; obtain ⟨k1, _⟩ := ZF.kyB_ok c3; obtain ⟨vx, a1, a2⟩ := d8 r1 hx; obtain ⟨vy, b1, b2⟩ := d8 r1 hy; obtain ⟨vz, d1, d2⟩ := d8 r1 hz; rw [<- r1.bs] at hval; have hq := a5p F hval d2; obtain ⟨g0, _, _, ⟨bb, o, q1, q2, q3, q4⟩, _⟩ := r1.wd hg; obtain ⟨_, _, _, ⟨b5, o5, st, _, _, q7, _, _, q10, q11, q12⟩, _⟩ := r1.wd hgq; rw [q3] at q10; injection q10 with q10; injection q10 with q10; subst q10
        rw [q2] at q11; injection q11 with q11; injection q11 with _ q11; subst q11
        obtain ⟨_, a3, _⟩ := d6 rfl a2; rw [q3] at a3; subst a3; obtain ⟨_, b3, _⟩ := d6 rfl b2; rw [q7] at b3; subst b3; letI := Ty.dec E k'; letI := rlT E vt; obtain ⟨o', p1, p2⟩ := MpO.estore (t := t) (P := P) q4 k1 q12 (show Rl.Is1 m1.G vz y' from hq); have hb : w.heap[bb]? = some o := (g0.2 _ rfl).2 (bb, o) (by rw [q2]; exact K3 _); obtain ⟨pp, qq, A, B, hC, hB, hT⟩ := r1.toRelH.turn hg; rw [q1, q2] at hB; rw [q2] at hC; refine c2a hC hB d4l a1 b1 d1 (p2 w bb hb) hN fun w' hC' hB' => ?_
        rw [c5n] at hC' hB'; obtain ⟨u2, r2⟩ := hT m1.G w' (.map k' vt (j6 k' vt xs a y')) [] [(bb, o')] (GLe.refl _) hC' hB' ⟨bb, o', rfl, rfl, q3, p1⟩; exact hk _ _ _ _ (u1.trans u2) ((r1.mem u2 r2 rfl).put hd fun y hy => by cases hy) h
      ·exact h.elim
     ·exact h.elim
    ·exact h.elim
   ·exact h.elim
  ·exact h.elim
 ·rename_i t x y; split at h
  ·rename_i id hx; split at h
   ·rename_i k u e0 xs l el hg hl hel; obtain ⟨hc, h⟩ := cnD h; cases hb : decide (0 <= l) && decide (l <= (xs.length : Int)) with
    | false => rw [hb, a8t] at h; exact h.elim
    | true =>
     rw [hb, a6l] at h; simp only [A7, C6] at hb; obtain ⟨l, rfl⟩ := I5 hb.1; obtain ⟨v, h1, h2⟩ := d8 r hx; obtain ⟨_, _, _, ⟨o, _, _, h5, _⟩, _⟩ := r.wd hg; obtain ⟨h4, rfl, A, n, c, h7⟩ := d6 rfl h2; rw [h7] at h5 h1; have hn := h5.len; have hcap := h5.capLe; have hlo : (some y = none /\ l = 0) ∨ ∃ y' k, some y = some y' /\ opv e y' = some (.int k (l : Int)) := by
      rcases b3k r hl with ⟨e1, _⟩ | ⟨y', k', e1, e2⟩
      ·cases e1
      ·exact .inr ⟨y', k', e1, e2⟩
     exact a3b (c8h (hi := none) hc h1 hlo (.inl ⟨rfl, rfl⟩) (by omega) hcap) hN (hk _ _ _ _ (Up.refl m) (r.put hd fun y hy => by
      cases hy; exact ⟨h4, A, n, c, h7, rfl⟩) h)
   ·exact h.elim
  ·exact h.elim
 ·rename_i t x lo hi _; split at h
  ·rename_i id hx; split at h
   ·rename_i s1 hs1; obtain ⟨m1, u1, rh1, hsl, _⟩ := c5j r.toRelH hs1; have r1 := r.mem u1 rh1 hsl; split at h
    ·rename_i c y hy; cases c with
     | false => rw [a8t] at h; exact h.elim
     | true =>
      rw [a6l] at h; obtain ⟨v, h1, h2⟩ := e0n (N := N) (W := fun w => Holds m1.G w) r1 (fun _ h => h) hy rfl; exact a3b (h2 w r1.holds _ _ _ _ _) hN (hk _ _ _ _ u1 (r1.put hd fun y hy => by cases hy; exact h1) h)
    ·exact h.elim
   ·exact h.elim
  ·exact h.elim
 ·rename_i t x; split at h
  ·rename_i id kt et hx ht; split at h
   ·rename_i ver k vt xs hg; obtain ⟨vx, a1, a2⟩ := d8 r hx; obtain ⟨g0, g1, g2, ⟨bb, o, q1, q2, q3, q4⟩, _⟩ := r.wd hg; obtain ⟨_, a3, _⟩ := d6 rfl a2; rw [q3] at a3; subst a3; have hb : w.heap[bb]? = some o := (g0.2 _ rfl).2 (bb, o) (by rw [q2]; exact K3 _); obtain ⟨bl, L, hC, hB, hT⟩ := r.toRelH.new; letI := rlT E vt; refine e7u q4 hb hC hB a1 (b3m ht).2 hN fun rr it w' hC' hB' hI => ?_
    obtain ⟨u, r'⟩ := hT m.G w' (.itr id ver kt k (xs.map fun p => p.1)) (.pointer (some ⟨rr, 0, none⟩)) [] [(rr, it)] (GLe.refl _) hC' hB' ⟨rr, it, bb, o, rfl, rfl, rfl, g1, g2, q3, q2, hI⟩; refine hk _ _ _ _ u ((r.mem u r' rfl).put hd fun y hy => ?_) h; cases hy; exact ⟨by simp [Mn.add, Mn.g, r.n], rr, 0, by rw [<- r.n]; exact Mn.add_ν, rfl⟩
   ·exact h.elim
  ·exact h.elim
 ·rename_i x; split at h
  ·rename_i id hx; obtain ⟨vx, a1, a2⟩ := d8 r hx; obtain ⟨_, b', o', a3, a4⟩ := d6 rfl a2; split at h
   ·rename_i k0 mid ver kt k left hg; obtain ⟨_, _, _, ⟨rr, it, b, ob, e1, e2, e3, e4, e5, e6, e7, e8⟩, _⟩ := r.wd hg; rw [e3] at a3; simp only [Value.pointer.injEq, A3, Addr.mk.injEq, M0] at a3; obtain ⟨rfl, rfl⟩ := a3; subst a4; exact c3a r hg e1 e2 e3 e4 e5 e6 e7 e8 a1 h hd hN hk
   ·rename_i k0 mid ver kt k x left hg; obtain ⟨_, _, _, ⟨rr, it, b, ob, e1, e2, e3, e4, e5, e6, e7, e8, _⟩, _⟩ := r.wd hg; rw [e3] at a3; simp only [Value.pointer.injEq, A3, Addr.mk.injEq, M0] at a3; obtain ⟨rfl, rfl⟩ := a3; subst a4; exact c3a r hg e1 e2 e3 e4 e5 e6 e7 e8 a1 h hd hN hk
   ·exact h.elim
  ·exact h.elim
 ·rename_i t x y yt; split at h
  ·rename_i hx hy; obtain ⟨v, h1, h2⟩ := d8 r hx; obtain ⟨u, h3, h4⟩ := d8 r hy; have h2 : v = _ := d6 rfl h2; have h4 : u = _ := d6 rfl h4; subst h2 h4; cases ht : a3c P t with
   | false => rw [ht] at h; exact h.elim
   | true =>
    rw [ht] at h; exact a3b (b2i h1 h3 ht) hN (hk _ _ _ _ (Up.refl m) (r.put hd fun y hy => by cases hy; rfl) h)
  ·rename_i a _ hx hy; split at h
   ·rename_i t' xs hn; cases ht : a3c P t with
    | false => rw [ht] at h; exact h.elim
    | true =>
     rw [ht] at h; obtain ⟨g1, g0⟩ := h; obtain ⟨v, h1, h2⟩ := d8 r hx; obtain ⟨u, h3, h4⟩ := d8 r hy; have h4 : u = _ := d6 rfl h4; subst h4; have hv : ∃ A n cap, v = .slice A n cap /\ (A = none -> xs = []) := by
      unfold g2g at hn; split at hn
      ·simp only [A3, S7] at hn; obtain ⟨rfl, hn⟩ := hn; have hn := X8 hn; subst hn; exact Sl.nilE (d6 rfl h2)
      ·rename_i id _; split at hn
       ·rename_i k u' el ys hg; simp only [A3, S7] at hn; obtain ⟨rfl, hn⟩ := hn; have hn := X8 hn; subst hn; obtain ⟨_, _, _, ⟨o, _, _, h5, _⟩, _⟩ := r.wd hg; obtain ⟨_, h6, A, n, c, h7⟩ := d6 rfl h2; rw [h7] at h5; refine ⟨A, n, c, h6.trans h7, fun hA => ?_⟩; subst hA; cases ys with
        | nil => rfl
        | cons z zs => obtain ⟨g, off, cs, _, h8⟩ := h5.addr (i := 0) (by simp); cases h8
       ·cases hn
      ·cases hn
     obtain ⟨A, n, cap, rfl, hA⟩ := hv; cases A with
     | none => exact a3b (b2i h1 h3 ht) hN (hk _ _ _ _ (Up.refl m) (r.put hd fun y hy => by cases hy; rfl) (g1 (hA rfl)))
     | some q => exact a3b (b2i h1 h3 ht) hN (hk _ _ _ _ (Up.refl m) (r.put hd fun y hy => by cases hy; rfl) g0)
   ·exact h.elim
  ·exact h.elim
 ·split at h
  ·rename_i hx; split at h
   ·rename_i z hz; obtain ⟨v, h1, h2⟩ := d8 r hx; obtain ⟨q, q1, q2⟩ := f5a r h1 h2 hz; exact a3b (q2 _ _ _ _ _) hN (hk _ _ _ _ (Up.refl m) (r.put hd fun y hy => by cases hy; exact q1) h)
   ·exact h.elim
  ·exact h.elim
 ·exact h.elim
def e1l (r : Rel w0 G0 s m e w) {d : Option Nat} {x : Operand} {t : Nat} {K : St E -> Prop} (h : e0w (P := P) F Z s d x t K) (hd : dOk d = true) (hN : okD N d = true)
  (hk : ∀ s' m' v w', Up m m' -> Rel w0 G0 s' m' (e.putO d v) w' -> K s' -> WL P ops Q N rest (e.putO d v) w') : WL P ops Q N (⟨d, .call ⟨.builtin .clear, #[x], #[t]⟩, ty, pos, af, none⟩ :: rest) e w := by
 unfold e0w at h
 split at h
 ·rename_i id lo sz hx; split at h
  ·rename_i k u el xs el' hg hel; split at h
   ·rename_i zl hzl; split at h
    ·rename_i z hz; cases hc : Nat.beq el el' && Nat.beq sz (Ty.sz (E := E) u) with
     | false => rw [hc] at h; exact h.elim
     | true =>
      rw [hc] at h; simp only [B5] at h; rw [A7] at hc; have := A8 hc.1; subst this; have hsz := A8 hc.2; cases hb : Nat.ble lo xs.length with
      | false => rw [hb, a8t] at h; exact h.elim
      | true =>
       rw [hb, a6l] at h; have hle := C2 hb; obtain ⟨zc, z1, z2⟩ := Z.ok _ _ hzl; have hzis : ∀ G : Gh, Rp.Is G zc z := fun G => b3i (m := ⟨G, fun _ => undef, 0, [], fun _ => .oth, fun _ => [], fun _ => []⟩) F u zl z zc hz (z2 _)
       obtain ⟨v, h1, h2⟩ := d8 r hx; obtain ⟨_, _, _, ⟨o, e1, e2, h5, h6⟩, _⟩ := r.wd hg; obtain ⟨h4, A, n, c, h7, rfl⟩ := d6 rfl h2; obtain ⟨p, q, A0, B0, hC, hB, hT⟩ := r.toRelH.turn hg; rw [e1] at hB; rw [e2] at hC hB; rw [h7] at h5; have hel : P.underlying t = some (.slice el) := by
        unfold a4c at hel; split at hel
        ·rename_i hu; cases hel; exact hu
        ·cases hel
       refine c7z hel hsz hzis z1 hC hB h5 hle h1 hN fun o' w' hC' hB' hO' => ?_
       obtain ⟨u2, r2⟩ := hT m.G w' (.arr u el (xs.take lo ++ List.replicate (xs.length - lo) z)) o'.toList [] (GLe.refl _) hC' hB' ⟨o', rfl, rfl, by rw [h7]; exact hO', by rw [B7, C4, L9]; omega⟩
       exact hk _ _ _ _ u2 ((r.mem u2 r2 rfl).put hd fun y hy => by cases hy; exact ⟨[], rfl, rfl⟩) h
    ·exact h.elim
   ·exact h.elim
  ·exact h.elim
 ·exact h.elim
def d4m {call : j7 E} (hcall : a9q P w0 G0 call) (r : Rel w0 G0 s m e w) {d : Option Nat} {f id off bb oo : Nat} {args : List Operand} {l : List (SV E)} {vs : List Value} {K : St E -> Prop} (hf : a1h P f = true)
  (hl : l.length = args.length) (b2 : vs.length = args.length) (b3 : ∀ (i : Nat) (x : SV E), l[i]? = some x -> ∃ v, vs[i]? = some v /\ RV m x v) (c1 : id < m.n) (c2 : m.ν id = .pointer (some ⟨bb, oo, none⟩))
  (h : cond true (call f (.ptr id off :: l) s (fun s' x => K ((s.mem s').putV d x))) (No f)) :
  Calls P f (Value.pointer (some ⟨bb, oo + off, none⟩) :: vs).toArray w fun e w' => ∃ v, e = .returned v /\ ∃ s' m' x, Up m m' /\ RelH w0 G0 s' m' w' /\ RV m' x v /\ K ((s.mem s').putV d x) :=
 hcall f (.ptr id off :: l) s _ m w (.pointer (some ⟨bb, oo + off, none⟩) :: vs) r.toRelH (by simp [hl, b2]) (fun i x hi => by
  cases i with
  | zero => simp at hi; subst hi; exact ⟨_, rfl, a0x rfl ⟨c1, bb, oo, c2, rfl⟩⟩
  | succ i => simpa using b3 i x (by simpa using hi)) h
def RelH.mapOf (r : RelH w0 G0 s m w) {id ver : Nat} {k v : Ty} {xs : List (k.den E × v.den E)} (hg : o6 s.hp id = some (ver, .map k v xs)) : ∃ b o, w.heap[b]? = some o /\ m.ν id = .map (some b) /\ MpT E m.G k v o xs := by
 obtain ⟨hW, _, _, ⟨b, o, h1, h2, h3, h4⟩, _⟩ := r.wd hg
 exact ⟨b, o, (hW.2 ver rfl).2 (b, o) (by rw [h2]; exact F3.2 rfl), h3, h4⟩
def e1m {x : Operand} {b : Nat} {o : Obj} {k v : Ty} {xs : List (k.den E × v.den E)} {G : Gh} {t rt kt et : TypeId} {d : Option Nat} {pos : String} {af : Array Edge} {gd : Option (Nat × Bool)} (hx : opv e x = some (.map (some b))) (ht : P.underlying t = some (.map kt et)) (hb : w.heap[b]? = some o) (hM : MpT E G k v o xs) :
  j9 P N e w ⟨d, .call ⟨.builtin .len, #[x], #[t]⟩, rt, pos, af, gd⟩ (.int .i64 (xs.length : Int)) := fun a ha => by
 letI := rlT E v
 obtain ⟨es, c, kvs, rfl, hE, hR, _⟩ := hM
 have h1 : es.size = kvs.length := by
  have := congrArg List.length hE.kv; simpa using this
 have h2 : kvs.length = xs.length := by
  have := congrArg List.length (@KvR.keys _ _ _ (rlT E v) _ kvs xs hR); simpa using this
 simp [execOp, resolve, invoke, builtin, Builtin.len_, ha.eval hx, run_underlying ht, goInt, MapKept.run_getObj_map hb, h1, h2]
def d8c (r : Rel w0 G0 s m e w) {d : Option Nat} {t n el : Nat} {ps : Array (Nat × Operand)} {l : List (SV E)} {K : St E -> Prop} (hl : b1m s (ps.toList.map (·.2)) = some l) (h : d1x P s d t n ps.toList el l K) (hd : dOk d = true) (hN : okD N d = true)
  (hk : ∀ s' m' v w', Up m m' -> Rel w0 G0 s' m' (e.putO d v) w' -> K s' -> WL P ops Q N rest (e.putO d v) w') : WL P ops Q N (⟨d, .buildSlice t n ps, ty, pos, af, none⟩ :: rest) e w := by
 letI := rpV
 unfold d1x at h
 obtain ⟨hc, h⟩ := cnD h
 simp only [A7] at hc
 obtain ⟨c0, c1, c3, c4, c5⟩ := hc
 have c4 := A8 c4
 obtain ⟨vs, b1, b2, b3⟩ := a2g r hl
 obtain ⟨g1, g2⟩ := d4k c0 (by rw [b2, a0z hl]) b3
 obtain ⟨bl, L, hC, hB, hT⟩ := r.toRelH.new
 have hi := b5h c5
 rw [C5, c4] at hi
 have hlen : vs.length <= d4 := by
  have e2 := C2 c3; rw [b2, C5, c4]; unfold d4; omega
 refine b8t (α := Value) (ps := ps.toList) (bl := []) (r := bl) c1 rfl c3 hC hB hi b1 rfl g2 hN fun b cs w' _ k1 k2 k3 => ?_
 obtain ⟨u2, r2⟩ := hT m.G w' (.pts el l) (.slice (some ⟨b, 0, none⟩) n n) (Option.toList (some (b, el, cs))) [] (GLe.refl _) k1 k2 ⟨some (b, el, cs), vs, rfl, rfl, k3, hlen, g1⟩
 refine hk _ _ _ _ u2 ((r.mem u2 r2 rfl).put hd fun y hy => ?_) h
 cases hy
 exact ⟨by simp [Mn.add, Mn.g, r.n], by rw [<- r.n]; exact Mn.add_ν.symm, _, _, _, by rw [<- r.n]; exact Mn.add_ν⟩
def e1n {call : j7 E} (hcall : a9q P w0 G0 call) (r : Rel w0 G0 s m e w) {d : Option Nat} {op : Op} {K : St E -> Prop} (h : e1b (P := P) F Z call s d op K) (hd : dOk d = true) (hN : okD N d = true)
  (hk : ∀ s' m' v w', Up m m' -> Rel w0 G0 s' m' (e.putO d v) w' -> K s' -> WL P ops Q N rest (e.putO d v) w') : WL P ops Q N (⟨d, op, ty, pos, af, none⟩ :: rest) e w := by
 have newBox : ∀ {T : Nat} {l : List (SV E)} {cs : List Value} {b : Nat} {w' : World} {bl : List Bx} {L : List (Nat × Obj)} (hT : ∀ G' w' x' v bs os, GLe m.G G' -> Cx w0 G0 G' w' ⟨[], os ++ L⟩ -> Bxs G' w' w0.heap.size (bs ++ bl) ⟨[], os ++ L⟩ -> HB1 (m.g G') x' v bs os -> Up m ((m.g G').add v x' bs os) /\ RelH w0 G0 (s.new x') ((m.g G').add v x' bs os) w'),
   RC m l cs -> Cx w0 G0 m.G w' ⟨[], L⟩ -> Bxs m.G w' w0.heap.size ((b, T, cs) :: bl) ⟨[], L⟩ -> ∃ m', Up m m' /\ Rel w0 G0 ((s.new (.box T l)).put d (some (.ptr s.n 0))) m' (e.putO d (.pointer (some ⟨b, 0, none⟩))) w' := by
  intro T l cs b w' bl L hT hl hC hB; obtain ⟨u, r'⟩ := hT m.G w' (.box T l) (.pointer (some ⟨b, 0, none⟩)) [(b, T, cs)] [] (GLe.refl _) hC hB ⟨b, cs, rfl, rfl, rfl, hl⟩; refine ⟨_, u, (r.mem u r' rfl).put hd fun y hy => ?_⟩; cases hy; exact ⟨by simp [Mn.add, Mn.g, r.n], b, 0, by rw [<- r.n]; exact Mn.add_ν, rfl⟩
 unfold e1b at h
 split at h
 ·rename_i T; split at h
  ·rename_i l hz; obtain ⟨cs, h1, h2⟩ := Z.ok _ _ hz; obtain ⟨bl, L, hC, hB, hT⟩ := r.toRelH.new; refine e7s hC hB h1 hN fun b w' _ hC' hB' => ?_
   obtain ⟨m', u, r'⟩ := newBox hT (h2 m) hC' hB'; exact hk _ _ _ _ u r' h
  ·exact h.elim
 ·rename_i T x; split at h
  ·rename_i y hy; split at h
   ·rename_i l hl; obtain ⟨v, h1, h2⟩ := d8 r hy; obtain ⟨cs, h3, h4⟩ := a3m hl h2; obtain ⟨bl, L, hC, hB, hT⟩ := r.toRelH.new; refine g1r hC hB h1 h3 hN fun b w' _ hC' hB' => ?_
    obtain ⟨m', u, r'⟩ := newBox hT h4 hC' hB'; exact hk _ _ _ _ u r' h
   ·exact h.elim
  ·exact h.elim
 ·split at h
  ·rename_i t a x id o y ha hy; split at h
   ·rename_i k T c l n hg hl hn; split at h
    ·rename_i c' hc'; obtain ⟨va, h1, h2⟩ := d8 r ha; obtain ⟨v, h3, h4⟩ := d8 r hy; obtain ⟨xs, h5, h6⟩ := a3m hl h4; obtain ⟨_, _, _, ⟨b, cs, e1, e2, e3, e4⟩, _⟩ := r.wd hg; obtain ⟨p, q, A, B, hC, hB, hT⟩ := r.toRelH.turn hg; obtain ⟨_, b', o', h7, h8⟩ := d6 rfl h2; rw [e3] at h7; simp only [Value.pointer.injEq, A3, Addr.mk.injEq, M0] at h7; obtain ⟨rfl, rfl⟩ := h7; rw [F2] at h8; subst h8; rw [e1] at hB; rw [e2] at hC hB; obtain ⟨f1, f2, f3⟩ := e4.splice hc' h6; refine d3v p.length hC hB (show (p ++ ([(b, T, cs)] ++ q))[p.length]? = some (b, T, cs) by simp) h1 h3 hn h5 f2 (by rw [J6]; exact h6.one) f3 rfl hN fun w' hC' hB' => ?_
     obtain ⟨u, r'⟩ := hT m.G w' (.box T c') [(b, T, cs.take o ++ xs ++ cs.drop (o + n))] [] (GLe.refl _) hC' (by simpa using hB') ⟨b, _, rfl, rfl, e3, f1⟩; exact hk _ _ _ _ u ((r.mem u r' rfl).put hd fun y hy => by cases hy) h
    ·exact h.elim
   ·exact h.elim
  ·rename_i t a x id i sz o y0 ha hy0; split at h
   ·rename_i s1 hs1; obtain ⟨m1, u1, rh1, hsl, _⟩ := a9o r.toRelH hs1; have r1 := r.mem u1 rh1 hsl; split at h
    ·rename_i y k u el xs n hy hg hn; cases hz : Nat.beq sz (Ty.sz (E := E) u) with
     | false => rw [hz] at h; exact h.elim
     | true =>
      rw [hz] at h; simp only [B5] at h; have := A8 hz; subst this; split at h
      ·rename_i l hl; split at h
       ·rename_i c' hc'; split at h
        ·rename_i z hzz; obtain ⟨va, h1, h2⟩ := d8 r ha; have h2 := h2.up u1; obtain ⟨v, h3, h4⟩ := d8 r1 hy; obtain ⟨vs, h5, h6⟩ := a3m hl h4; obtain ⟨_, _, _, ⟨ob, e1, e2, e3, e4⟩, _⟩ := r1.wd hg; obtain ⟨p, q, A, B, hC, hB, hT⟩ := r1.toRelH.turn hg; obtain ⟨_, b, so, n', c, g1, g2, g3⟩ := d6 rfl h2; rw [g1] at e3; have hlen := e3.len; have hlt : i < xs.length := by omega
         have hxi : xs[i]? = some (xs.getD i (u.dflt E)) := by rw [B3, B2 hlt]; rfl
         obtain ⟨g, off', cs, rfl, q1⟩ := e3.addr hlt; simp only [A3, Addr.mk.injEq, M0] at q1; obtain ⟨rfl, rfl⟩ := q1; rw [e1] at hB; rw [e2] at hC hB; subst g3; rw [<- r1.bs] at hzz; have hsp : ∀ row, Rp.Is m1.G row (xs.getD i (u.dflt E)) -> RC m1 c' (row.take o ++ vs ++ row.drop (o + n)) /\ vs.length = n /\ o + n <= row.length := fun row hrow => (b8y F u _ row hrow).splice hc' h6
         obtain ⟨row0, f1, f2, _⟩ := Ow.row e3 hxi; obtain ⟨_, f4, f5⟩ := hsp row0 f1; refine d7t hC hB e3 hxi h1 rfl h3 hn h5 f4 (by rw [J6]; exact h6.one) (by rw [f2] at f5; exact f5) (fun row hrow => b3i F u c' z _ hzz (hsp row hrow).1) hN fun cs' w' k1 k2 k3 => ?_
         obtain ⟨u2, r2⟩ := hT m1.G w' (.arr u el (xs.set i z)) (Option.toList (some (b, el, cs'))) [] (GLe.refl _) k1 k2 ⟨some (b, el, cs'), rfl, rfl, by rw [g1]; exact k3, by rw [P1]; exact e4⟩; exact hk _ _ _ _ (u1.trans u2) ((r1.mem u2 r2 rfl).put hd fun y hy => by cases hy) h
        ·exact h.elim
       ·exact h.elim
      ·exact h.elim
    ·exact h.elim
   ·exact h.elim
  ·rename_i t a x id o n i y ha hy; exact e1f r ha hy h hd hN hk
  ·exact h.elim
 ·rename_i t n ps; split at h
  ·rename_i el l0 hel hl0; split at h
   ·rename_i s1 u hs1 hu; obtain ⟨m1, u1, rh1, hsl, _⟩ := a8c r.toRelH hs1; have r1 := r.mem u1 rh1 hsl; split at h
    ·rename_i l hl; split at h
     ·rename_i xs hxs; cases hc : a1i P t el (Ty.sz (E := E) u) (a3n P el) && Nat.blt 0 (Ty.sz (E := E) u) && Nat.ble (n * Ty.sz (E := E) u) 16777216 && Nat.beq ps.toList.length n && b5f 0 (ps.toList.map (·.1)) with
      | false => rw [hc] at h; exact h.elim
      | true =>
       rw [hc] at h; simp only [B5] at h; simp only [A7] at hc; obtain ⟨⟨⟨⟨c1, c2⟩, c3⟩, c4⟩, c5⟩ := hc; have c4 := A8 c4; obtain ⟨vs, b1, b2, b3⟩ := a2g r1 hl; rw [<- r1.bs] at hxs; have hR := b6o hxs (by rw [b2, a0z hl]) b3; obtain ⟨bl, L, hC, hB, hT⟩ := r1.toRelH.new; have hi := b5h c5; rw [C5, c4] at hi; have hlen : xs.length <= d4 := by
        have e1 := hR.length; rw [C5, b2, C5, c4] at e1; have e2 := C2 c3; have e3 : n <= n * Ty.sz (E := E) u := S6 n (C2 c2); unfold d4; omega
       refine b8t (ps := ps.toList) (bl := []) (r := bl) c1 c2 c3 hC hB hi b1 rfl hR hN fun b cs w' _ k1 k2 k3 => ?_
       obtain ⟨u2, r2⟩ := hT m1.G w' (.arr u el xs) (.slice (some ⟨b, 0, none⟩) n n) (Option.toList (some (b, el, cs))) [] (GLe.refl _) k1 k2 ⟨some (b, el, cs), rfl, rfl, k3, hlen⟩; refine hk _ _ _ _ (u1.trans u2) ((r1.mem u2 r2 rfl).put hd fun y hy => ?_) h; cases hy; exact ⟨by simp [Mn.add, Mn.g, r1.n], by rw [<- r1.n]; exact Mn.add_ν.symm, _, _, _, by rw [<- r1.n]; exact Mn.add_ν⟩
     ·exact h.elim
    ·exact h.elim
   ·exact d8c r hl0 h hd hN hk
   ·exact h.elim
  ·exact h.elim
 ·rename_i c; split at h
  ·rename_i g hg; obtain ⟨cl, args, ats⟩ := c; have hg : cl = .value g := hg; subst hg; split at h
   ·rename_i f caps l h1 h2; cases hf : a1h P f with
    | false =>
     rw [hf] at h; simp only [B8] at h; split at h
     ·obtain ⟨vf, a1, cv, rfl, a2⟩ := d8 r h1; have a2 : cv = _ := a2; subst a2; obtain ⟨vs, b1, b2, b3⟩ := a2g r h2; exact e1j r a1 b1 (by rw [b2, a0z h2]) b3 h hd hN hk
     ·exact h.elim
    | true =>
    rw [hf] at h; simp only [B5] at h; obtain ⟨vf, a1, cv, rfl, a2⟩ := d8 r h1; obtain ⟨vs, b1, b2, b3⟩ := a2g r h2; have hl := a0z h2; have hcv : ∀ (caps : List (SV E)) (cv : List Value), LL m caps cv -> caps.length = cv.length /\ ∀ (i : Nat) (x : SV E), caps[i]? = some x -> ∃ v, cv[i]? = some v /\ RV m x v := by
     intro caps
     induction caps with
     | nil => intro cv h; have h : cv = _ := h; subst h; exact ⟨rfl, fun i x h => by simp at h⟩
     | cons a t ih =>
      rintro cv ⟨u, us, rfl, g1, g2⟩; obtain ⟨i1, i2⟩ := ih us g2; refine ⟨by simp [i1], fun i x hi => ?_⟩; cases i with
      | zero => simp at hi; subst hi; refine ⟨u, rfl, ?_⟩; cases a <;> first | exact g1 | cases g1
      | succ i => simpa using i2 i x (by simpa using hi)
    obtain ⟨c1, c2⟩ := hcv _ _ a2; have hc := hcall f (l ++ caps) s _ m w (vs ++ cv) r.toRelH (by rw [B7, B7, hl, b2, c1]) (fun i x hi => by
     rcases R6 i l.length with hi' | hi'
     ·rw [F4 hi'] at hi; obtain ⟨v, d1, d2⟩ := b3 i x hi; exact ⟨v, by rw [F4 (by omega)]; exact d1, d2⟩
     ·rw [G7 hi'] at hi; obtain ⟨v, d1, d2⟩ := c2 _ x hi; exact ⟨v, by rw [G7 (by omega), b2, <- hl]; exact d1, d2⟩) h
    have hop := d9p (P := P) (N := N) (e := e) (w := w) (d := d) (ty := ty) (pos := pos) (af := af) (gd := none) (x := g) (f := f) (xs := args.toList) (vs := vs) (caps := cv) (first := []) (ats := ats) a1 hf b1
     (R := fun v w' => ∃ s' m' x, Up m m' /\ RelH w0 G0 s' m' w' /\ RV m' x v /\ K ((s.mem s').putV d x))
     (hc.mono fun e w' ⟨v, he, s', m', x, h1, h2, h3, h4⟩ => ⟨v, he, s', m', x, h1, h2, h3, h4⟩)
    rw [show args.toList.toArray = args from rfl] at hop; refine x5 hN hop fun v w' ⟨s', m', x, u, rh, hv, hK⟩ => ?_
    obtain ⟨m2, u2, r2⟩ := (r.up u rh).putV hd hv; exact hk _ _ _ _ (u.trans u2) r2 hK
   ·rename_i T id off name l h1 h2; obtain ⟨vf, a1, u0, rfl, a2⟩ := d8 r h1; obtain ⟨vs, b1, b2, b3⟩ := a2g r h2; obtain ⟨c1, bb, oo, c2, rfl⟩ := a2; unfold c5m at h; split at h
    ·rename_i f hm; cases hf : a1h P f with
     | false => rw [hf] at h; exact h.elim
     | true =>
      rw [hf] at h; have hop := d4m hcall r hf (a0z h2) b2 b3 c1 c2 h; have hop2 := e8f (P := P) (N := N) (e := e) (w := w) (d := d) (ty := ty) (pos := pos) (af := af) (gd := none) (ats := ats) hm a1 hf b1 hop; rw [show args.toList.toArray = args from rfl] at hop2; refine x5 hN hop2 fun v w' ⟨s', m', x, u, rh, hv, hK⟩ => ?_
      obtain ⟨m2, u2, r2⟩ := (r.up u rh).putV hd hv; exact hk _ _ _ _ (u.trans u2) r2 hK
    ·exact h.elim
   ·exact h.elim
  ·rename_i g name hg; obtain ⟨cl, args, ats⟩ := c; have hg : cl = .invoke g name := hg; subst hg; split at h
   ·rename_i T id off l h1 h2; obtain ⟨vf, a1, a2⟩ := d8 r h1; obtain ⟨vs, b1, b2, b3⟩ := a2g r h2; obtain ⟨c1, bb, oo, c2, rfl⟩ := d6 rfl a2; unfold c5m at h; split at h
    ·rename_i f hm; cases hf : a1h P f with
     | false => rw [hf] at h; exact h.elim
     | true =>
      rw [hf] at h; have hop := d4m hcall r hf (a0z h2) b2 b3 c1 c2 h; have hop2 := f4w (P := P) (N := N) (e := e) (w := w) (d := d) (ty := ty) (pos := pos) (af := af) (gd := none) (ats := ats) hm a1 hf b1 hop; rw [show args.toList.toArray = args from rfl] at hop2; refine x5 hN hop2 fun v w' ⟨s', m', x, u, rh, hv, hK⟩ => ?_
      obtain ⟨m2, u2, r2⟩ := (r.up u rh).putV hd hv; exact hk _ _ _ _ (u.trans u2) r2 hK
    ·exact h.elim
   ·exact h.elim
  ·rename_i hg; obtain ⟨cl, args, ats⟩ := c; have hg : cl = .builtin .clear := hg; subst hg; split at h
   ·rename_i x t h1 h2; obtain rfl : args = #[x] := J5 h1; obtain rfl : ats = #[t] := J5 h2; split at h
    ·rename_i hv; exact e1h r hv h hd hN hk
    ·exact e1l r h hd hN hk
   ·exact h.elim
  ·rename_i hg; obtain ⟨cl, args, ats⟩ := c; have hg : cl = .builtin .copy := hg; subst hg; split at h
   ·rename_i x y t t' h1 h2; obtain rfl : args = #[x, y] := J5 h1; obtain rfl : ats = #[t, t'] := J5 h2; split at h
    ·rename_i h3 h4; exact e1i r h3 h4 h hd hN hk
    ·exact h.elim
   ·exact h.elim
  ·rename_i hg; obtain ⟨cl, args, ats⟩ := c; have hg : cl = .builtin .len := hg; subst hg; split at h
   ·rename_i x t h1 h2; obtain rfl : args = #[x] := J5 h1; obtain rfl : ats = #[t] := J5 h2; split at h
    ·rename_i id kv hx hT; split at h
     ·rename_i ver k v xs hgt; obtain ⟨vx, a1, a2⟩ := d8 r hx; obtain ⟨_, a3, b, a4⟩ := d6 rfl a2; obtain ⟨b', o, hO, hν, hM⟩ := r.mapOf hgt; rw [a4] at hν; injection hν with hν; injection hν with hν; subst hν
      rw [a3, a4] at a1; refine a3b (e1m a1 (b3m hT).1 hO hM) hN ?_; exact hk _ _ _ _ (Up.refl m) (r.put hd fun y hy => by cases hy; rfl) h
     ·exact h.elim
    ·exact h.elim
   ·exact h.elim
  ·rename_i hg; obtain ⟨cl, args, ats⟩ := c; have hg : cl = .builtin .append := hg; subst hg; split at h
   ·rename_i x y t t' h1 h2; obtain rfl : args = #[x, y] := J5 h1; obtain rfl : ats = #[t, t'] := J5 h2; split at h
    ·rename_i hv; exact d8b r hv h hd hN hk
    ·rename_i id2 hv; split at h
     ·rename_i hg2; exact d8a r hv hg2 h hd hN hk
     ·exact c8o r h hd hN hk
    ·exact c8o r h hd hN hk
   ·exact h.elim
  ·exact h.elim
 ·exact e1k r h hd hN hk
def RelH.wdOp (r : RelH w0 G0 s m w) (op : Op) : Wd m (dep s op) w := by
 unfold dep
 have key : ∀ id, Wd m (s.ver id) w := fun id => by
  unfold St.ver; split
  ·rename_i hg; exact (r.wd hg).1
  ·exact r.wd0
 split
 ·split
  ·exact key _
  ·exact key _
  ·exact key _
  ·exact r.wd0
 ·split
  ·exact key _
  ·exact r.wd0
 ·exact r.wd0
def d4n {call : j7 E} (hcall : a9q P w0 G0 call) (r : Rel w0 G0 s m e w) {d : Option Nat} {op : Op} {K : St E -> Prop} (h : e1c F Z call s d op K) (hd : dOk d = true) (hN : okD N d = true)
  (hk : ∀ s' m' v w', Up m m' -> Rel w0 G0 s' m' (e.putO d v) w' -> K s' -> WL P ops Q N rest (e.putO d v) w') : WL P ops Q N (⟨d, op, ty, pos, af, none⟩ :: rest) e w := by
 unfold e1c at h
 split at h
 ·rename_i x hx; obtain ⟨v, h1, h2⟩ := a9n r hx; obtain ⟨m', u, r'⟩ := r.putV hd h1; exact a3b (h2 w (r.wdOp _) _ _ _ _ _) hN (hk _ _ _ _ u r' h)
 ·rename_i b hx; exact a3b (a9n r hx w (r.wdOp _) _ _ _ _ _) hN (hk _ _ _ _ (m.cmp_up b) (r.cmp hd) h)
 ·rename_i c x hx; cases c with
  | false => rw [a8t] at h; exact h.elim
  | true =>
   rw [a6l] at h; obtain ⟨v, h1, h2⟩ := a9n r hx rfl; exact a3b (h2 w (r.wdOp _) _ _ _ _ _) hN (hk _ _ _ _ (Up.refl m) (r.put hd fun y hy => by cases hy; exact h1) h)
 ·rename_i c x hx; obtain ⟨rfl, v, h1, h2⟩ := a9n r hx; rw [a6l] at h; exact a3b (h2 w (r.wdOp _) _ _ _ _ _) hN (hk _ _ _ _ (Up.refl m) (r.put hd fun y hy => by cases hy; exact h1) h)
 ·exact e1n hcall r h hd hN hk
def b9g {call : j7 E} (hcall : a9q P w0 G0 call) (r : Rel w0 G0 s m e w) {d : Option Nat} {op : Op} {K : St E -> Prop} (h : c8k F Z call s d op K) (hd : dOk d = true) (hN : okD N d = true)
  (hk : ∀ s' m' v w', Up m m' -> Rel w0 G0 s' m' (e.putO d v) w' -> K s' -> WL P ops Q N rest (e.putO d v) w') : WL P ops Q N (⟨d, op, ty, pos, af, none⟩ :: rest) e w := by
 unfold c8k at h
 split at h
 ·split at h
  ·rename_i x hx; obtain ⟨v, h1, h2⟩ := d8 r hx; obtain ⟨q, s', _, r', h'⟩ := b5g r h2 h; cases q <;> exact d4n hcall r' h' hd hN hk
  ·exact h.elim
 ·exact d4n hcall r h hd hN hk
def a2v {d : Option Nat} {v : Value} {t : Nat} (h : d ≠ some t) : (e.putO d v) t = e t := by
 cases d with
 | none => rfl
 | some d => simp only [Env.putO, Env.put]; rw [Gx.beq_false (fun h' => h (by rw [h']))]; rfl
def b0w {o : Oper} {l : List Oper} {t : Nat} (h : o.dst = some t) : t ∈ a1j (o :: l) := by
 unfold a1j; rw [h]; exact E7
def a6o {o : Oper} {l : List Oper} {t : Nat} (h : t ∈ a1j l) : t ∈ a1j (o :: l) := by
 unfold a1j; split <;> first | exact h | exact D7 _ h
section
variable {j k : Nat} {q : Bool}
def c8p : ∀ (l : List Oper), l = (a6m j q l).1 ++ (a6m j q l).2 /\ ∀ o ∈ (a6m j q l).1, o.guard = some (j, q)
 | [] => ⟨rfl, fun o h => by cases h⟩
 | o :: r => by
  obtain ⟨h1, h2⟩ := c8p r; unfold a6m; split
  ·rename_i j' q' hg; cases hb : Nat.beq j' j && (q' == q) with
   | false => exact ⟨rfl, fun o h => by cases h⟩
   | true =>
    rw [A7] at hb; have e1 := A8 hb.1; have e2 := eq_of_beq hb.2; subst e1 e2; refine ⟨by simp only [B5, Z4, <- h1], fun x hx => ?_⟩; rcases D2.1 hx with rfl | hx
    ·exact hg
    ·exact h2 x hx
  ·exact ⟨rfl, fun o h => by cases h⟩
def e1o {a b : List Oper} {t : Nat} (h : t ∈ a1j a) : t ∈ a1j (a ++ b) := by
 induction a with
 | nil => cases h
 | cons o r ih =>
  unfold a1j at h; show t ∈ a1j (o :: (r ++ b)); split at h
  ·rename_i d hd; rcases D2.1 h with rfl | h
   ·exact b0w hd
   ·exact a6o (ih h)
  ·exact a6o (ih h)
def c3b {a b : List Oper} {t : Nat} (h : t ∈ a1j b) : t ∈ a1j (a ++ b) := by
 induction a with
 | nil => exact h
 | cons o r ih => exact a6o ih
def e1p : ∀ {l : List Oper} {s s1 : St E}, evP (P := P) F Z N l s = some s1 -> s1.hp = s.hp /\ s1.n = s.n /\ s1.kn = s.kn /\ s1.md = s.md /\ ∃ x, s1.bs = s.bs ++ x
 | [], s, s1, h => by simp only [evP, A3] at h; subst h; exact ⟨rfl, rfl, rfl, rfl, [], by simp⟩
 | o :: r, s, s1, h => by
  have hput : ∀ (d : Option Nat) (x : Option (SV E)), (s.put d x).hp = s.hp /\ (s.put d x).n = s.n /\ (s.put d x).kn = s.kn /\ (s.put d x).md = s.md /\ (s.put d x).bs = s.bs := fun d x => by cases d <;> exact ⟨rfl, rfl, rfl, rfl, rfl⟩
  have hcmp : ∀ (d : Option Nat) (b : Bool), (s.cmp d b).hp = s.hp /\ (s.cmp d b).n = s.n /\ (s.cmp d b).kn = s.kn /\ (s.cmp d b).md = s.md /\ (s.cmp d b).bs = s.bs ++ [b] := fun d b => by cases d <;> exact ⟨rfl, rfl, rfl, rfl, rfl⟩
  have hputV : ∀ (d : Option Nat) (x : SV E), (s.putV d x).hp = s.hp /\ (s.putV d x).n = s.n /\ (s.putV d x).kn = s.kn /\ (s.putV d x).md = s.md /\ ∃ y, (s.putV d x).bs = s.bs ++ y := fun d x => by
   unfold St.putV; split
   ·obtain ⟨a, b, c, e, f⟩ := hcmp d ‹Bool›; exact ⟨a, b, c, e, _, f⟩
   ·obtain ⟨a, b, c, e, f⟩ := hput d (some x); exact ⟨a, b, c, e, [], by rw [f, D6]⟩
  have fin : ∀ {s2 : St E}, (s2.hp = s.hp /\ s2.n = s.n /\ s2.kn = s.kn /\ s2.md = s.md /\ ∃ y, s2.bs = s.bs ++ y) -> evP (P := P) F Z N r s2 = some s1 -> s1.hp = s.hp /\ s1.n = s.n /\ s1.kn = s.kn /\ s1.md = s.md /\ ∃ x, s1.bs = s.bs ++ x := fun ⟨a, b, c, e, y, f⟩ h2 => by
   obtain ⟨a2, b2, c2, e2, z, f2⟩ := e1p h2; exact ⟨a2.trans a, b2.trans b, c2.trans c, e2.trans e, y ++ z, by rw [f2, f, B6]⟩
  unfold evP at h; cases hd : dOk o.dst && okD N o.dst with
  | false => rw [hd] at h; cases h
  | true =>
   rw [hd, B5] at h; split at h
   ·exact fin (hputV _ _) h
   ·obtain ⟨a, b, c, e, f⟩ := hcmp o.dst ‹Bool›; exact fin ⟨a, b, c, e, _, f⟩ h
   ·rename_i x _; obtain ⟨a, b, c, e, f⟩ := hput o.dst (some x); exact fin ⟨a, b, c, e, [], by rw [f, D6]⟩ h
   ·cases h
   ·split at h
    ·split at h
     ·split at h
      ·split at h
       ·rename_i f _ _ _ _ _ _; cases hf : a1h P f with
        | false => rw [hf] at h; cases h
        | true => rw [hf] at h; exact fin (hputV _ _) h
       ·cases h
      ·cases h
     ·cases h
    ·cases h
def e8m {m : Mn E} {s : St E} {e : Env} {w : World} (r : Rel w0 G0 s m e w) {g : Operand} {f : Nat} {args : Array Operand} {ats : Array TypeId} {l : List (SV E)} {x : SV E} {d : Option Nat} {ty : TypeId} {pos : String} {af : Array Edge} (h1 : opd s g = some (.fn f [])) (h2 : b1m s args.toList = some l) (hp : Z.pc f l s = some x) (hf : a1h P f = true) (hN : okD N d = true) {rest : List Oper}
  (hk : ∀ m' v w', Up m m' -> RelH w0 G0 s m' w' -> RV m' x v -> WL P ops Q N rest (e.putO d v) w') : WL P ops Q N (⟨d, .call ⟨.value g, args, ats⟩, ty, pos, af, none⟩ :: rest) e w := by
 obtain ⟨vf, a1, cv, rfl, a2⟩ := d8 r h1
 have a2 : cv = _ := a2
 subst a2
 obtain ⟨vs, b1, b2, b3⟩ := a2g r h2
 have hc := Z.pcok f l s x hp w0 G0 m w vs r.toRelH (by rw [b2, a0z h2]) b3
 have hop := d9p (P := P) (N := N) (e := e) (w := w) (d := d) (ty := ty) (pos := pos) (af := af) (gd := none) (ats := ats) a1 hf b1 (by simpa using hc)
 rw [show args.toList.toArray = args from rfl] at hop
 refine x5 hN hop fun v w' ⟨m', u, rh, hv⟩ => hk m' v w' u rh hv
def e1q {rest : List Oper} (hj : a4s ops j = some k) : ∀ {l : List Oper} {s s1 : St E} {m : Mn E} {e : Env} {w : World}, evP F Z N l s = some s1 -> Rel w0 G0 s m e w -> (∀ o ∈ l, o.guard = some (j, q)) -> apart k l = true -> e k = some (.bool q) ->
  (∀ m' e' w', Up m m' -> Rel w0 G0 s1 m' e' w' -> (∀ t, t ∉ a1j l -> e' t = e t) -> WL P ops Q N rest e' w') -> WL P ops Q N (l ++ rest) e w
 | [], s, s1, m, e, w, h, r, _, _, _, hk => by simp only [evP, A3] at h; subst h; exact hk m e w (Up.refl m) r fun _ _ => rfl
 | ⟨d, op, ty, pos, af, gd⟩ :: l, s, s1, m, e, w, h, r, hg, ha, hb, hk => by
  obtain rfl : gd = some (j, q) := hg _ E7; unfold apart at ha; rw [N6, A7] at ha; have hdk : d ≠ some k := fun e => by subst e; have := ha.1; simp at this
  unfold evP at h; cases hdd : dOk d && okD N d with
  | false => simp only [hdd, B8] at h; cases h
  | true =>
   simp only [hdd, B5] at h; rw [A7] at hdd; obtain ⟨hd, hN⟩ := hdd; have next : ∀ s2 m2 v w2, Up m m2 -> Rel w0 G0 s2 m2 (e.putO d v) w2 -> evP F Z N l s2 = some s1 -> WL P ops Q N (l ++ rest) (e.putO d v) w2 := fun s2 m2 v w2 u2 r2 h2 =>
    e1q hj h2 r2 (fun o ho => hg o (D7 _ ho)) ha.2 ((a2v hdk).trans hb) fun m' e' w' u' r' he => hk m' e' w' (u2.trans u') r' fun t ht => (he t fun h => ht (a6o h)).trans (a2v fun h => ht (b0w h))
   show WL P ops Q N (⟨d, op, ty, pos, af, some (j, q)⟩ :: (l ++ rest)) e w; refine f4f hj hb ?_; split at h
   ·rename_i x hx; obtain ⟨v, h1, h2⟩ := a9n r hx; obtain ⟨m', u, r'⟩ := r.putV hd h1; exact a3b (h2 w (r.wdOp _) _ _ _ _ _) hN (next _ _ _ _ u r' h)
   ·rename_i b hx; exact a3b (a9n r hx w (r.wdOp _) _ _ _ _ _) hN (next _ _ _ _ (m.cmp_up b) (r.cmp hd) h)
   ·rename_i c x hx; obtain ⟨_, v, h1, h2⟩ := a9n r hx; exact a3b (h2 w (r.wdOp _) _ _ _ _ _) hN (next _ _ _ _ (Up.refl m) (r.put hd fun y hy => by cases hy; exact h1) h)
   ·cases h
   ·split at h
    ·rename_i c _; obtain ⟨cl, args, ats⟩ := c; simp only at h; split at h
     ·rename_i g; split at h
      ·rename_i f l' h1 h2; split at h
       ·rename_i x hp; cases hf : a1h P f with
        | false => rw [hf] at h; cases h
        | true =>
         rw [hf, B5] at h; refine e8m r h1 h2 hp hf hN fun m' v w' u rh hv => ?_
         obtain ⟨m2, u2, r2⟩ := (show Rel w0 G0 s m' e w' from ⟨rh, fun t y ht => by obtain ⟨v, g1, g2⟩ := r.sl t y ht; exact ⟨v, g1, g2.up u⟩⟩).putV (d := d) hd hv; exact next _ _ _ _ (u.trans u2) r2 h
       ·cases h
      ·cases h
     ·cases h
    ·cases h
def g2j {rest : List Oper} (hj : a4s ops j = some k) {q' : Bool} (hq : (q' == q) = false) {w : World} : ∀ {l : List Oper} {s s1 : St E} {e : Env}, evP (P := P) F Z N l s = some s1 -> (∀ o ∈ l, o.guard = some (j, q)) -> apart k l = true -> e k = some (.bool q') ->
  (∀ e', (∀ t, t ∉ a1j l -> e' t = e t) -> WL P ops Q N rest e' w) -> WL P ops Q N (l ++ rest) e w
 | [], s, s1, e, _, _, _, _, hk => hk e fun _ _ => rfl
 | ⟨d, op, ty, pos, af, gd⟩ :: l, s, s1, e, h, hg, ha, hb, hk => by
  obtain rfl : gd = some (j, q) := hg _ E7; unfold apart at ha; rw [N6, A7] at ha; have hdk : d ≠ some k := fun e => by subst e; have := ha.1; simp at this
  have next : ∀ {s2 : St E}, okD N d = true -> evP (P := P) F Z N l s2 = some s1 -> WL P ops Q N (⟨d, op, ty, pos, af, some (j, q)⟩ :: l ++ rest) e w := fun {s2} hN h2 =>
   d9k hj hb hq hN (g2j hj hq h2 (fun o ho => hg o (D7 _ ho)) ha.2 ((a2v hdk).trans hb) fun e' he => hk e' fun t ht => (he t fun h => ht (a6o h)).trans (a2v fun h => ht (b0w h)))
  unfold evP at h; cases hdd : dOk d && okD N d with
  | false => simp only [hdd, B8] at h; cases h
  | true =>
   simp only [hdd, B5] at h; rw [A7] at hdd; obtain ⟨hd, hN⟩ := hdd; split at h
   ·exact next hN h
   ·exact next hN h
   ·exact next hN h
   ·cases h
   ·split at h
    ·split at h
     ·split at h
      ·split at h
       ·rename_i f _ _ _ _ _ _; cases hf : a1h P f with
        | false => rw [hf] at h; cases h
        | true => rw [hf] at h; exact next hN h
       ·cases h
      ·cases h
     ·cases h
    ·cases h
def b5i : ∀ {l : List Oper} {p : PT (SV E)} {t : Nat} {x : SV E}, (∀ o ∈ l, dOk o.dst = true) -> (b9f l p).get t = some x -> p.get t = some x /\ t ∉ a1j l
 | [], p, t, x, _, h => ⟨h, by simp [a1j]⟩
 | o :: r, p, t, x, hd, h => by
  unfold b9f at h; obtain ⟨h1, h2⟩ := b5i (fun o ho => hd o (D7 _ ho)) h; unfold a1j; split at h1
  ·rename_i d hdd; have hlt : d + 1 < 2 ^ 12 := by
    have := hd o E7; rw [hdd] at this; have : d < 4000 := C2 this; exact Nat.lt_trans (Nat.succ_lt_succ this) (by decide : 4000 + 1 < 2 ^ 12)
   rw [PT.get_put _ _ _ _ _ hlt] at h1; by_cases htd : t = d
   ·rw [F8 htd] at h1; cases h1
   ·rw [F7 htd] at h1
    try rw [hdd]
    exact ⟨h1, fun h => by rcases D2.1 h with h | h; exact htd h; exact h2 h⟩
  ·rename_i hdd
   try rw [hdd]
   exact ⟨h1, h2⟩
def d4o : ∀ {l : List Oper} {s s1 : St E}, evP (P := P) F Z N l s = some s1 -> ∀ o ∈ l, dOk o.dst = true
 | [], _, _, _ => fun o h => by cases h
 | o :: r, s, s1, h => by
  unfold evP at h; cases hdd : dOk o.dst && okD N o.dst with
  | false => simp only [hdd, B8] at h; cases h
  | true =>
   simp only [hdd, B5] at h; rw [A7] at hdd; have fin : ∀ {s2 : St E}, evP (P := P) F Z N r s2 = some s1 -> ∀ x ∈ o :: r, dOk x.dst = true := fun h2 x hx => by
    rcases D2.1 hx with rfl | hx
    ·exact hdd.1
    ·exact d4o h2 x hx
   split at h
   ·exact fin h
   ·exact fin h
   ·exact fin h
   ·cases h
   ·split at h
    ·split at h
     ·split at h
      ·split at h
       ·rename_i f _ _ _ _ _ _; cases hf : a1h P f with
        | false => rw [hf] at h; cases h
        | true => rw [hf] at h; exact fin h
       ·cases h
      ·cases h
     ·cases h
    ·cases h
def Mn.bs_up (m : Mn E) (x : List Bool) : Up m { m with bs := m.bs ++ x } :=
 ⟨fun _ _ h => h, B9 _, fun _ _ => rfl, by simp, fun i hi => by unfold Mn.b; simp only []; rw [F4 hi], fun _ _ => rfl, fun _ _ => rfl, fun _ _ => rfl⟩
def d4p {s : St E} {m : Mn E} {e : Env} {w : World} (r : Rel w0 G0 s m e w) {x : Operand} {b : Bool} (h : e8l s x = some b) : opv e x = some (.bool b) := by
 unfold e8l at h
 split at h
 ·rename_i y hy; obtain ⟨v, h1, h2⟩ := d8 r hy; rw [<- r.bs] at h; rw [h1, a5o h h2]
 ·cases h
def f5g {s s' : St E} {m : Mn E} {e : Env} {w : World} (r : Rel w0 G0 s m e w) {id n : Nat} {l : List Oper} (hj : a4s ops j = some k) (hk : s.sl.get k = some (.bv id)) (h : mrg (P := P) F Z N s j q k id l = some (s', n))
  (hK : ∀ m' e' w', Up m m' -> Rel w0 G0 s' m' e' w' -> (∀ t, t ∉ a1j l -> e' t = e t) -> WL P ops Q N (l.drop (n + 1)) e' w') : WL P ops Q N l e w := by
 unfold mrg at h
 split at h
 ·rename_i o rest hsp; split at h
  ·rename_i c a b hgd hop; obtain ⟨d, op, ty, pos, af, gd⟩ := o; have hgd : gd = none := hgd; have hop : op = .pick (.tmp c) a b := hop; subst hgd hop; cases hc : Nat.beq c k && (dOk d && okD N d) && apart k (a6m j q l).1 with
   | false => simp only [hc, B8] at h; cases h
   | true =>
    simp only [hc, B5] at h; simp only [A7] at hc; obtain ⟨⟨c1, hd, hN⟩, c2⟩ := hc; obtain rfl := A8 c1; split at h
    ·rename_i s1 tq h1 h2; split at h
     ·rename_i B1 B0 h3 h4; simp only [A3, I4] at h; obtain ⟨rfl, rfl⟩ := h; obtain ⟨g1, g2⟩ := c8p (j := j) (q := q) l; rw [hsp] at g1; obtain ⟨v, hv1, hv2⟩ := r.sl _ _ hk; obtain ⟨_, hv2⟩ := d6 rfl hv2; have hm : m.b id = tq := by unfold Mn.b; rw [r.bs, h2]; rfl
      rw [hm] at hv2; subst hv2; obtain ⟨t1, t2, t3, t4, x, t5⟩ := e1p h1; have hdo := d4o h1; generalize hp : (a6m j q l).1 = p at *; have hl : l.drop (p.length + 1) = rest := by rw [g1, <- K6, N9]; rfl
      rw [hl] at hK; have hdl : ∀ t, t ∈ a1j p ∨ d = some t -> t ∈ a1j l := fun t h => by
       rw [g1]; rcases h with h | h
       ·exact e1o h
       ·exact c3b (b0w h)
      have fin : ∀ (m' : Mn E) (e' : Env) (w' : World), Up m m' -> RelH w0 G0 { s with bs := s1.bs } m' w' -> (∀ t, t ∉ a1j p -> e' t = e t) -> WL P ops Q N rest (e'.putO d (.bool (cond q (cond tq B1 B0) (cond tq B0 B1)))) w' := fun m' e' w' u rh he => by
       have r2 : Rel w0 G0 ({ s with bs := s1.bs, sl := b9f p s.sl } : St E) m' e' w' := ⟨⟨rh.bx, rh.n, rh.bs⟩, fun t y ht => by
        obtain ⟨q1, q2⟩ := b5i hdo ht; obtain ⟨v, v1, v2⟩ := r.sl t y q1; exact ⟨v, (he t q2).trans v1, v2.up u⟩⟩
       exact hK _ _ _ (u.trans (m'.cmp_up _)) (r2.cmp hd) fun t ht => (a2v fun h => ht (hdl t (.inr h))).trans (he t fun h => ht (hdl t (.inl h)))
      rw [g1]; by_cases hq : tq = q
      ·subst hq; refine e1q hj h1 r g2 c2 hv1 fun m' e' w' u r' he => ?_
       have hB := d4p r' h3; have hkk : opv e' (.tmp c) = some (.bool tq) := (he c fun h => by
        have : ∀ (p : List Oper), apart c p = true -> c ∉ a1j p := fun p => by
         induction p with
         | nil => simp [a1j]
         | cons o r ih =>
          intro ha; unfold apart at ha; rw [N6, A7] at ha; unfold a1j; split
          ·rename_i d' hd'; rw [hd'] at ha; intro h; rcases D2.1 h with rfl | h
           ·simp at ha
           ·exact ih ha.2 h
          ·exact ih ha.2
        exact this _ c2 h).trans hv1
       have rh : RelH w0 G0 { s with bs := s1.bs } m' w' := ⟨by
        obtain ⟨bl, L, hC, hB, hH⟩ := r'.bx; exact ⟨bl, L, hC, hB, by rw [t1] at hH; exact hH⟩, by rw [r'.n, t2], r'.bs⟩
       have hf := fin m' e' w' u rh he; cases tq with
       | true => exact a3b (c4t hkk hB) hN hf
       | false => exact a3b (c4u hkk hB) hN hf
      ·have hq' : (tq == q) = false := by cases tq <;> cases q <;> first | rfl | exact absurd rfl hq
       refine g2j (Q := Q) (w := w) hj hq' h1 g2 c2 hv1 fun e' he => ?_
       have r2 : Rel w0 G0 ({ s with sl := b9f p s.sl } : St E) m e' w := ⟨⟨r.bx, r.n, r.bs⟩, fun t y ht => by
        obtain ⟨q1, q2⟩ := b5i hdo ht; obtain ⟨v, v1, v2⟩ := r.sl t y q1; exact ⟨v, (he t q2).trans v1, v2⟩⟩
       have hB := d4p r2 h4; have hkk : opv e' (.tmp c) = some (.bool tq) := (he c fun h => by
        have : ∀ (p : List Oper), apart c p = true -> c ∉ a1j p := fun p => by
         induction p with
         | nil => simp [a1j]
         | cons o r ih =>
          intro ha; unfold apart at ha; rw [N6, A7] at ha; unfold a1j; split
          ·rename_i d' hd'; rw [hd'] at ha; intro h; rcases D2.1 h with rfl | h
           ·simp at ha
           ·exact ih ha.2 h
          ·exact ih ha.2
        exact this _ c2 h).trans hv1
       have u := m.bs_up x; have rh : RelH w0 G0 { s with bs := s1.bs } { m with bs := m.bs ++ x } w := ⟨by
        obtain ⟨bl, L, hC, hB, hH⟩ := r.bx; exact ⟨bl, L, hC, hB, hH.up u⟩, r.n, by show m.bs ++ x = s1.bs; rw [t5, r.bs]⟩
       have hf := fin _ e' w u rh he; cases tq <;> cases q
       ·exact absurd rfl hq
       ·exact a3b (c4u hkk hB) hN hf
       ·exact a3b (c4t hkk hB) hN hf
       ·exact absurd rfl hq
     ·cases h
    ·cases h
  ·cases h
 ·cases h
def c3c {call : j7 E} {N : Nat} {ops : Array Oper} {K : St E -> Prop} : ∀ (n : Nat) (l : List Oper) (s : St E), b3n (P := P) F Z call N ops n l s K -> b3n (P := P) F Z call N ops 0 (l.drop n) s K
 | 0, l, s, h => h
 | n + 1, [], s, h => by cases n <;> exact h
 | n + 1, o :: r, s, h => by unfold b3n at h; exact c3c n r s h
end
def e1r {l : List Oper} {t : Nat} : ∀ (n : Nat), t ∈ a1j (l.drop n) -> t ∈ a1j l := fun n h => by
 have := c3b (a := l.take n) h
 rwa [E6] at this
def c5o {call : j7 E} (hcall : a9q P w0 G0 call) : ∀ (l : List Oper) {s : St E} {m : Mn E} {e : Env} {w : World} {K : St E -> Prop}, Rel w0 G0 s m e w -> vcL F Z call N ops l s K ->
   (∀ s' m' e' w', Up m m' -> Rel w0 G0 s' m' e' w' -> (∀ t, t ∉ a1j l -> e' t = e t) -> K s' -> WL P ops Q N [] e' w') -> WL P ops Q N l e w
  | [], s, m, e, w, K, r, h, hk => hk s m e w (Up.refl m) r (fun _ _ => rfl) (by unfold vcL b3n at h; exact h)
  | ⟨d, op, ty, pos, af, gd⟩ :: l, s, m, e, w, K, r, h, hk => by
   unfold vcL b3n at h; cases hdd : dOk d && okD N d with
   | false => simp only [hdd, B8] at h
   | true =>
    simp only [hdd, B5] at h; rw [A7] at hdd; obtain ⟨hd, hN⟩ := hdd; have next : ∀ s' m' v w', Up m m' -> Rel w0 G0 s' m' (e.putO d v) w' -> vcL F Z call N ops l s' K -> WL P ops Q N l (e.putO d v) w' := fun s' m' v w' u r' h' => c5o hcall l r' h' fun s2 m2 e2 w2 u2 r2 he => hk s2 m2 e2 w2 (u.trans u2) r2 fun t ht => (he t fun h => ht (a6o h)).trans (a2v fun h => ht (b0w h))
    cases gd with
    | none => exact b9g hcall r h hd hN next
    | some g =>
     obtain ⟨j, q⟩ := g; simp only at h; split at h
     ·rename_i k hj; split at h
      ·rename_i hs; obtain ⟨v, h1, h2⟩ := r.sl _ _ hs; have h2 : v = _ := h2; subst h2; exact f4g hj h1 hN (next _ _ _ _ (Up.refl m) (r.put hd fun y hy => by cases hy; rfl) h)
      ·rename_i x _ hs; split at h
       ·rename_i s2 n hmr; unfold g2h at hmr; cases hmg : Z.mg with
        | false => rw [hmg] at hmr; cases hmr
        | true =>
         rw [hmg, B5] at hmr; split at hmr
         ·rename_i id _; cases hkn : s.kn.any (Nat.beq id) with
          | true => rw [hkn] at hmr; cases hmr
          | false =>
           rw [hkn, B8] at hmr; refine f5g (l := ⟨d, op, ty, pos, af, some (j, q)⟩ :: l) r hj hs hmr fun m' e' w' u r' he => ?_
           have h' := c3c n l s2 h; exact c5o hcall (l.drop n) r' h' fun s3 m3 e3 w3 u3 r3 he3 => hk s3 m3 e3 w3 (u.trans u3) r3 fun t ht => (he3 t fun hh => ht (a6o (e1r n hh))).trans (he t ht)
         ·cases hmr
       obtain ⟨v, h1, h2⟩ := r.sl _ _ hs; obtain ⟨p, s', hp, r', h'⟩ := b5g r h2 h; subst hp; cases p <;> cases q
       ·exact f4f hj h1 (b9g hcall r' h' hd hN next)
       ·exact d9k hj h1 rfl hN (next _ _ _ _ (Up.refl m) (r'.put hd fun y hy => by cases hy; rfl) h')
       ·exact d9k hj h1 rfl hN (next _ _ _ _ (Up.refl m) (r'.put hd fun y hy => by cases hy; rfl) h')
       ·exact f4f hj h1 (b9g hcall r' h' hd hN next)
      ·exact h.elim
     ·exact h.elim
 termination_by l => l.length
 decreasing_by all_goals (simp only [I3, H7]; omega)
end
variable {E : DE} {P : Program} {F : DF E} {Z : ZF P E} {w0 : World} {G0 : Gh}
def TR (m : Mn E) (T : List (Nat × Nat)) (K : Tk) : Prop := ∀ p ∈ K, (∀ w, Wd m none w -> p.2 w) ∨ ∃ k, (p.1, k) ∈ T /\ k < m.n /\ ∀ w, Wd m (some k) w -> p.2 w
def Wd.up {m m' : Mn E} (u : Up m m') {k : Option Nat} {w : World} (hk : ∀ j, k = some j -> j < m.n) (h : Wd m' k w) : Wd m k w :=
 ⟨fun b o hb => h.1 b o (u.g b o hb), fun j hj => by have := h.2 j hj; rw [u.r _ (hk j hj), u.o _ (hk j hj)] at this; exact this⟩
def TR.up {m m' : Mn E} (u : Up m m') {T : List (Nat × Nat)} {K : Tk} (h : TR m T K) : TR m' T K := fun p hp => by
 rcases h p hp with h1 | ⟨k, h1, h2, h3⟩
 ·exact .inl fun w hw => h1 w (hw.up u fun _ h => by cases h)
 ·exact .inr ⟨k, h1, C3 h2 u.n, fun w hw => h3 w (hw.up u fun j hj => by injection hj with hj; rw [<- hj]; exact h2)⟩
def HR.ver {m : Mn E} {k : Nat} : ∀ {h : List (Nat × Nat × HB E)} {bl : List Bx} {L : List (Nat × Obj)}, HR m h bl L -> (h.any fun x => Nat.beq x.2.1 k) = true -> (m.R k).Sublist bl /\ (m.O k).Sublist L
 | [], _, _, _, h => by cases h
 | (id, j, x) :: r, bl, L, ⟨bl', L', h1, h2, _, _, _, _, h7⟩, h => by
  simp only [List.any_cons, P2] at h; rcases h with h | h
  ·have := A8 h; subst this; rw [h1, h2]; exact ⟨P9 _ _, P9 _ _⟩
  ·obtain ⟨g1, g2⟩ := h7.ver h; rw [h1, h2]; exact ⟨g1.trans (N1 _ _), g2.trans (N1 _ _)⟩
def RelH.ver {s : St E} {m : Mn E} {w : World} (r : RelH w0 G0 s m w) {k : Nat} (h : (s.hp.any fun x => Nat.beq x.2.1 k) = true) : Wd m (some k) w := by
 obtain ⟨bl, L, hC, hB, hH⟩ := r.bx
 obtain ⟨h1, h2⟩ := hH.ver h
 refine ⟨hC.holds, fun j hj => ?_⟩
 injection hj with hj; subst hj
 exact ⟨fun y hy => (hB.at_ y (h1.subset hy)).1, fun y hy => (hC.held y (h2.subset hy)).1⟩
def TR.all {s : St E} {m : Mn E} {w : World} (r : RelH w0 G0 s m w) {T : List (Nat × Nat)} {K : Tk} (h : TR m T K) (hv : f5c s T = true) : K.all w := fun p hp => by
 rcases h p hp with h1 | ⟨k, h1, _, h3⟩
 ·exact h1 w r.wd0
 ·exact h3 w (r.ver (J6.1 hv _ h1))
def TR.keep {m : Mn E} {T : List (Nat × Nat)} {K : Tk} {A : List Nat} {i : Nat} (h : TR m T K) : TR m (T.filter fun p => !(A.getD i 0).testBit p.1) (K.keep A i) := fun p hp => by
 unfold Tk.keep at hp
 rw [H9] at hp
 rcases h p hp.1 with h1 | ⟨k, h1, h2⟩
 ·exact .inl h1
 ·exact .inr ⟨k, H9.2 ⟨h1, hp.2⟩, h2⟩
def f5h {s : St E} {m : Mn E} {w : World} (r : RelH w0 G0 s m w) {op : Op} {k : Nat} (h : dep s op = some k) : k < m.n := by
 have key : ∀ id, s.ver id = some k -> k < m.n := fun id h => by
  unfold St.ver at h; split at h
  ·rename_i hg; cases h; exact (r.wd hg).2.2.1
  ·cases h
 unfold dep at h
 split at h
 ·split at h
  ·exact key _ h
  ·exact key _ h
  ·exact key _ h
  ·cases h
 ·split at h
  ·exact key _ h
  ·cases h
 ·cases h
section
variable {l : List Oper} {A : List Nat} {Q : Act -> World -> Prop} {N n done done' i : Nat} {K : Tk} {s : St E} {m : Mn E} {e : Env} {w : World} {d : Option Nat} {op : Op} {ty : TypeId} {pos : String} {af : Array Edge}
def TR.cons (r : RelH w0 G0 s m w) {T : List (Nat × Nat)} (h : TR m T K) {Y : World -> Prop} (hY : ∀ w, Wd m (dep s op) w -> Y w) : TR m (tkE s i op T) ((i, Y) :: K) := fun p hp => by
 unfold tkE
 rcases D2.1 hp with rfl | hp
 ·cases hd : dep s op with
  | none => rw [hd] at hY; exact .inl hY
  | some k => rw [hd] at hY; exact .inr ⟨k, E7, f5h r hd, hY⟩
 ·rcases h p hp with h1 | ⟨k, h1, h2⟩
  ·exact .inl h1
  ·refine .inr ⟨k, ?_, h2⟩; split
   ·exact D7 _ h1
   ·exact h1
def d4q (r : Rel w0 G0 s m e w) {T : List (Nat × Nat)} (hT : TR m T K) {C : List (Nat × Nat) -> St E -> Prop} (h : e1e F Z s i d op T C) (hd : dOk d = true)
  (tk : ∀ v, j9 P N e w ⟨d, op, ty, pos, af, none⟩ v -> WD P l A Q N n done' ((i, fun w => j9 P N e w ⟨d, op, ty, pos, af, none⟩ v) :: K) (e.putO d v) w -> WD P l A Q N (n + 1) done K e w)
  (hk : ∀ s' m' T' K' v, Up m m' -> Rel w0 G0 s' m' (e.putO d v) w -> TR m' T' K' -> C T' s' -> WD P l A Q N n done' K' (e.putO d v) w) : WD P l A Q N (n + 1) done K e w := by
 unfold e1e at h
 split at h
 ·rename_i x hx; obtain ⟨v, h1, h2⟩ := a9n (N := N) r hx; obtain ⟨m', u, r'⟩ := r.putV hd h1; exact tk v (h2 w (r.wdOp _) _ _ _ _ _) (hk _ _ _ _ _ u r' ((hT.cons r.toRelH fun w hw => h2 w hw _ _ _ _ _).up u) h)
 ·rename_i b hx; have h2 := a9n (N := N) r hx; exact tk _ (h2 w (r.wdOp _) _ _ _ _ _) (hk _ _ _ _ _ (m.cmp_up b) (r.cmp hd) ((hT.cons r.toRelH fun w hw => h2 w hw _ _ _ _ _).up (m.cmp_up b)) h)
 ·rename_i c x hx; cases c with
  | false => rw [a8t] at h; exact h.elim
  | true =>
   rw [a6l] at h; obtain ⟨v, h1, h2⟩ := a9n (N := N) r hx rfl; exact tk v (h2 w (r.wdOp _) _ _ _ _ _) (hk _ _ _ _ _ (Up.refl m) (r.put hd fun y hy => by cases hy; exact h1) (hT.cons r.toRelH fun w hw => h2 w hw _ _ _ _ _) h)
 ·rename_i c x hx; obtain ⟨rfl, v, h1, h2⟩ := a9n (N := N) r hx; rw [a6l] at h; exact tk v (h2 w (r.wdOp _) _ _ _ _ _) (hk _ _ _ _ _ (Up.refl m) (r.put hd fun y hy => by cases hy; exact h1) (hT.cons r.toRelH fun w hw => h2 w hw _ _ _ _ _) h)
 ·exact h.elim
def c8q (r : Rel w0 G0 s m e w) {T : List (Nat × Nat)} (hT : TR m T K) {C : List (Nat × Nat) -> St E -> Prop} (h : c2y F Z s i d op T C) (hd : dOk d = true)
  (tk : ∀ v, j9 P N e w ⟨d, op, ty, pos, af, none⟩ v -> WD P l A Q N n done' ((i, fun w => j9 P N e w ⟨d, op, ty, pos, af, none⟩ v) :: K) (e.putO d v) w -> WD P l A Q N (n + 1) done K e w)
  (hk : ∀ s' m' T' K' v, Up m m' -> Rel w0 G0 s' m' (e.putO d v) w -> TR m' T' K' -> C T' s' -> WD P l A Q N n done' K' (e.putO d v) w) : WD P l A Q N (n + 1) done K e w := by
 unfold c2y at h
 split at h
 ·split at h
  ·rename_i x hx; obtain ⟨v, h1, h2⟩ := d8 r hx; obtain ⟨q, s', _, r', h'⟩ := b5g r h2 h; cases q <;> exact d4q r' hT h' hd tk hk
  ·exact h.elim
 ·exact d4q r hT h hd tk hk
def d8d (r : Rel w0 G0 s m e w) {T : List (Nat × Nat)} (hT : TR m T K) {C : List (Nat × Nat) -> St E -> Prop} {o : Oper} (hi : l[i]? = some o) (htk : tkB l A done i = true) (hd' : done ||| (1 <<< i) = done') (h : d1y F Z N l.toArray s i o T C)
  (hk : ∀ s' m' T' K' v, Up m m' -> Rel w0 G0 s' m' (e.putO o.dst v) w -> TR m' T' K' -> C T' s' -> WD P l A Q N n done' K' (e.putO o.dst v) w) : WD P l A Q N (n + 1) done K e w := by
 obtain ⟨d, op, ty, pos, af, gd⟩ := o
 unfold d1y at h
 cases hdd : dOk d && okD N d with
 | false => simp only [hdd, B8] at h
 | true =>
  simp only [hdd, B5] at h; rw [A7] at hdd; obtain ⟨hd, hN⟩ := hdd; cases gd with
  | none => exact c8q (ty := ty) (pos := pos) (af := af) r hT h hd (fun v hv hw => f4o i hi htk hd' hv hN hw) hk
  | some g =>
   obtain ⟨j, q⟩ := g; simp only at h; split at h
   ·rename_i k hj; split at h
    ·rename_i hs; obtain ⟨v, h1, h2⟩ := r.sl _ _ hs; have h2 : v = _ := h2; subst h2; exact f4p i hi htk hd' hj h1 hN (hk _ _ _ _ _ (Up.refl m) (r.put hd fun y hy => by cases hy; rfl) hT h)
    ·rename_i x _ hs; obtain ⟨v, h1, h2⟩ := r.sl _ _ hs; obtain ⟨p, s', hp, r', h'⟩ := b5g r h2 h; subst hp; have off : ∀ {b b' : Bool}, l[i]? = some ⟨d, op, ty, pos, af, some (j, b)⟩ -> e k = some (.bool b') -> (b' == b) = false -> C T (s'.put d (some .undef)) -> WD P l A Q N (n + 1) done K e w := fun hi hb hne h' =>
      g1y i hi htk hd' hj hb hne hN (hk _ _ _ _ _ (Up.refl m) (r'.put hd fun y hy => by cases hy; rfl) hT h')
     have on : ∀ {b : Bool}, l[i]? = some ⟨d, op, ty, pos, af, some (j, b)⟩ -> e k = some (.bool b) -> c2y F Z s' i d op T C -> WD P l A Q N (n + 1) done K e w := fun hi hb h' =>
      c8q (ty := ty) (pos := pos) (af := af) r' hT h' hd (fun v hv hw => e7z i hi htk hd' hj hb hv hN hw) hk
     cases p <;> cases q
     ·exact on hi h1 h'
     ·exact off hi h1 rfl h'
     ·exact off hi h1 rfl h'
     ·exact on hi h1 h'
    ·exact h.elim
   ·exact h.elim
def c8r {p : Nat -> Prop} : ∀ {l : List Nat}, f5d p l -> ∀ k ∈ l, p k
 | [], h, _, _ => h.elim
 | [k], h, j, hj => by rw [F3] at hj; subst hj; exact h
 | k :: k2 :: r, h, j, hj => by
  rcases D2.1 hj with rfl | hj
  ·exact h.1
  ·exact c8r h.2 j hj
def f5i {ks : List Nat} {T : Tk} (h : ∀ k ∈ ks, WD1 P l A Q N n done T e w k) : WDs P l A Q N n done T e w ks := by
 induction ks with
 | nil => trivial
 | cons k r ih => exact ⟨h k E7, ih fun j hj => h j (D7 _ hj)⟩
def d4r {o : Oper} {l : List Oper} {t : Nat} (h : o ∈ l) (ht : o.dst = some t) : t ∈ a1j l := by
 induction l with
 | nil => cases h
 | cons x r ih =>
  rcases D2.1 h with rfl | h
  ·exact b0w ht
  ·exact a6o (ih h)
def e1s {o : Oper} {l : List Oper} {t : Nat} (h : o ∈ l) (ht : t ∈ a1j [o]) : t ∈ a1j l := by
 unfold a1j at ht
 split at ht
 ·rename_i d hd; have : t = d := by simpa [a1j] using ht
  subst this; exact d4r h hd
 ·cases ht
end
def d1z {call : j7 E} (hcall : a9q P w0 G0 call) {l : List Oper} {A : List Nat} {Q : Act -> World -> Prop} {N : Nat} {C : St E -> Prop} {m0 : Mn E} {e0 : Env}
  (hk : ∀ s' m' e' w', Up m0 m' -> Rel w0 G0 s' m' e' w' -> (∀ t, t ∉ a1j l -> e' t = e0 t) -> C s' -> ∀ a, Fr N a e' -> Q a w') :
  ∀ (n done : Nat) (T : List (Nat × Nat)) (K : Tk) (s : St E) (m : Mn E) (e : Env) (w : World), Up m0 m -> Rel w0 G0 s m e w -> (∀ t, t ∉ a1j l -> e t = e0 t) -> TR m T K -> vcD F Z call N l A n done T s C -> WD P l A Q N n done K e w
 | 0, done, T, K, s, m, e, w, u, r, he, hT, h => by
  unfold vcD at h; cases hr : (a1x l done).isEmpty with
  | false => rw [hr] at h; exact h.elim
  | true => rw [hr] at h; exact e0c (List.isEmpty_iff.1 hr) (hk s m e w u r he h)
 | n + 1, done, T, K, s, m, e, w, u, r, he, hT, h => by
  unfold vcD at h; split at h
  ·rename_i hr; exact e0c hr (hk s m e w u r he h)
  ·rename_i k ks hr; split at h
   ·rename_i i hf; have hp := Z6 hf; rw [A7] at hp; split at h
    ·rename_i o ho; refine d8d r hT ho hp.2 rfl h fun s' m' T' K' v u' r' hT' hC => ?_
     exact d1z hcall hk n _ T' K' s' m' _ w (u.trans u') r' (fun t ht => (a2v fun hd => ht (d4r (I1 ho) hd)).trans (he t ht)) hT' hC
    ·exact h.elim
   ·refine g1z (k :: ks) hr rfl (f5i fun i hi => ?_); have hi' := c8r h i hi; split at hi'
    ·rename_i o ho; refine wd1 ho fun hG => c5o hcall [o] r hi' fun s' m' e' w' u' r' he' hC => ?_
     simp only at hC; cases hv : f5c s' (T.filter fun p => !(A.getD i 0).testBit p.1) with
     | false => rw [hv] at hC; exact hC.elim
     | true =>
      rw [hv] at hC; have hT' : TR m' _ (K.keep A i) := (hT.up u').keep; exact f4q hG rfl rfl (hT'.all r'.toRelH hv) (d1z hcall hk n _ _ _ s' m' e' w' (u.trans u') r' (fun t ht => (he' t fun h => ht (e1s (I1 ho) h)).trans (he t ht)) hT' hC)
    ·exact hi'.elim
variable {E : DE} {P : Program}
def EOk (m : Mn E) (x : Nat × Nat × HB E) : Prop := x.1 < m.n /\ x.2.1 < m.n /\ m.C x.2.1 = x.2.2 /\ HB1 m x.2.2 (m.ν x.1) (m.R x.2.1) (m.O x.2.1)
def EOk.up {m m' : Mn E} (u : Up m m') {x : Nat × Nat × HB E} (h : EOk m x) : EOk m' x := by
 obtain ⟨h1, h2, h3, h4⟩ := h
 exact ⟨C3 h1 u.n, C3 h2 u.n, (u.c _ h2).trans h3, by rw [u.ν _ h1, u.r _ h2, u.o _ h2]; exact h4.up u⟩
def HR.iff {m : Mn E} : ∀ {h : List (Nat × Nat × HB E)} {bl : List Bx} {L : List (Nat × Obj)}, HR m h bl L ↔ bl = h.flatMap (fun x => m.R x.2.1) /\ L = h.flatMap (fun x => m.O x.2.1) /\ ∀ x ∈ h, EOk m x
 | [], bl, L => by simp [HR]
 | (id, k, x) :: r, bl, L => by
  constructor
  ·rintro ⟨bl', L', h1, h2, h3, h4, h5, h6, h7⟩; obtain ⟨g1, g2, g3⟩ := HR.iff.1 h7; refine ⟨by rw [h1, g1]; rfl, by rw [h2, g2]; rfl, fun y hy => ?_⟩
   rcases D2.1 hy with rfl | hy
   ·exact ⟨h3, h4, h5, h6⟩
   ·exact g3 y hy
  ·rintro ⟨h1, h2, h3⟩; obtain ⟨g1, g2, g3, g4⟩ := h3 _ E7; exact ⟨_, _, h1, h2, g1, g2, g3, g4, HR.iff.2 ⟨rfl, rfl, fun y hy => h3 y (D7 _ hy)⟩⟩
def a1p {α β : Type} (f : α -> List β) {a b : List α} (h : a.Perm b) : (a.flatMap f).Perm (b.flatMap f) := by
 induction h with
 | nil => exact .refl _
 | cons x _ ih => simp only [L7]; exact ih.append_left _
 | swap x y l => simp only [L7, <- B6]; exact (List.perm_append_comm).append_right _
 | trans _ _ ih1 ih2 => exact ih1.trans ih2
def a7o {α : Type} {f : α -> Nat} : ∀ {a b : List α}, (a.map f).Nodup -> (∀ x ∈ a, x ∈ b) -> ∃ r, b.Perm (a ++ r)
 | [], b, _, _ => ⟨b, .refl _⟩
 | x :: t, b, hn, hs => by
  rw [C9, L5] at hn; obtain ⟨b1, b2, rfl⟩ := Y6 (hs x E7); have ht : ∀ y ∈ t, y ∈ b1 ++ b2 := fun y hy => by
   have := hs y (D7 _ hy); simp only [D4, D2] at this ⊢; rcases this with h | rfl | h
   ·exact .inl h
   ·exact (hn.1 (E1.2 ⟨_, hy, rfl⟩)).elim
   ·exact .inr h
  obtain ⟨r, hr⟩ := a7o hn.2 ht; exact ⟨r, List.perm_middle.trans (hr.cons x)⟩
def a4z {w0 w : World} {G0 G : Gh} {n : Nat} {bl b2 r1 : List Bx} {L L2 r2 : List (Nat × Obj)} (hC : Cx w0 G0 G w ⟨[], L⟩) (hB : Bxs G w n bl ⟨[], L⟩) (h1 : bl.Perm (b2 ++ r1)) (h2 : L.Perm (L2 ++ r2)) :
  Cx w0 G0 G w ⟨[], L2⟩ /\ Bxs G w n b2 ⟨[], L2⟩ := by
 have hl : ∀ x ∈ L2, x ∈ L := fun x hx => h2.symm.subset (J7 _ hx)
 have hb : ∀ x ∈ b2, x ∈ bl := fun x hx => h1.symm.subset (J7 _ hx)
 refine ⟨⟨hC.holds, hC.os, hC.tape, hC.output, hC.size, hC.old', hC.gle, hC.fresh, fun x hx => hC.held x (hl x hx), ?_⟩, ⟨fun x hx => hB.at_ x (hb x hx), ?_, fun x hx hm => ?_⟩⟩
 ·have := (h2.map (·.1)).nodup_iff.1 hC.hnd; rw [F5] at this; exact (P6.1 this).1
 ·have := (h1.map (·.1)).nodup_iff.1 hB.nodup; rw [F5] at this; exact (P6.1 this).1
 ·obtain ⟨y, hy, he⟩ := E1.1 hm; exact hB.apart x (hb x hx) (E1.2 ⟨y, hl y hy, he⟩)
inductive OwP where
  | sl (t : Nat)
  | bx (id i : Nat)
structure LH (E : DE) where
  ι : Type
  ks : List Nat
  sl : ι -> List (SV E)
  inv : ι -> Prop
  mu : ι -> Nat
  ow : List (OwP × Ty × Nat) := []
  ox : ι -> List (HB E) := fun _ => []
  hk : List Nat := []
  hc : ι -> List (HB E) := fun _ => []
def c2e : SV E -> Bool
 | .ptr _ _ => false
 | .own _ => false
 | .oel _ _ _ _ => false
 | .mp _ => false
 | .ifc _ _ _ => false
 | .stm _ => false
 | .vw _ _ => false
 | .otl _ _ _ => false
 | .vel _ _ _ _ => false
 | .vsl _ _ _ _ _ => false
 | .bv _ => false
 | .agg _ => false
 | .tup _ => false
 | .fn _ _ => false
 | .mth _ _ => false
 | .nxt => false
 | _ => true
def clo : SV E -> Bool
 | .agg l => l.all c2e
 | x => c2e x
def b9h (bs : List Bool) : SV E -> SV E
 | .bv id => match bs[id]? with | some q => .b q | none => .bv id
 | .lit q => .b q
 | x => x
def res (bs : List Bool) : SV E -> SV E
 | .agg l => .agg (l.map (b9h bs))
 | x => b9h bs x
def L.res {m : Mn E} {x : SV E} {v : Value} (h : L m x v) : L m (b9h m.bs x) v := by
 cases x <;> try exact h
 simp only [b9h]
 split
 ·rename_i q hq; obtain ⟨_, h⟩ := h; show v = .bool q; rw [h]; unfold Mn.b; rw [hq]; rfl
 ·exact h
def b5j {bs : List Bool} {x : SV E} : a2f (b9h bs x) = a2f x := by
 cases x <;> try rfl
 simp only [b9h]; split <;> rfl
def C1.res {m : Mn E} {x : SV E} {cs : List Value} (h : C1 m x cs) : C1 m (b9h m.bs x) cs := by
 cases hl : a2f x with
 | true =>
  obtain ⟨v, rfl, h1⟩ := h.leaf_ hl; exact a6i (by rw [b5j]; exact hl) h1.res
 | false => cases x <;> first | exact h | (cases hl; done)
def RC.res {m : Mn E} : ∀ {l : List (SV E)} {cs : List Value}, RC m l cs -> RC m (l.map (b9h m.bs)) cs
 | [], _, h => h
 | _ :: _, _, ⟨c1, c2, e, h1, h2⟩ => ⟨c1, c2, e, h1.res, h2.res⟩
def RV.res {m : Mn E} {x : SV E} {v : Value} (h : RV m x v) : RV m (res m.bs x) v := by
 cases hl : a2f x with
 | true =>
  have : Vz.res m.bs x = b9h m.bs x := by cases x <;> first | rfl | (cases hl; done)
  rw [this]; exact a0x (by rw [b5j]; exact hl) (d6 hl h).res
 | false =>
  cases x <;> first
   | exact h
   | (obtain ⟨cs, h1, h2⟩ := h; exact ⟨cs, h1, RC.res h2⟩)
   | (cases hl; done)
def L.clo {m m' : Mn E} (hg : GLe m.G m'.G) {x : SV E} {v : Value} (hc : c2e x = true) (h : L m x v) : L m' x v := by
 cases x <;> first
  | exact h
  | exact Sl.mono hg h
  | (obtain ⟨b, o, row, h1, h2, h3⟩ := h; exact ⟨b, o, row, h1, a4k.mono hg h2, Rp.mono hg h3⟩)
  | (cases hc; done)
def e8n : List Nat -> Nat -> Option Nat
 | [], _ => none
 | q :: r, x => bif Nat.beq q x then some 0 else match e8n r x with | some j => some (j + 1) | none => none
def b7j (qs : List Nat) : SV E -> Option (SV E)
 | .own q => match e8n qs q with | some j => some (.own j) | none => none
 | x => bif c2e x then some x else none
def e1t (qs : List Nat) : List (SV E) -> Option (List (SV E))
 | [] => some []
 | x :: r => match b7j qs x, e1t qs r with | some y, some l => some (y :: l) | _, _ => none
def loc (qs : List Nat) : SV E -> Option (SV E)
 | .agg l => match e1t qs l with | some k => some (.agg k) | none => none
 | x => b7j qs x
def b9i (b : Nat) : SV E -> SV E
 | .own j => .own (b + j)
 | x => x
def glo (b : Nat) : SV E -> SV E
 | .agg l => .agg (l.map (b9i b))
 | x => b9i b x
def b9j (b : Nat) : HB E -> HB E
 | .box T c => .box T (c.map (b9i b))
 | x => x
def locN (n0 : Nat) (qs : List Nat) : SV E -> Option (SV E)
 | .ptr id off => bif Nat.blt id n0 then some (.ptr id off) else none
 | .mp id => bif Nat.blt id n0 then some (.mp id) else none
 | x => b7j qs x
def c8s (n0 : Nat) (qs : List Nat) : List (SV E) -> Option (List (SV E))
 | [] => some []
 | x :: r => match locN n0 qs x, c8s n0 qs r with | some y, some l => some (y :: l) | _, _ => none
def c5p (n0 : Nat) (s : St E) (qs : List Nat) : HB E -> Option (HB E)
 | .box T c => match c8s n0 qs (c.map fun x => b9h s.bs (b7i s.hp x)) with | some k => some (.box T k) | none => none
 | .arr t e xs => some (.arr t e xs)
 | .map k v xs => some (.map k v xs)
 | .itr mid ver kt k left => bif Nat.blt mid n0 && Nat.blt ver n0 then some (.itr mid ver kt k left) else none
 | .cur mid ver kt k x left => bif Nat.blt mid n0 && Nat.blt ver n0 then some (.itr mid ver kt k left) else none
 | _ => none
def c8t : ∀ {qs : List Nat} {x j : Nat}, e8n qs x = some j -> qs[j]? = some x
 | [], _, _, h => by cases h
 | q :: r, x, j, h => by
  unfold e8n at h; cases hb : Nat.beq q x with
  | true =>
   rw [hb] at h; simp only [B5, A3] at h; subst h; rw [A8 hb]; rfl
  | false =>
   rw [hb] at h; simp only [B8] at h; split at h
   ·rename_i k hk; cases h; have := c8t hk; simpa using this
   ·cases h
structure Nm (m m' : Mn E) (b : Nat) (qs : List Nat) : Prop where
  g : GLe m'.G m.G
  q : ∀ j q, qs[j]? = some q -> b + j < m.n /\ m.ν (b + j) = m'.ν q
  l : b <= m.n /\ ∀ i, i < b -> m.ν i = m'.ν i /\ m.O i = m'.O i
def L.loc {m m' : Mn E} {b : Nat} {qs : List Nat} (n : Nm m m' b qs) {x y : SV E} {v : Value} (h : b7j qs x = some y) (hv : L m' x v) : L m (b9i b y) v := by
 unfold b7j at h
 split at h
 ·split at h
  ·rename_i q j hj; cases h; obtain ⟨h1, h2⟩ := n.q _ _ (c8t hj); obtain ⟨_, h3, h4⟩ := hv; exact ⟨h1, by rw [h2]; exact h3, by rw [h2]; exact h4⟩
  ·cases h
 ·rename_i hx; cases hc : c2e x with
  | false => rw [hc] at h; cases h
  | true =>
   rw [hc] at h; simp only [B5, A3] at h; subst h; have : b9i b x = x := by cases x <;> first | rfl | (cases hc; done)
   rw [this]; exact hv.clo n.g hc
def c3d {qs : List Nat} {b : Nat} {x y : SV E} (h : b7j qs x = some y) : a2f (b9i b y) = a2f x := by
 unfold b7j at h
 split at h
 ·split at h
  ·cases h; rfl
  ·cases h
 ·cases hc : c2e x with
  | false => rw [hc] at h; cases h
  | true =>
   rw [hc] at h; simp only [B5, A3] at h; subst h; cases x <;> rfl
def C1.loc {m m' : Mn E} {b : Nat} {qs : List Nat} (n : Nm m m' b qs) {x y : SV E} {cs : List Value} (h : b7j qs x = some y) (hv : C1 m' x cs) : C1 m (b9i b y) cs := by
 cases hl : a2f x with
 | true =>
  obtain ⟨v, rfl, h1⟩ := hv.leaf_ hl; exact a6i (by rw [c3d h]; exact hl) (L.loc n h h1)
 | false =>
  cases x <;> first
   | (cases hl; done)
   | (simp [b7j, c2e] at h; done)
   | (simp only [b7j, c2e, B5, A3] at h; subst h; first | exact hv | (obtain ⟨_, _, hf⟩ := hv; cases hf; done))
def RC.loc {m m' : Mn E} {b : Nat} {qs : List Nat} (n : Nm m m' b qs) : ∀ {l k : List (SV E)} {cs : List Value}, e1t qs l = some k -> RC m' l cs -> RC m (k.map (b9i b)) cs
 | [], k, cs, h, hv => by simp only [e1t, A3] at h; subst h; exact hv
 | x :: l, k, cs, h, ⟨c1, c2, e, h1, h2⟩ => by
  simp only [e1t] at h; split at h
  ·rename_i y r hy hr; cases h; exact ⟨c1, c2, e, C1.loc n hy h1, RC.loc n hr h2⟩
  ·cases h
def C1.locN {m m' : Mn E} {b n0 : Nat} (hn0 : n0 <= b) {qs : List Nat} (n : Nm m m' b qs) {x y : SV E} {cs : List Value} (h : locN n0 qs x = some y) (hv : C1 m' x cs) : C1 m (b9i b y) cs := by
 unfold Vz.locN at h
 split at h
 ·rename_i id off; cases hb : Nat.blt id n0 with
  | false => rw [hb] at h; cases h
  | true =>
   rw [hb] at h; simp only [B5, A3] at h; subst h; have hlt : id < b := C3 (C2 hb) hn0; obtain ⟨v, rfl, _, b', o', h1, h2⟩ := hv.leaf_ rfl; exact a6i (x := .ptr id off) rfl ⟨C3 hlt n.l.1, b', o', by rw [(n.l.2 id hlt).1]; exact h1, h2⟩
 ·rename_i id; cases hb : Nat.blt id n0 with
  | false => rw [hb] at h; cases h
  | true =>
   rw [hb] at h; simp only [B5, A3] at h; subst h; have hlt : id < b := C3 (C2 hb) hn0; obtain ⟨v, rfl, _, h1, h2⟩ := hv.leaf_ rfl; exact a6i (x := .mp id) rfl ⟨C3 hlt n.l.1, by rw [(n.l.2 id hlt).1]; exact h1, by rw [(n.l.2 id hlt).1]; exact h2⟩
 ·exact C1.loc n h hv
def RC.locN {m m' : Mn E} {b n0 : Nat} (hn0 : n0 <= b) {qs : List Nat} (n : Nm m m' b qs) : ∀ {l k : List (SV E)} {cs : List Value}, c8s n0 qs l = some k -> RC m' l cs -> RC m (k.map (b9i b)) cs
 | [], k, cs, h, hv => by simp only [c8s, A3] at h; subst h; exact hv
 | x :: l, k, cs, h, ⟨c1, c2, e, h1, h2⟩ => by
  simp only [c8s] at h; split at h
  ·rename_i y r hy hr; cases h; exact ⟨c1, c2, e, C1.locN hn0 n hy h1, RC.locN hn0 n hr h2⟩
  ·cases h
def RV.loc {m m' : Mn E} {b : Nat} {qs : List Nat} (n : Nm m m' b qs) {x y : SV E} {v : Value} (h : Vz.loc qs x = some y) (hv : RV m' x v) : RV m (glo b y) v := by
 unfold Vz.loc at h
 split at h
 ·split at h
  ·rename_i l k hk; cases h; obtain ⟨cs, h1, h2⟩ := hv; exact ⟨cs, h1, RC.loc n hk h2⟩
  ·cases h
 ·rename_i hx; cases hl : a2f x with
  | true =>
   have h1 := L.loc n h (d6 hl hv); have h2 := c3d (b := b) h; rw [hl] at h2; have : glo b y = b9i b y := by cases y <;> first | rfl | (cases h2; done)
   rw [this]; exact a0x h2 h1
  | false =>
   cases x <;> first
    | (cases hl; done)
    | (exact (hx _ rfl).elim)
    | (simp [b7j, c2e] at h; done)
    | (simp only [b7j, c2e, B5, A3] at h; subst h; exact hv)
end Go.Vz
