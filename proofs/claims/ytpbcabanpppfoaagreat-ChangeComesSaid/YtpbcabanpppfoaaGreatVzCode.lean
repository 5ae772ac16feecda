/- Walks by reckoning: what is to be shown is enough: code. No condition. -/
import Derived.Test.YtpbcabanpppfoaaGreatVzHead
import Derived.Scope
import Derived.Control
set_option linter.all false
namespace Go.Vz
open Go Go.Gx
variable {E : DE} {P : Program} (F : DF E) (Z : ZF P E)
/-- What is told of a loop: it goes round so often at most; or what stays true. -/
inductive Hint (E : DE) where
  | unr (n : Nat)
  | inv (h : LH E)
  | joi (h : LH E)
  | dep (f : St E → Hint E)
def Hint.at_ (s : St E) : Option (Hint E) → Option (Hint E)
  | some (.dep f) => some (f s)
  | h => h
/-- What is in a slot; a number. -/
def slV (s : St E) (t : Nat) : SV E := match s.sl.get t with | some x => x | none => .undef
def slI (s : St E) (t : Nat) : Int := match slV s t with | .i _ n => n | _ => 0
/-- What an own slice holds. -/
def owH (s : St E) (t : Nat) : HB E := match slV s t with | .own id => (match hget s.hp id with | some (_, x) => x | none => .oth) | _ => .oth
def owI (s : St E) (t : Nat) : List Int := match owH s t with | .arr (.ik _) _ xs => xs | .arr .int _ xs => xs | _ => []
def writes : Code → List Nat
  | .region _ ops _ => dsts ops.toList
  | .seq a b => writes a ++ writes b
  | .cond _ a b => writes a ++ writes b
  | .block _ a => writes a
  | .loop a => writes a
  | .scope a => writes a
  | _ => []
def rid : Code → Nat
  | .region i _ _ => i
  | .seq a _ => rid a
  | .block _ a => rid a
  | _ => 0
/-- A loop may begin. -/
inductive Ent (h : LH E) (vs : List (SV E)) (os bs : List (HB E)) : Prop where
  | mk (i : h.ι) (hv : vs = h.sl i) (ho : os = h.ox i) (hb : bs = h.hc i) (hi : h.inv i)
/-- A round may end. -/
inductive Rnd (h : LH E) (i : h.ι) (vs : List (SV E)) (os bs : List (HB E)) : Prop where
  | mk (j : h.ι) (hv : vs = h.sl j) (ho : os = h.ox j) (hb : bs = h.hc j) (hi : h.inv j) (hm : h.mu j < h.mu i)
theorem wrap1 {k n : Nat} (h : k < n) (hn : n ≤ maxL) : IntKind.wrap .i64 ((k : Int) + 1) = ((k + 1 : Nat) : Int) := by
  unfold maxL at hn; rw [IntWalk.i64_in _ (by omega)]; omega
def rndP (s0 : St E) (qs : List Nat) (h : LH E) (i : h.ι) (s' : St E) : Prop := match nrm s' h.ow with
  | some s1 => match ldat s0.n s1 h with
    | some d => cond (frmOk (frm s0 qs h.hk) s1 d.qs h.hk) (Rnd h i d.vs d.os d.bs) False
    | none => False
  | none => False
def unrP (body : St E → (St E → Prop) → Prop) : Nat → St E → Prop
  | 0, _ => False
  | n + 1, s => body s (fun s' => unrP body n s')
/-- Both ways come to one state. -/
def joiP (s0 : St E) (qs : List Nat) (h : LH E) (s' : St E) : Prop := match nrm s' h.ow with
  | some s1 => match ldat s0.n s1 h with
    | some d => cond (frmOk (frm s0 qs h.hk) s1 d.qs h.hk) (Ent h d.vs d.os d.bs) False
    | none => False
  | none => False
/-- What is to be shown of a code. -/
def vc (H : Nat → Option (Hint E)) (call : CallH E) (N : Nat) (R : St E → Prop) : Code → St E → (St E → Prop) → (Nat → St E → Prop) → Prop
  | .skip, s, K, _ => K s
  | .region _ ops draw, s, K, _ => cond draw (cond (P.follows .mixedOrders && (ancOk (ancL ops.toList []) 0 ops.toList && Region.noSelect ops)) (vcD F Z call N ops.toList (ancL ops.toList []) ops.toList.length 0 [] s K) False) (vcL F Z call N ops ops.toList s K)
  | .seq a b, s, K, X => vc H call N R a s (fun s => vc H call N R b s K X) X
  | .cond c a b, s, K, X => match Hint.at_ s (H (rid a)) with
    | some (.joi h) => match nrm s h.ow with
      | some s0 => match ldat s0.n s0 h with
        | some d => match opd s0 c with
          | some x => cond (small (writes a ++ writes b) && (small h.ks && frmOk (frm s0 d.qs h.hk) s0 d.qs h.hk))
              (ask s0 x (fun s => vc H call N R a s (joiP s0 d.qs h) X) (fun s => vc H call N R b s (joiP s0 d.qs h) X) ∧
                ∀ i, h.inv i → K (head s0 d.qs h (writes a ++ writes b) i)) False
          | none => False
        | none => False
      | none => False
    | _ => match opd s c with
      | some x => ask s x (fun s => vc H call N R a s K X) (fun s => vc H call N R b s K X)
      | none => False
  | .block i a, s, K, X => vc H call N R a s K (fun j s => cond (Nat.beq j i) (K s) (X j s))
  | .exit i, s, _, X => X i s
  | .ret, s, _, _ => R s
  | .scope a, s, K, X => vc H call N R a s K X
  | .label _, s, K, _ => K s
  | .loop a, s, _, X => match Hint.at_ s (H (rid a)) with
    | some (.inv h) => match nrm s h.ow with
      | some s0 => match ldat s0.n s0 h with
        | some d => cond (small (writes a) && (small h.ks && frmOk (frm s0 d.qs h.hk) s0 d.qs h.hk)) (Ent h d.vs d.os d.bs ∧
            ∀ i, h.inv i → vc H call N R a (head s0 d.qs h (writes a) i) (rndP s0 d.qs h i) X) False
        | none => False
      | none => False
    | some (.unr n) => unrP (fun s K => vc H call N R a s K X) n s
    | _ => No (rid a)
  | _, _, _, _ => False
variable {F Z} {w0 : World} {G0 : Gh}
/-- What holds behind a code, by how it ends. -/
structure Out (w0 : World) (G0 : Gh) (Q : Exit → Act → World → Prop) (N : Nat) (m : Mn E) (e : Env) (wr : List Nat) (K R : St E → Prop) (X : Nat → St E → Prop) : Prop where
  k : ∀ s' m' e' w', Up m m' → Rel w0 G0 s' m' e' w' → (∀ t, t ∉ wr → e' t = e t) → K s' → ∀ a, Fr N a e' → Q .normal a w'
  x : ∀ i s' m' e' w', Up m m' → Rel w0 G0 s' m' e' w' → (∀ t, t ∉ wr → e' t = e t) → X i s' → ∀ a, Fr N a e' → Q (.exit i) a w'
  r : ∀ s' m' e' w', Up m m' → Rel w0 G0 s' m' e' w' → R s' → ∀ a, Fr N a e' → Q .ret a w'
theorem RC.setNil {m : Mn E} {n : Nat} (h : L m (.own n) (.slice none 0 0)) : ∀ {c : List (SV E)} {i : Nat} {cs : List Value}, RC m c cs → c[i]? = some .nils → RC m (c.set i (.own n)) cs
  | [], _, _, _, hi => by simp at hi
  | a :: c, 0, cs, ⟨c1, c2, e, h1, h2⟩, hi => by
    simp only [List.getElem?_cons_zero, Option.some.injEq] at hi; subst hi
    obtain ⟨v, rfl, hv⟩ := h1
    have hv : v = _ := hv
    subst hv
    exact ⟨_, c2, e, ⟨_, rfl, h⟩, h2⟩
  | a :: c, i + 1, cs, ⟨c1, c2, e, h1, h2⟩, hi => ⟨c1, c2, e, h1, RC.setNil h h2 (by simpa using hi)⟩
section
variable {s s' : St E} {m : Mn E} {e : Env} {w : World}
theorem nrm1_ok (r : Rel w0 G0 s m e w) {p : OwP} {t : Ty} {el : Nat} (h : nrm1 s p t el = some s') : ∃ m', Up m m' ∧ Rel w0 G0 s' m' e w := by
  unfold nrm1 at h
  split at h
  · simp only [Option.some.injEq] at h; subst h; exact ⟨m, Up.refl m, r⟩
  · rename_i ho
    obtain ⟨bl, Lo, hC, hB, hT⟩ := r.toRelH.new
    obtain ⟨u, r1⟩ := hT m.G w (.arr t el []) (.slice none 0 0) [] [] (GLe.refl _) hC hB ⟨none, rfl, rfl, Ow.nil_ _ _, Nat.zero_le _⟩
    have hn : ∀ v, v = Value.slice none 0 0 → L ((m.g m.G).add (.slice none 0 0) (.arr t el []) [] []) (SV.own s.n : SV E) v := fun v hv => by
      subst hv
      have : ((m.g m.G).add (.slice none 0 0) (.arr t el []) [] []).ν s.n = .slice none 0 0 := by rw [← r.n]; exact Mn.add_ν
      exact ⟨by simp [Mn.add, Mn.g, r.n], this.symm, none, 0, 0, this⟩
    split at h
    · rename_i k
      cases hk : Nat.blt k 4000 with
      | false => rw [hk] at h; cases h
      | true =>
        rw [hk] at h; simp only [cond_true, Option.some.injEq] at h; subst h
        have hlt : k + 1 < 2 ^ 12 := by have : k < 4000 := Nat.le_of_ble_eq_true hk; omega
        refine ⟨_, u, ⟨⟨r1.bx, r1.n, r1.bs⟩, fun q y hq => ?_⟩⟩
        simp only [St.put] at hq
        rw [PT.get_put _ _ _ _ _ hlt] at hq
        by_cases hqk : q = k
        · subst hqk
          rw [if_pos rfl] at hq
          simp only [Option.some.injEq] at hq; subst hq
          obtain ⟨v, h1, h2⟩ := r.sl _ _ (show s.sl.get q = some .nils from ho)
          exact ⟨v, h1, hn v h2⟩
        · rw [if_neg hqk] at hq
          obtain ⟨v, h1, h2⟩ := r.sl q y hq
          exact ⟨v, h1, h2.up u⟩
    · rename_i id i
      split at h
      · rename_i k T c hg
        split at h
        · rename_i hc
          simp only [Option.some.injEq] at h; subst h
          obtain ⟨_, _, _, ⟨b, cs, e1, e2, e3, e4⟩, _⟩ := r1.wd hg
          obtain ⟨p, q, A, B, hC2, hB2, hT2⟩ := r1.turn hg
          rw [e1, e2] at hB2
          rw [e2] at hC2
          obtain ⟨u2, r2⟩ := hT2 _ w (.box T (c.set i (.own s.n))) [(b, T, cs)] [] (GLe.refl _) hC2 hB2 ⟨b, cs, rfl, rfl, e3, RC.setNil (hn _ rfl) e4 hc⟩
          exact ⟨_, u.trans u2, r.mem (u.trans u2) r2 rfl⟩
        · cases h
      · cases h
  · cases h
theorem nrm_ok : ∀ {l : List (OwP × Ty × Nat)} {s s' : St E} {m : Mn E}, Rel w0 G0 s m e w → nrm s l = some s' → ∃ m', Up m m' ∧ Rel w0 G0 s' m' e w
  | [], s, s', m, r, h => by simp only [nrm, Option.some.injEq] at h; subst h; exact ⟨m, Up.refl m, r⟩
  | (p, t, el) :: l, s, s', m, r, h => by
    simp only [nrm] at h
    split at h
    · rename_i h1
      obtain ⟨m1, u1, r1⟩ := nrm1_ok r h1
      obtain ⟨m2, u2, r2⟩ := nrm_ok r1 h
      exact ⟨m2, u1.trans u2, r2⟩
    · cases h
end
theorem ldat_qs {n0 : Nat} {s : St E} {h : LH E} {d : LD E} (hd : ldat n0 s h = some d) : d.qs.length = h.ow.length ∧ ∀ id ∈ h.hk, ∃ x ∈ s.hp, x.1 = id := by
  unfold ldat at hd
  split at hd
  · rename_i qs hqs
    split at hd
    · rename_i oe hE vs hoe hhe hvs
      split at hd
      · simp only [Option.some.injEq] at hd; subst hd
        obtain ⟨h1, h2⟩ := entsOf_ok hhe
        refine ⟨qsOf_len hqs, fun id hid => ?_⟩
        rw [← h1] at hid
        obtain ⟨x, hx, hxi⟩ := List.mem_map.1 hid
        exact ⟨x, h2 x hx, hxi⟩
      · cases hd
    · cases hd
  · cases hd
theorem vc_ok {H : Nat → Option (Hint E)} {call : CallH E} {N : Nat} {R : St E → Prop} (hcall : CallOk P w0 G0 call) : ∀ (c : Code) {s : St E} {m : Mn E} {e : Env} {w : World} {Q : Exit → Act → World → Prop} {K : St E → Prop} {X : Nat → St E → Prop},
    Rel w0 G0 s m e w → vc F Z H call N R c s K X → Out w0 G0 Q N m e (writes c) K R X → WC P Q N c e w := by
  intro c
  induction c with
  | skip => intro s m e w Q K X r h o; exact wcSkip (o.k s m e w (Up.refl m) r (fun _ _ => rfl) h)
  | region i ops draw =>
    intro s m e w Q K X r h o
    cases draw with
    | true =>
      unfold vc at h
      simp only [cond_true] at h
      cases hg : P.follows .mixedOrders && (ancOk (ancL ops.toList []) 0 ops.toList && Region.noSelect ops) with
      | false => rw [hg] at h; exact h.elim
      | true =>
        rw [hg] at h
        simp only [Bool.and_eq_true] at hg
        obtain ⟨g1, g2, g3⟩ := hg
        obtain ⟨bl, L, hC, hB, hH⟩ := r.bx
        have := wcDrawS (P := P) (l := ops.toList) (Q := Q) (N := N) (e := e) (id := i) ops.toList.length (ancL ops.toList []) g1 g2 g3 rfl hC hB fun w' hC' hB' =>
          vcD_ok hcall (m0 := m) (e0 := e) (C := K) (fun s' m' e' w' u r' he hK => o.k s' m' e' w' u r' he hK) _ 0 [] [] s m e w' (Up.refl m) ⟨⟨⟨bl, L, hC', hB', hH⟩, r.n, r.bs⟩, r.sl⟩ (fun _ _ => rfl) (fun p hp => by cases hp) h
        exact this
    | false =>
      refine wcRegion (l := ops.toList) (vcL_ok hcall _ r h fun s' m' e' w' u r' he hK => wlNil (o.k s' m' e' w' u r' he hK))
  | seq a b iha ihb =>
    intro s m e w Q K X r h o
    refine wcSeq (iha r h ⟨fun s' m' e' w' u r' he hK => ?_, fun i s' m' e' w' u r' he hX => ?_, fun s' m' e' w' u r' hR => ?_⟩)
    · refine wcThen (ihb r' hK ⟨fun s2 m2 e2 w2 u2 r2 he2 h2 => o.k s2 m2 e2 w2 (u.trans u2) r2 (fun t ht => (he2 t fun h => ht (List.mem_append_right _ h)).trans (he t fun h => ht (List.mem_append_left _ h))) h2,
        fun i s2 m2 e2 w2 u2 r2 he2 h2 => o.x i s2 m2 e2 w2 (u.trans u2) r2 (fun t ht => (he2 t fun h => ht (List.mem_append_right _ h)).trans (he t fun h => ht (List.mem_append_left _ h))) h2,
        fun s2 m2 e2 w2 u2 r2 h2 => o.r s2 m2 e2 w2 (u.trans u2) r2 h2⟩)
    · exact o.x i s' m' e' w' u r' (fun t ht => he t fun h => ht (List.mem_append_left _ h)) hX
    · exact o.r s' m' e' w' u r' hR
  | cond c a b iha ihb =>
    intro s m e w Q K X r h o
    unfold vc at h
    split at h
    · rename_i hh _
      split at h
      · rename_i s0 hs0
        split at h
        · rename_i d hd
          split at h
          · rename_i x hx
            cases hsm : small (writes a ++ writes b) && (small hh.ks && frmOk (frm s0 d.qs hh.hk) s0 d.qs hh.hk) with
            | false => rw [hsm] at h; exact h.elim
            | true =>
              rw [hsm] at h
              obtain ⟨h, hnext⟩ := h
              rw [Bool.and_eq_true, Bool.and_eq_true] at hsm
              obtain ⟨hsmall, hks, hf0⟩ := hsm
              obtain ⟨m0, u0, r0⟩ := nrm_ok r hs0
              obtain ⟨hq0, hh0⟩ := ldat_qs hd
              obtain ⟨_, _, _, _, hH0⟩ := r0.bx
              have hE0 := (HR.iff.1 hH0).2.2
              have hhk : ∀ id ∈ hh.hk, id < m0.n := fun id hid => by obtain ⟨x, hx, rfl⟩ := hh0 id hid; exact (hE0 x hx).1
              have next : ∀ s2 m2 e2 w2, Up m0 m2 → Rel w0 G0 s2 m2 e2 w2 → (∀ t, t ∉ writes a ++ writes b → e2 t = e t) → joiP s0 d.qs hh s2 → ∀ a, Fr N a e2 → Q .normal a w2 := fun s2 m2 e2 w2 u2 r2 he2 hK => by
                unfold joiP at hK
                split at hK
                · rename_i s3 hs3
                  split at hK
                  · rename_i d' hd'
                    cases hf : frmOk (frm s0 d.qs hh.hk) s3 d'.qs hh.hk with
                    | false => rw [hf] at hK; exact hK.elim
                    | true =>
                      rw [hf] at hK
                      obtain ⟨i', f', l', b', v'⟩ := hK
                      obtain ⟨m3, u3, r3⟩ := nrm_ok r2 hs3
                      obtain ⟨m4, g4, u4, r4⟩ := head_ok (i := i') (wr := writes a ++ writes b) r0 (u2.trans u3) r3 he2 hd' hq0 hf f' l' b' hsmall hks hhk
                      exact o.k _ m4 e2 w2 (u0.trans u4) r4 he2 (hnext i' v')
                  · exact hK.elim
                · exact hK.elim
              obtain ⟨v, h1, h2⟩ := opd_ok r0 hx
              obtain ⟨q, s', hv, r', h'⟩ := ask_ok r0 h2 h
              subst hv
              cases q with
              | true => exact wcCondT h1 (iha r' h' ⟨fun s2 m2 e2 w2 u2 r2 he2 hK => next s2 m2 e2 w2 u2 r2 (fun t ht => he2 t fun h => ht (List.mem_append_left _ h)) hK, fun i s2 m2 e2 w2 u2 r2 he2 => o.x i s2 m2 e2 w2 (u0.trans u2) r2 fun t ht => he2 t fun h => ht (List.mem_append_left _ h), fun s2 m2 e2 w2 u2 => o.r s2 m2 e2 w2 (u0.trans u2)⟩)
              | false => exact wcCondF h1 (ihb r' h' ⟨fun s2 m2 e2 w2 u2 r2 he2 hK => next s2 m2 e2 w2 u2 r2 (fun t ht => he2 t fun h => ht (List.mem_append_right _ h)) hK, fun i s2 m2 e2 w2 u2 r2 he2 => o.x i s2 m2 e2 w2 (u0.trans u2) r2 fun t ht => he2 t fun h => ht (List.mem_append_right _ h), fun s2 m2 e2 w2 u2 => o.r s2 m2 e2 w2 (u0.trans u2)⟩)
          · exact h.elim
        · exact h.elim
      · exact h.elim
    split at h
    · rename_i x hx
      obtain ⟨v, h1, h2⟩ := opd_ok r hx
      obtain ⟨q, s', hv, r', h'⟩ := ask_ok r h2 h
      subst hv
      cases q with
      | true => exact wcCondT h1 (iha r' h' ⟨fun s2 m2 e2 w2 u2 r2 he2 => o.k s2 m2 e2 w2 u2 r2 fun t ht => he2 t fun h => ht (List.mem_append_left _ h), fun i s2 m2 e2 w2 u2 r2 he2 => o.x i s2 m2 e2 w2 u2 r2 fun t ht => he2 t fun h => ht (List.mem_append_left _ h), o.r⟩)
      | false => exact wcCondF h1 (ihb r' h' ⟨fun s2 m2 e2 w2 u2 r2 he2 => o.k s2 m2 e2 w2 u2 r2 fun t ht => he2 t fun h => ht (List.mem_append_right _ h), fun i s2 m2 e2 w2 u2 r2 he2 => o.x i s2 m2 e2 w2 u2 r2 fun t ht => he2 t fun h => ht (List.mem_append_right _ h), o.r⟩)
    · exact h.elim
  | block i a iha =>
    intro s m e w Q K X r h o
    refine wcBlock (iha r h ⟨fun s' m' e' w' u r' he hK => ?_, fun j s' m' e' w' u r' he hX => ?_, fun s' m' e' w' u r' hR => ?_⟩)
    · exact o.k s' m' e' w' u r' he hK
    · intro a ha
      cases hb : Nat.beq j i with
      | true =>
        rw [hb] at hX
        have := Nat.eq_of_beq_eq_true hb
        subst this
        have := o.k s' m' e' w' u r' he hX a ha
        simpa [Exit.inBlock] using this
      | false =>
        rw [hb] at hX
        have hne : j ≠ i := fun h => by rw [h, Nat.beq_refl] at hb; cases hb
        have := o.x j s' m' e' w' u r' he hX a ha
        simpa [Exit.inBlock, hne] using this
    · exact o.r s' m' e' w' u r' hR
  | exit i => intro s m e w Q K X r h o; exact wcExit (o.x i s m e w (Up.refl m) r (fun _ _ => rfl) h)
  | ret => intro s m e w Q K X r h o; exact wcRet (o.r s m e w (Up.refl m) r h)
  | loop a iha =>
    intro s m e w Q K X r h o
    unfold vc at h
    split at h
    · rename_i hh _
      split at h
      · rename_i s0 hs0
        split at h
        · rename_i d hd
          cases hsm : small (writes a) && (small hh.ks && frmOk (frm s0 d.qs hh.hk) s0 d.qs hh.hk) with
          | false => rw [hsm] at h; exact h.elim
          | true =>
            rw [hsm] at h
            obtain ⟨⟨i0, f0, l0, b0, v0⟩, hstep⟩ := h
            rw [Bool.and_eq_true, Bool.and_eq_true] at hsm
            obtain ⟨hsmall, hks, hf0⟩ := hsm
            obtain ⟨m0, u0, r0⟩ := nrm_ok r hs0
            obtain ⟨hq0, hh0⟩ := ldat_qs hd
            obtain ⟨_, _, _, _, hH0⟩ := r0.bx
            have hE0 := (HR.iff.1 hH0).2.2
            have hhk : ∀ id ∈ hh.hk, id < m0.n := fun id hid => by obtain ⟨x, hx, rfl⟩ := hh0 id hid; exact (hE0 x hx).1
            have first : ∃ m2 : Mn E, m2.G = m0.G ∧ Up m0 m2 ∧ Rel w0 G0 (head s0 d.qs hh (writes a) i0) m2 e w :=
              head_ok (i := i0) (wr := writes a) r0 (Up.refl m0) r0 (fun _ _ => rfl) hd hq0 hf0 f0 l0 b0 hsmall hks hhk
            obtain ⟨m1, g1, u1, r1⟩ := first
            refine wrInd (ι := hh.ι × Env) (fun p => hh.mu p.1)
              (fun p G w => hh.inv p.1 ∧ (∀ t, t ∉ writes a → p.2 t = e t) ∧ ∃ m2 : Mn E, m2.G = G ∧ Up m0 m2 ∧ Rel w0 G0 (head s0 d.qs hh (writes a) p.1) m2 p.2 w) (fun p => p.2) ?_ (i0, e) m1.G w ⟨v0, fun _ _ => rfl, m1, rfl, u1, r1⟩
            rintro ⟨i, ei⟩ G wi n IH ⟨hi, hei, mi, rfl, ui, ri⟩
            refine iha ri (hstep i hi) ⟨fun s2 m2 e2 w2 u2 r2 he2 hK => ?_, fun j s2 m2 e2 w2 u2 r2 he2 hX => ?_, fun s2 m2 e2 w2 u2 r2 hR => ?_⟩
            · unfold rndP at hK
              split at hK
              · rename_i s3 hs3
                split at hK
                · rename_i d' hd'
                  cases hf : frmOk (frm s0 d.qs hh.hk) s3 d'.qs hh.hk with
                  | false => rw [hf] at hK; exact hK.elim
                  | true =>
                    rw [hf] at hK
                    obtain ⟨i', f', l', b', v', lt'⟩ := hK
                    obtain ⟨m3, u3, r3⟩ := nrm_ok r2 hs3
                    obtain ⟨m4, g4, u4, r4⟩ := head_ok (i := i') (wr := writes a) r0 ((ui.trans u2).trans u3) r3 (fun t ht => (he2 t ht).trans (hei t ht)) hd' hq0 hf f' l' b' hsmall hks hhk
                    exact wrOf (IH (i', e2) m4.G w2 ⟨v', fun t ht => (he2 t ht).trans (hei t ht), m4, rfl, u4, r4⟩ lt')
                · exact hK.elim
              · exact hK.elim
            · exact o.x j s2 m2 e2 w2 ((u0.trans ui).trans u2) r2 (fun t ht => (he2 t ht).trans (hei t ht)) hX
            · exact o.r s2 m2 e2 w2 ((u0.trans ui).trans u2) r2 hR
        · exact h.elim
      · exact h.elim
    · rename_i k _
      refine wrInd (ι := Nat × St E × Env) (fun p => p.1)
        (fun p G w => unrP (fun s K => vc F Z H call N R a s K X) p.1 p.2.1 ∧ (∀ t, t ∉ writes a → p.2.2 t = e t) ∧ ∃ m2 : Mn E, m2.G = G ∧ Up m m2 ∧ Rel w0 G0 p.2.1 m2 p.2.2 w) (fun p => p.2.2) ?_ (k, s, e) m.G w ⟨h, fun _ _ => rfl, m, rfl, Up.refl m, r⟩
      rintro ⟨n, si, ei⟩ G wi n' IH ⟨hu, hei, mi, rfl, ui, ri⟩
      cases n with
      | zero => exact hu.elim
      | succ n =>
        refine iha ri hu ⟨fun s2 m2 e2 w2 u2 r2 he2 hK => ?_, fun j s2 m2 e2 w2 u2 r2 he2 hX => ?_, fun s2 m2 e2 w2 u2 r2 hR => ?_⟩
        · exact wrOf (IH (n, s2, e2) m2.G w2 ⟨hK, fun t ht => (he2 t ht).trans (hei t ht), m2, rfl, ui.trans u2, r2⟩ (Nat.lt_succ_self n))
        · exact o.x j s2 m2 e2 w2 (ui.trans u2) r2 (fun t ht => (he2 t ht).trans (hei t ht)) hX
        · exact o.r s2 m2 e2 w2 (ui.trans u2) r2 hR
    · exact h.elim
  | label l => intro s m e w Q K X r h o; exact fun a ha => wp_label (o.k s m e w (Up.refl m) r (fun _ _ => rfl) h a ha)
  | scope a iha =>
    intro s m e w Q K X r h o
    exact fun a ha => wp_scope_straight (iha (Q := Exit.noGoto Q) r h ⟨fun s' m' e' w' u r' he hK => o.k s' m' e' w' u r' he hK, fun j s' m' e' w' u r' he hX => o.x j s' m' e' w' u r' he hX, fun s' m' e' w' u r' hR => o.r s' m' e' w' u r' hR⟩ a ha)
  | _ => intro s m e w Q K X r h o; exact h.elim
end Go.Vz
