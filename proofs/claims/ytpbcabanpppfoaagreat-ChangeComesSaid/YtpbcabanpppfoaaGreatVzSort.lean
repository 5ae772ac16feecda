/- Walks by reckoning: promises of functions that but look: what lay there stays, and may be read ahead. No condition. -/
import Derived.Test.YtpbcabanpppfoaaGreatVzOnce
set_option linter.all false
namespace Go.Vz
open Go Go.Gx
variable {E : DE} {P : Program} (F : DF E) (Z : ZF P E)
def okL (s : St E) : Nat → Bool
  | 0 => true
  | k + 1 => (match hget s.hp k with | some (q, _) => Nat.beq q k | none => false) && okL s k
/-- A result, as data, where all lies as it lay. -/
def finL (c : OCon E) (s : St E) (x : SV E) : Option (CL E c.rsh) := match comps c.rsh x with
  | some l => match frzA s c.rsh l with
    | some s1 => bif okL s1 (c.es.length + 1) then shutA F s1.bs c.es [] c.rsh (l.map (rsv s1.hp)) else none
    | none => none
  | none => none
/-- It is kept, and but looks. -/
def OCon.looks (P : Program) (f : Nat) (c : OCon E) : Prop := ∀ (a : CL E c.ash) (e : EL E c.es) (w0 : World) (G0 : Gh) (m : Mn E) (w : World) (vs : List Value), c.holds a e → RelH w0 G0 (ocS F c e) m w → LV m (opnA F c.es (List.range c.es.length) c.ash a) vs →
  Calls P f vs.toArray w fun x w' => ∃ v, x = .returned v ∧ ∃ s' m' y, Up m m' ∧ RelH w0 G0 s' m' w' ∧ RV m' y v ∧ finL F c s' y = some (c.post a e).1
def lcRes (c : OCon E) (p : CL E c.rsh) : SV E := match opnA F c.es [] c.rsh p with
  | [x] => x
  | l => .tup l
def lconH (Λ : Nat → Option (OCon E)) (els : CallH E) : CallH E := fun f l s K => match Λ f with
  | some c => match ocPre F c s l with
    | some (s1, ρ, a, e) => cond (Nat.beq s1.hp.length (c.es.length + (frm s1 ρ []).length)) (match c.pre with
      | none => K s1 (lcRes F c (c.post a e).1)
      | some p => Pre (p a e) ∧ K s1 (lcRes F c (c.post a e).1)) (No f)
    | none => No f
  | none => els f l s K
theorem OCon.proveL {c : OCon E} {H : CL E c.ash → EL E c.es → Nat → Nat → Option (Hint E)} {call : CL E c.ash → EL E c.es → CallH E} (hc : ∀ a e, CallAll P (call a e)) {f : Nat} {T : Prop} (t : T)
    (h : T = (∀ a e, c.holds a e → inH F Z (H a e) (call a e) f (opnA F c.es (List.range c.es.length) c.ash a) (ocS F c e) (fun s x => finL F c s x = some (c.post a e).1)) := by kernel_rfl) : c.looks F P f := by
  replace h := h.mp t
  intro a e w0 G0 m w vs hp rh hv
  obtain ⟨g1, g2⟩ := LV_at hv
  exact inH_ok F Z (hc a e) w0 G0 f _ _ _ m w vs rh g1 (fun i x hi => by obtain ⟨v, h1, h2⟩ := g2 i x hi; exact ⟨v, h1, V1_RV h2⟩) (h a e hp)
variable {F}
theorem lcRes_ok {m : Mn E} {c : OCon E} {p : CL E c.rsh} {v : Value} {vs : List Value} (h : LV m (opnA F c.es [] c.rsh p) vs) (hv : (∃ x, c.rsh = [x] ∧ vs = [v]) ∨ (c.rsh.length ≠ 1 ∧ v = .tuple vs.toArray)) : RV m (lcRes F c p) v := by
  have hl := opnA_len (F := F) (es := c.es) (ρ := []) (x := p)
  unfold lcRes
  split
  · rename_i x hx
    rw [hx] at h
    rcases hv with ⟨y, h1, rfl⟩ | ⟨h1, _⟩
    · obtain ⟨u, us, e, g1, g2⟩ := h
      injection e with e1 e2
      subst e1
      exact V1_RV g1
    · rw [hx] at hl; exact (h1 (by simpa using hl.symm)).elim
  · rename_i hx
    rcases hv with ⟨y, h1, rfl⟩ | ⟨_, rfl⟩
    · obtain ⟨z, hz⟩ := List.length_eq_one_iff.1 (hl.trans (congrArg List.length h1))
      exact (hx z hz).elim
    · exact ⟨vs, rfl, h⟩
theorem okL_at {s : St E} : ∀ {k : Nat}, okL s k = true → ∀ j, j < k → ∃ x, hget s.hp j = some (j, x)
  | 0, _, j, h => absurd h (Nat.not_lt_zero j)
  | k + 1, hk, j, h => by
    unfold okL at hk
    rw [Bool.and_eq_true] at hk
    rcases Nat.lt_or_ge j k with h1 | h1
    · exact okL_at hk.2 j h1
    · obtain rfl : j = k := by omega
      have h2 := hk.1
      split at h2
      · rename_i q x hx
        obtain rfl := Nat.eq_of_beq_eq_true h2
        exact ⟨x, hx⟩
      · cases h2
theorem flat_range {α β : Type} {f : α → List β} {g : Nat → List β} {l : List α} (h : ∀ j x, l[j]? = some x → g j = f x) : (List.range l.length).flatMap g = l.flatMap f := by
  have : l.flatMap f = ((List.range l.length).map fun j => l[j]?).flatMap fun x => match x with | some x => f x | none => [] := by
    have e : ((List.range l.length).map fun j => l[j]?) = l.map some := by
      apply List.ext_getElem?
      intro i
      rw [List.getElem?_map, List.getElem?_map]
      rcases Nat.lt_or_ge i l.length with h1 | h1
      · rw [List.getElem?_range h1]; simp [List.getElem?_eq_getElem h1]
      · rw [List.getElem?_eq_none (by simpa using h1), List.getElem?_eq_none h1]; rfl
    rw [e, List.flatMap_map]
  rw [this, List.flatMap_map]
  refine List.flatMap_congr_ fun j hj => ?_
  have hj : j < l.length := by simpa using hj
  rw [List.getElem?_eq_getElem hj]
  exact h j _ (List.getElem?_eq_getElem hj)
/-- What the caller knows behind it. -/
theorem lookF_ok {w0 w w' : World} {G0 : Gh} {s s3 : St E} {m m3 : Mn E} {ρ : List Nat} {oe : List (Nat × Nat × HB E)} {c : OCon E} {cs : List (HB E)} (r : RelH w0 G0 s m w) (hoe : entsOf s ρ = some oe) (hk : ρ.length = c.es.length)
    (hn : nodB (ρ ++ (frm s ρ []).map fun x => x.1) = true) (hall : s.hp.Perm (oe ++ frm s ρ [])) (u : Up (m.sub oe cs (frm s ρ [])) m3) (r3 : RelH w0 G0 s3 m3 w') (ho : okL s3 (c.es.length + 1) = true) : RelH w0 G0 s (m.g m3.G) w' := by
  obtain ⟨o1, o2⟩ := entsOf_ok hoe
  have hl : oe.length = c.es.length := by rw [← hk, ← o1, List.length_map]
  obtain ⟨bl, L, hC, hB, hH⟩ := r.bx
  obtain ⟨eb, eL, hE⟩ := HR.iff.1 hH
  obtain ⟨bl3, L3, hC3, hB3, hH3⟩ := r3.bx
  obtain ⟨eb3, eL3, hE3⟩ := HR.iff.1 hH3
  -- the callee's entries, by name
  have hex : ∀ k, k ≤ c.es.length + 1 → ∃ es3 : List (Nat × Nat × HB E), es3.map (fun x => x.1) = List.range k ∧ es3.map (fun x => x.2.1) = List.range k ∧ ∀ x ∈ es3, x ∈ s3.hp := by
    intro k
    induction k with
    | zero => exact fun _ => ⟨[], rfl, rfl, fun x hx => by simp at hx⟩
    | succ k ih =>
      intro h
      obtain ⟨es3, h1, h2, h3⟩ := ih (by omega)
      obtain ⟨x, hx⟩ := okL_at ho k (by omega)
      refine ⟨es3 ++ [(k, k, x)], by simp [h1, List.range_succ], by simp [h2, List.range_succ], fun y hy => ?_⟩
      rcases List.mem_append.1 hy with hy | hy
      · exact h3 y hy
      · rw [List.mem_singleton] at hy; subst hy; exact hget_mem hx
  obtain ⟨es3, h1, h2, h3⟩ := hex _ (Nat.le_refl _)
  obtain ⟨rest, hperm⟩ := sub_perm (f := fun x : Nat × Nat × HB E => x.1) (a := es3) (b := s3.hp) (by rw [h1]; exact List.nodup_range) h3
  have p1 := flat_perm (fun x => m3.R x.2.1) hperm
  have p2 := flat_perm (fun x => m3.O x.2.1) hperm
  rw [List.flatMap_append] at p1 p2
  have q1 : es3.flatMap (fun x => m3.R x.2.1) = (oe ++ frm s ρ []).flatMap fun x => m.R x.2.1 := by
    have : es3.flatMap (fun x => m3.R x.2.1) = (List.range (c.es.length + 1)).flatMap m3.R := by rw [← h2, List.flatMap_map]
    rw [this, List.range_succ, List.flatMap_append, List.flatMap_append, ← hl]
    congr 1
    · refine (flat_range (f := fun x : Nat × Nat × HB E => m.R x.2.1) fun j x hj => ?_)
      have hlt := (List.getElem?_eq_some_iff.1 hj).1
      rw [u.r j (by show j < oe.length + 1; omega)]
      simp only [Mn.sub, hj]
    · rw [List.flatMap_singleton, u.r _ (by show oe.length < oe.length + 1; omega)]
      simp [Mn.sub]
  have q2 : es3.flatMap (fun x => m3.O x.2.1) = (oe ++ frm s ρ []).flatMap fun x => m.O x.2.1 := by
    have : es3.flatMap (fun x => m3.O x.2.1) = (List.range (c.es.length + 1)).flatMap m3.O := by rw [← h2, List.flatMap_map]
    rw [this, List.range_succ, List.flatMap_append, List.flatMap_append, ← hl]
    congr 1
    · refine (flat_range (f := fun x : Nat × Nat × HB E => m.O x.2.1) fun j x hj => ?_)
      have hlt := (List.getElem?_eq_some_iff.1 hj).1
      rw [u.o j (by show j < oe.length + 1; omega)]
      simp only [Mn.sub, hj]
    · rw [List.flatMap_singleton, u.o _ (by show oe.length < oe.length + 1; omega)]
      simp [Mn.sub]
  rw [q1] at p1
  rw [q2] at p2
  have s1 := flat_perm (fun x => m.R x.2.1) hall
  have s2 := flat_perm (fun x => m.O x.2.1) hall
  obtain ⟨hC2, hB2⟩ := mem_sub (b2 := bl) (L2 := L) hC3 hB3 (by rw [eb3, eb]; exact p1.trans (List.Perm.append_right _ s1.symm)) (by rw [eL3, eL]; exact p2.trans (List.Perm.append_right _ s2.symm))
  exact ⟨⟨bl, L, Cx.gcast hC2 rfl, Bxs.gcast hB2 rfl, hH.up (Mn.g_up (show GLe m.G m3.G from fun b o h => u.g b o h))⟩, r.n, r.bs⟩
theorem lconH_ok {Λ : Nat → Option (OCon E)} (hΛ : ∀ f c, Λ f = some c → c.looks F P f) {els : CallH E} (he : CallAll P els) : CallAll P (lconH F Λ els) := by
  intro w0 G0 f args s K m w vs rh hl hv h
  unfold lconH at h
  split at h
  · rename_i c hc
    split at h
    · rename_i s2 ρ a e hpre
      cases hln : Nat.beq s2.hp.length (c.es.length + (frm s2 ρ []).length) with
      | false => rw [hln] at h; exact h.elim
      | true =>
      rw [hln, cond_true] at h
      have hln := Nat.eq_of_beq_eq_true hln
      obtain ⟨hp, hK⟩ : c.holds a e ∧ K s2 (lcRes F c (c.post a e).1) := by
        unfold OCon.holds
        cases hpp : c.pre with
        | none => simp only [hpp] at h ⊢; exact ⟨trivial, h⟩
        | some p => simp only [hpp] at h ⊢; obtain ⟨⟨h1⟩, h2⟩ := h; exact ⟨h1, h2⟩
      unfold ocPre at hpre
      split at hpre
      · rename_i ρ' hρ
        split at hpre
        · rename_i s1 hs1
          split at hpre
          · rename_i s2' hs2
            split at hpre
            · rename_i oe hoe
              cases hn : nodB (ρ' ++ (frm s2' ρ' []).map fun x => x.1) with
              | false => rw [hn] at hpre; cases hpre
              | true =>
                rw [hn] at hpre
                simp only [cond_true] at hpre
                split at hpre
                · rename_i a' e' ha he'
                  simp only [Option.some.injEq, Prod.mk.injEq] at hpre
                  obtain ⟨rfl, rfl, rfl, rfl⟩ := hpre
                  have hk : ρ'.length = c.es.length := by have := rho_len hρ; simpa using this
                  obtain ⟨m1, u1, r1, _, _⟩ := frzA_ok rh hs1
                  obtain ⟨m2, u2, r2, _, _⟩ := frzE_ok r1 hs2
                  obtain ⟨n1, rS⟩ := sub_ok r2 hoe hn hk he'
                  obtain ⟨_, _, _, _, hH2⟩ := r2.bx
                  rw [← r2.bs] at ha
                  have hA := shutA_ok n1 ha (vs := vs) (by rw [List.length_map]; exact hl) fun i x hi => by
                    rw [List.getElem?_map] at hi
                    obtain ⟨y, hy, rfl⟩ := Option.map_eq_some_iff.1 hi
                    obtain ⟨v, h1, h2⟩ := hv i y hy
                    exact ⟨v, h1, ((h2.up u1).up u2).rsv hH2⟩
                  obtain ⟨o1, o2⟩ := entsOf_ok hoe
                  have hol : oe.length = c.es.length := by rw [← hk, ← o1, List.length_map]
                  obtain ⟨rest, hperm⟩ := sub_perm (f := fun x : Nat × Nat × HB E => x.1) (a := oe ++ frm s2' ρ' []) (b := s2'.hp) (by
                      rw [List.map_append, o1]; exact nodB_ok hn) (fun x hx => by
                      rcases List.mem_append.1 hx with hx | hx
                      · exact o2 x hx
                      · exact (List.mem_filter.1 hx).1)
                  have hrest : rest = [] := by
                    have := hperm.length_eq
                    rw [List.length_append, List.length_append] at this
                    exact List.length_eq_zero_iff.1 (by omega)
                  rw [hrest, List.append_nil] at hperm
                  refine Calls.mono (hΛ f c hc a' e' w0 G0 _ w vs hp rS hA) ?_
                  rintro x w' ⟨v, hx, s', m', y, u', r', hy, hfin⟩
                  unfold finL at hfin
                  split at hfin
                  · rename_i l hcomp
                    split at hfin
                    · rename_i s3 hs3
                      obtain ⟨m3, u3, r3, _, _⟩ := frzA_ok r' hs3
                      cases hok : okL s3 (c.es.length + 1) with
                      | false => rw [hok] at hfin; cases hfin
                      | true =>
                        rw [hok, cond_true] at hfin
                        have rb := lookF_ok r2 hoe hk hn hperm (u'.trans u3) r3 hok
                        obtain ⟨us, c1, c2, c3⟩ := comps_ok hcomp (hy.up u3)
                        obtain ⟨_, _, _, _, hH4⟩ := r3.bx
                        rw [← r3.bs] at hfin
                        have nn : NR m3 [] (m2.g m3.G) [] := ⟨fun _ _ h => h, fun j id h => by simp at h⟩
                        have hR := shutA_ok nn hfin (vs := us) (by rw [List.length_map]; exact c1) fun i x hi => by
                          rw [List.getElem?_map] at hi
                          obtain ⟨z, hz, rfl⟩ := Option.map_eq_some_iff.1 hi
                          obtain ⟨v, h1, h2⟩ := c2 i z hz
                          exact ⟨v, h1, h2.rsv hH4⟩
                        exact ⟨v, hx, _, _, _, (u1.trans u2).trans (Mn.g_up fun b o h => (u'.trans u3).g b o h), rb, lcRes_ok hR c3, hK⟩
                    · cases hfin
                  · cases hfin
                · cases hpre
            · cases hpre
          · cases hpre
        · cases hpre
      · cases hpre
    · exact h.elim
  · exact he w0 G0 f args s K m w vs rh hl hv h
/-- Calls: what but looks, what is of data, what turns entries, and what is walked in place. -/
def callsL (F : DF E) (Z : ZF P E) (Λ : Nat → Option (OCon E)) (Γ : Nat → Option (Con E)) (Δ : Nat → Option (OCon E)) (H : Nat → Nat → Option (Hint E)) : Nat → CallH E
  | 0 => lconH F Λ (conH F Γ (oconH F Δ noH))
  | n + 1 => lconH F Λ (conH F Γ (oconH F Δ (inH F Z H (callsL F Z Λ Γ Δ H n))))
/-- Promises that are kept. -/
def Looks (F : DF E) (P : Program) (Λ : Nat → Option (OCon E)) : Prop := ∀ f c, Λ f = some c → c.looks F P f
theorem Looks.nil : Looks F P fun _ => none := fun _ _ h => by cases h
theorem Looks.o {Λ : Nat → Option (OCon E)} (h : Looks F P Λ) {f : Nat} {c : OCon E} (hc : c.looks F P f) : Looks F P (addO Λ f c) := fun g c' hg => by
  unfold addO at hg
  cases hb : Nat.beq g f with
  | false => rw [hb] at hg; exact h g c' hg
  | true => rw [hb, cond_true] at hg; obtain rfl := Nat.eq_of_beq_eq_true hb; obtain rfl := Option.some.inj hg; exact hc
theorem callsL_ok {Z : ZF P E} {Λ : Nat → Option (OCon E)} (hΛ : Looks F P Λ) {Γ : Nat → Option (Con E)} {Δ : Nat → Option (OCon E)} (h : Kept F P Γ Δ) {H : Nat → Nat → Option (Hint E)} : ∀ n, CallAll P (callsL F Z Λ Γ Δ H n)
  | 0 => lconH_ok hΛ (conH_ok F h.g (oconH_ok F h.d noH_ok))
  | n + 1 => lconH_ok hΛ (conH_ok F h.g (oconH_ok F h.d (inH_ok F Z (callsL_ok hΛ h n))))
end Go.Vz

namespace Go.Vz
open Go Go.Gx
variable {E : DE} {P : Program} (F : DF E) (Z : ZF P E)
/-- What came out, by a name. -/
inductive Nmd {α : Type} (a : α) (K : α → Prop) : Prop where
  | mk (h : ∀ q, a = q → K q)
def oconG (Δ : Nat → Option (OCon E)) (els : CallH E) : CallH E := fun f l s K => match Δ f with
  | some c => match ocPre F c s l with
    | some (s1, ρ, a, e) => match c.pre with
      | none => Nmd (c.post a e) fun q => K (ocPost F c s1 ρ q.2) (ocRes F c s1 ρ q.1)
      | some p => Pre (p a e) ∧ Nmd (c.post a e) fun q => K (ocPost F c s1 ρ q.2) (ocRes F c s1 ρ q.1)
    | none => No f
  | none => els f l s K
def lconG (Λ : Nat → Option (OCon E)) (els : CallH E) : CallH E := fun f l s K => match Λ f with
  | some c => match ocPre F c s l with
    | some (s1, ρ, a, e) => cond (Nat.beq s1.hp.length (c.es.length + (frm s1 ρ []).length)) (match c.pre with
      | none => Nmd (c.post a e).1 fun q => K s1 (lcRes F c q)
      | some p => Pre (p a e) ∧ Nmd (c.post a e).1 fun q => K s1 (lcRes F c q)) (No f)
    | none => No f
  | none => els f l s K
variable {F}
theorem oconG_h {Δ : Nat → Option (OCon E)} {els : CallH E} {f : Nat} {l : List (SV E)} {s : St E} {K : St E → SV E → Prop} (h : oconG F Δ els f l s K) : oconH F Δ els f l s K := by
  unfold oconG at h
  unfold oconH
  cases hc : Δ f with
  | none => simp only [hc] at h ⊢; exact h
  | some c =>
    simp only [hc] at h ⊢
    cases hp : ocPre F c s l with
    | none => simp only [hp] at h; exact h.elim
    | some q =>
      obtain ⟨s1, ρ, a, e⟩ := q
      simp only [hp] at h ⊢
      cases hq : c.pre with
      | none => simp only [hq] at h ⊢; obtain ⟨h⟩ := h; exact h _ rfl
      | some p => simp only [hq] at h ⊢; obtain ⟨h1, ⟨h⟩⟩ := h; exact ⟨h1, h _ rfl⟩
theorem lconG_h {Λ : Nat → Option (OCon E)} {els : CallH E} {f : Nat} {l : List (SV E)} {s : St E} {K : St E → SV E → Prop} (h : lconG F Λ els f l s K) : lconH F Λ els f l s K := by
  unfold lconG at h
  unfold lconH
  cases hc : Λ f with
  | none => simp only [hc] at h ⊢; exact h
  | some c =>
    simp only [hc] at h ⊢
    cases hp : ocPre F c s l with
    | none => simp only [hp] at h; exact h.elim
    | some q =>
      obtain ⟨s1, ρ, a, e⟩ := q
      simp only [hp] at h ⊢
      cases hb : Nat.beq s1.hp.length (c.es.length + (frm s1 ρ []).length) with
      | false => rw [hb] at h; exact h.elim
      | true =>
        rw [hb] at h
        simp only [cond_true] at h ⊢
        cases hq : c.pre with
        | none => simp only [hq] at h ⊢; obtain ⟨h⟩ := h; exact h _ rfl
        | some p => simp only [hq] at h ⊢; obtain ⟨h1, ⟨h⟩⟩ := h; exact ⟨h1, h _ rfl⟩
theorem oconG_ok {Δ : Nat → Option (OCon E)} (hΔ : ∀ f c, Δ f = some c → c.ok F P f) {els : CallH E} (he : CallAll P els) : CallAll P (oconG F Δ els) :=
  fun w0 G0 f args s K m w vs rh hl hv h => oconH_ok F hΔ he w0 G0 f args s K m w vs rh hl hv (oconG_h h)
theorem lconG_ok {Λ : Nat → Option (OCon E)} (hΛ : ∀ f c, Λ f = some c → c.looks F P f) {els : CallH E} (he : CallAll P els) : CallAll P (lconG F Λ els) :=
  fun w0 G0 f args s K m w vs rh hl hv h => lconH_ok hΛ he w0 G0 f args s K m w vs rh hl hv (lconG_h h)
def callsG (F : DF E) (Z : ZF P E) (Λ : Nat → Option (OCon E)) (Γ : Nat → Option (Con E)) (Δ : Nat → Option (OCon E)) (H : Nat → Nat → Option (Hint E)) : Nat → CallH E
  | 0 => lconG F Λ (conH F Γ (oconG F Δ noH))
  | n + 1 => lconG F Λ (conH F Γ (oconG F Δ (inH F Z H (callsG F Z Λ Γ Δ H n))))
theorem callsG_ok {Z : ZF P E} {Λ : Nat → Option (OCon E)} (hΛ : Looks F P Λ) {Γ : Nat → Option (Con E)} {Δ : Nat → Option (OCon E)} (h : Kept F P Γ Δ) {H : Nat → Nat → Option (Hint E)} : ∀ n, CallAll P (callsG F Z Λ Γ Δ H n)
  | 0 => lconG_ok hΛ (conH_ok F h.g (oconG_ok h.d noH_ok))
  | n + 1 => lconG_ok hΛ (conH_ok F h.g (oconG_ok h.d (inH_ok F Z (callsG_ok hΛ h n))))
end Go.Vz

namespace Go.Vz
open Go Go.Gx
def swp (l : List Int) (j : Nat) : List Int := (l.set (j + 1) (l.getD j 0)).set j (l.getD (j + 1) 0)
def insJ : Nat → List Int → List Int
  | 0, l => l
  | j + 1, l => bif decide (l.getD (j + 1) 0 < l.getD j 0) then insJ j (swp l j) else l
def isI (l : List Int) : Nat → List Int
  | 0 => l
  | i + 1 => insJ (i + 1) (isI l i)
def isort (l : List Int) : List Int := isI l (l.length - 1)
theorem swp_at (p q : List Int) (y x : Int) : swp (p ++ y :: x :: q) p.length = p ++ x :: y :: q := by
  have e1 : (p ++ y :: x :: q).getD p.length 0 = y := by simp [List.getD_eq_getElem?_getD]
  have e2 : (p ++ y :: x :: q).getD (p.length + 1) 0 = x := by simp [List.getD_eq_getElem?_getD]
  unfold swp
  rw [e1, e2, List.set_append_right _ _ (by omega), List.set_append_right _ _ (by omega)]
  simp
theorem insJ_split : ∀ (n : Nat) (p : List Int) (x : Int) (q : List Int), p.length = n → ∃ p1 p2, p = p1 ++ p2 ∧ insJ n (p ++ x :: q) = p1 ++ x :: (p2 ++ q) ∧ (∀ y ∈ p2, x < y) ∧ (∀ y, p1.getLast? = some y → y ≤ x)
  | 0, p, x, q, h => by
    have : p = [] := List.length_eq_zero_iff.1 h
    subst this
    exact ⟨[], [], rfl, rfl, by simp, by simp⟩
  | n + 1, p, x, q, h => by
    obtain ⟨p', y, rfl⟩ : ∃ p' y, p = p' ++ [y] := ⟨p.dropLast, p.getLast (by intro e; subst e; simp at h), (List.dropLast_concat_getLast _).symm⟩
    have hp : p'.length = n := by simpa using h
    subst hp
    have e0 : p' ++ [y] ++ x :: q = p' ++ y :: x :: q := by simp
    have e1 : (p' ++ y :: x :: q).getD p'.length 0 = y := by simp [List.getD_eq_getElem?_getD]
    have e2 : (p' ++ y :: x :: q).getD (p'.length + 1) 0 = x := by simp [List.getD_eq_getElem?_getD]
    rw [e0]
    unfold insJ
    rw [e1, e2]
    by_cases hxy : x < y
    · simp only [hxy, decide_true, cond_true]
      rw [swp_at]
      obtain ⟨p1, p2, g1, g2, g3, g4⟩ := insJ_split p'.length p' x (y :: q) rfl
      refine ⟨p1, p2 ++ [y], by rw [g1, List.append_assoc], by rw [g2]; simp, ?_, g4⟩
      intro z hz
      rcases List.mem_append.1 hz with hz | hz
      · exact g3 z hz
      · rw [List.mem_singleton] at hz; rw [hz]; exact hxy
    · simp only [hxy, decide_false, cond_false]
      refine ⟨p' ++ [y], [], by simp, by simp, by simp, ?_⟩
      intro z hz
      simp at hz
      subst hz; omega
theorem insJ_perm : ∀ (n : Nat) (l : List Int), n < l.length → (insJ n l).Perm l := by
  intro n l h
  obtain ⟨p, x, q, rfl, hp⟩ : ∃ p x q, l = p ++ x :: q ∧ p.length = n := ⟨l.take n, l[n], l.drop (n + 1), by rw [List.getElem_cons_drop, List.take_append_drop], by rw [List.length_take]; omega⟩
  obtain ⟨p1, p2, g1, g2, _, _⟩ := insJ_split n p x q hp
  rw [g2, g1]
  have : (p1 ++ x :: (p2 ++ q)).Perm (x :: (p1 ++ (p2 ++ q))) := List.perm_middle
  refine this.trans ?_
  rw [List.append_assoc]
  have h2 : (p1 ++ (p2 ++ x :: q)).Perm (x :: (p1 ++ (p2 ++ q))) := by
    rw [← List.append_assoc, ← List.append_assoc]; exact List.perm_middle
  exact h2.symm
theorem isI_inv (l : List Int) : ∀ k, k < l.length → (isI l k).Perm l ∧ ((isI l k).take (k + 1)).Pairwise (· ≤ ·) ∧ (isI l k).drop (k + 1) = l.drop (k + 1)
  | 0, h => by
    refine ⟨.refl _, ?_, rfl⟩
    show (l.take 1).Pairwise _
    cases l with
    | nil => exact .nil
    | cons a l => simp
  | k + 1, h => by
    obtain ⟨h1, h2, h3⟩ := isI_inv l k (by omega)
    have hl : (isI l k).length = l.length := h1.length_eq
    obtain ⟨p, x, q, e, hp⟩ : ∃ p x q, isI l k = p ++ x :: q ∧ p.length = k + 1 := ⟨(isI l k).take (k + 1), (isI l k)[k + 1]'(by omega), (isI l k).drop (k + 2), by rw [List.getElem_cons_drop, List.take_append_drop], by rw [List.length_take]; omega⟩
    obtain ⟨p1, p2, g1, g2, g3, g4⟩ := insJ_split (k + 1) p x q hp
    have hps : p.Pairwise (· ≤ ·) := by
      rw [e, ← hp, List.take_left] at h2; exact h2
    show (insJ (k + 1) (isI l k)).Perm l ∧ ((insJ (k + 1) (isI l k)).take (k + 1 + 1)).Pairwise (· ≤ ·) ∧ (insJ (k + 1) (isI l k)).drop (k + 1 + 1) = l.drop (k + 1 + 1)
    refine ⟨(insJ_perm (k + 1) _ (by omega)).trans h1, ?_, ?_⟩
    · rw [e, g2]
      have hl2 : (p1 ++ x :: p2).length = k + 1 + 1 := by
        have := congrArg List.length g1; simp at this ⊢; omega
      rw [show p1 ++ x :: (p2 ++ q) = (p1 ++ x :: p2) ++ q by simp, ← hl2, List.take_left]
      rw [g1] at hps
      obtain ⟨a1, a2, a3⟩ := List.pairwise_append.1 hps
      refine List.pairwise_append.2 ⟨a1, List.pairwise_cons.2 ⟨fun y hy => Int.le_of_lt (g3 y hy), a2⟩, ?_⟩
      intro y hy z hz
      have hyx : y ≤ x := by
        cases hL : p1.getLast? with
        | none => rw [List.getLast?_eq_none_iff] at hL; subst hL; cases hy
        | some w =>
          have hw := g4 w hL
          obtain ⟨p1', rfl⟩ := List.getLast?_eq_some_iff.1 hL
          rcases List.mem_append.1 hy with hy | hy
          · exact Int.le_trans ((List.pairwise_append.1 a1).2.2 y hy w (by simp)) hw
          · rw [List.mem_singleton] at hy; rw [hy]; exact hw
      rcases List.mem_cons.1 hz with rfl | hz
      · exact hyx
      · exact a3 y hy z hz
    · rw [e, g2]
      have hl2 : (p1 ++ x :: p2).length = k + 1 + 1 := by
        have := congrArg List.length g1; simp at this ⊢; omega
      rw [show p1 ++ x :: (p2 ++ q) = (p1 ++ x :: p2) ++ q by simp, ← hl2, List.drop_left]
      rw [hl2]
      have h4 : (isI l k).drop (k + 2) = l.drop (k + 2) := by
        have := congrArg (List.drop 1) h3
        rw [List.drop_drop, List.drop_drop] at this
        simpa using this
      rw [e] at h4
      rw [← h4, show p ++ x :: q = (p ++ [x]) ++ q by simp, show k + 2 = (p ++ [x]).length by simp [hp], List.drop_left]
theorem isort_perm (l : List Int) : (isort l).Perm l := by
  cases l with
  | nil => exact .nil
  | cons a l => exact (isI_inv (a :: l) l.length (by simp)).1
theorem isort_sorted (l : List Int) : (isort l).Pairwise (· ≤ ·) := by
  cases l with
  | nil => exact .nil
  | cons a l =>
    have h := (isI_inv (a :: l) l.length (by simp)).2.1
    have hl : (isI (a :: l) l.length).length = l.length + 1 := (isI_inv (a :: l) l.length (by simp)).1.length_eq
    rw [List.take_of_length_le (by omega)] at h
    exact h
theorem isort_length (l : List Int) : (isort l).length = l.length := (isort_perm l).length_eq
theorem isort_eq {l k : List Int} (h : l.Perm k) : isort l = isort k :=
  List.Perm.eq_of_pairwise (le := (· ≤ ·)) (fun _ _ _ _ h1 h2 => Int.le_antisymm h1 h2) (isort_sorted l) (isort_sorted k) (((isort_perm l).trans h).trans (isort_perm k).symm)
theorem isort_uniq {l k : List Int} (h : l.Perm k) (hk : k.Pairwise (· ≤ ·)) : isort l = k :=
  List.Perm.eq_of_pairwise (le := (· ≤ ·)) (fun _ _ _ _ h1 h2 => Int.le_antisymm h1 h2) (isort_sorted l) hk ((isort_perm l).trans h)
end Go.Vz
