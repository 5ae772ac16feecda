/- Walks by reckoning: calls by promise, calls walked in place; a function keeps its promise. No condition. -/
import Derived.Test.YtpbcabanpppfoaaGreatVzPro
set_option linter.all false
namespace Go.Vz
open Go Go.Gx
variable {E : DE} {P : Program} (F : DF E) (Z : ZF P E)
def CallAll (P : Program) (call : CallH E) : Prop := ∀ (w0 : World) (G0 : Gh), CallOk P w0 G0 call
/-- Arguments, as slots. -/
def argsPT : Nat → List (SV E) → PT (SV E) → PT (SV E)
  | _, [], p => p
  | i, x :: r, p => argsPT (i + 1) r (p.put 12 i (some x))
theorem get_args : ∀ (l : List (SV E)) (i : Nat) (p : PT (SV E)) (t : Nat) (x : SV E), i + l.length < 4000 → (argsPT i l p).get t = some x → (∃ j, l[j]? = some x ∧ t = i + j) ∨ p.get t = some x
  | [], i, p, t, x, _, h => .inr h
  | y :: l, i, p, t, x, hl, h => by
    simp only [List.length_cons] at hl
    rcases get_args l (i + 1) _ t x (by omega) h with ⟨j, h1, h2⟩ | h1
    · exact .inl ⟨j + 1, by simpa using h1, by omega⟩
    · rw [PT.get_put _ _ _ _ _ (by omega)] at h1
      by_cases hti : t = i
      · rw [if_pos hti] at h1
        simp only [Option.some.injEq] at h1
        exact .inl ⟨0, by simp [h1], by omega⟩
      · rw [if_neg hti] at h1; exact .inr h1
/-- Calls by promise. -/
def conH (Γ : Nat → Option (Con E)) (els : CallH E) : CallH E := fun f l s K => match Γ f with
  | some c => match frzs s l with
    | some s1 => match shutVs F s1.bs c.ts (l.map (rsv s1.hp)) with
      | some a => match c.pre with | none => K s1 (outV F c.rt (c.ret a)) | some p => Pre (p a) ∧ K s1 (outV F c.rt (c.ret a))
      | none => No f
    | none => No f
  | none => els f l s K
theorem conH_ok {Γ : Nat → Option (Con E)} (hΓ : ∀ f c, Γ f = some c → c.ok P f) {els : CallH E} (he : CallAll P els) : CallAll P (conH F Γ els) := by
  intro w0 G0 f args s K m w vs rh hl hv h
  unfold conH at h
  split at h
  · rename_i c hc
    split at h
    · rename_i s1 hs1
      obtain ⟨m1, u1, rh1, _, _⟩ := frzs_ok rh hs1
      obtain ⟨_, _, _, _, hH1⟩ := rh1.bx
      split at h
      · rename_i a ha
        obtain ⟨hp, hK⟩ : c.holds a ∧ K s1 (outV F c.rt (c.ret a)) := by
          unfold Con.holds
          split at h
          · rename_i hp; rw [hp]; exact ⟨trivial, h⟩
          · rename_i hp; rw [hp]; obtain ⟨⟨h1⟩, h2⟩ := h; exact ⟨h1, h2⟩
        rw [← rh1.bs] at ha
        have hIs := shutVs_ok F ha (vs := vs) (by rw [List.length_map]; exact hl) fun i x hi => by
          rw [List.getElem?_map] at hi
          obtain ⟨y, hy, rfl⟩ := Option.map_eq_some_iff.1 hi
          obtain ⟨v, h1, h2⟩ := hv i y hy
          exact ⟨v, h1, (h2.up u1).rsv hH1⟩
        refine Calls.mono (hΓ f c hc a m1.G w vs rh1.holds hp hIs) ?_
        rintro e w' ⟨v, G', he, hk, hR⟩
        obtain ⟨bl, L, hC, hB, hH⟩ := rh1.bx
        have u : Up m1 (m1.g G') := Mn.g_up hk.gle
        exact ⟨v, he, s1, m1.g G', outV F c.rt (c.ret a), u1.trans u, ⟨⟨bl, L, hC.trans hk, hB.ext hk, hH.up u⟩, rh1.n, rh1.bs⟩, outV_ok (m := m1.g G') hR, hK⟩
      · exact h.elim
    · exact h.elim
  · exact he w0 G0 f args s K m w vs rh hl hv h
theorem comps_ok {m : Mn E} {rsh : List CS} {x : SV E} {l : List (SV E)} {v : Value} (h : comps rsh x = some l) (hv : RV m x v) : ∃ vs, l.length = vs.length ∧ (∀ (i : Nat) (y : SV E), l[i]? = some y → ∃ u, vs[i]? = some u ∧ RV m y u) ∧ ((∃ q, rsh = [q] ∧ vs = [v]) ∨ (rsh.length ≠ 1 ∧ v = .tuple vs.toArray)) := by
  unfold comps at h
  split at h
  · split at h
    · cases h
    · simp only [Option.some.injEq] at h; subst h
      refine ⟨[v], rfl, fun i y hi => ?_, .inl ⟨_, rfl, rfl⟩⟩
      cases i with
      | zero => simp at hi; subst hi; exact ⟨v, rfl, hv⟩
      | succ i => simp at hi
  · rename_i hr
    split at h
    · simp only [Option.some.injEq] at h; subst h
      obtain ⟨vs, rfl, h1⟩ := hv
      obtain ⟨g1, g2⟩ := LV_at h1
      refine ⟨vs, g1, fun i y hi => by obtain ⟨u, e1, e2⟩ := g2 i y hi; exact ⟨u, e1, V1_RV e2⟩, .inr ⟨fun h => ?_, rfl⟩⟩
      obtain ⟨z, hz⟩ := List.length_eq_one_iff.1 h
      exact hr z hz
    · cases h
theorem oconH_ok {Δ : Nat → Option (OCon E)} (hΔ : ∀ f c, Δ f = some c → c.ok F P f) {els : CallH E} (he : CallAll P els) : CallAll P (oconH F Δ els) := by
  intro w0 G0 f args s K m w vs rh hl hv h
  unfold oconH at h
  split at h
  · rename_i c hc
    split at h
    · rename_i s2 ρ a e hpre
      obtain ⟨hp, hK⟩ : c.holds a e ∧ K (ocPost F c s2 ρ (c.post a e).2) (ocRes F c s2 ρ (c.post a e).1) := by
        unfold OCon.holds
        split at h
        · exact ⟨trivial, h⟩
        · obtain ⟨⟨h1⟩, h2⟩ := h; exact ⟨h1, h2⟩
      unfold ocPre at hpre
      split at hpre
      · rename_i ρ' hρ
        split at hpre
        · rename_i s1 hs1
          split at hpre
          · rename_i s2' hs2
            split at hpre
            · rename_i oe hoe
              cases hn : nodB (ρ' ++ (frm s2' ρ' []).map fun x => x.1) with
              | false => rw [hn] at hpre; cases hpre
              | true =>
                rw [hn] at hpre
                simp only [cond_true] at hpre
                split at hpre
                · rename_i a' e' ha he'
                  simp only [Option.some.injEq, Prod.mk.injEq] at hpre
                  obtain ⟨rfl, rfl, rfl, rfl⟩ := hpre
                  have hk : ρ'.length = c.es.length := by have := rho_len hρ; simpa using this
                  obtain ⟨m1, u1, r1, _, _⟩ := frzA_ok rh hs1
                  obtain ⟨m2, u2, r2, _, _⟩ := frzE_ok r1 hs2
                  obtain ⟨n1, rS⟩ := sub_ok r2 hoe hn hk he'
                  obtain ⟨_, _, _, _, hH2⟩ := r2.bx
                  rw [← r2.bs] at ha
                  have hA := shutA_ok n1 ha (vs := vs) (by rw [List.length_map]; exact hl) fun i x hi => by
                    rw [List.getElem?_map] at hi
                    obtain ⟨y, hy, rfl⟩ := Option.map_eq_some_iff.1 hi
                    obtain ⟨v, h1, h2⟩ := hv i y hy
                    exact ⟨v, h1, ((h2.up u1).up u2).rsv hH2⟩
                  refine Calls.mono (hΔ f c hc a' e' w0 G0 _ w vs hp rS hA) ?_
                  rintro x w' ⟨v, hx, s', m', y, u', r', hy, hfin⟩
                  unfold finO at hfin
                  split at hfin
                  · rename_i l hcomp
                    split at hfin
                    · rename_i ρ3 hρ3
                      split at hfin
                      · rename_i s3 hs3
                        split at hfin
                        · rename_i s4 hs4
                          split at hfin
                          · rename_i oe3 q hoe3 hot
                            cases hc2 : nodB (ρ3 ++ [c.es.length]) && (Nat.beq q c.es.length && fixB c.es.length c.pes ρ3 0) with
                            | false => rw [hc2] at hfin; cases hfin
                            | true =>
                              rw [hc2] at hfin
                              simp only [cond_true] at hfin
                              rw [Bool.and_eq_true, Bool.and_eq_true] at hc2
                              obtain ⟨d1, d2, d3⟩ := hc2
                              have := Nat.eq_of_beq_eq_true d2
                              subst this
                              split at hfin
                              · rename_i pa pe hpa hpe
                                simp only [Option.some.injEq] at hfin
                                obtain ⟨m3, u3, r3, _, _⟩ := frzA_ok r' hs3
                                obtain ⟨m4, u4, r4, _, _⟩ := frzE_ok r3 hs4
                                obtain ⟨b1, b2, b3⟩ := back_ok r2 hoe hk ((u'.trans u3).trans u4) r4 hoe3 hot d1 d3 hpe
                                obtain ⟨us, c1, c2, c3⟩ := comps_ok hcomp ((hy.up u3).up u4)
                                obtain ⟨_, _, _, _, hH4⟩ := r4.bx
                                rw [← r4.bs] at hpa
                                have hR := shutA_ok b2 hpa (vs := us) (by rw [List.length_map]; exact c1) fun i x hi => by
                                  rw [List.getElem?_map] at hi
                                  obtain ⟨z, hz, rfl⟩ := Option.map_eq_some_iff.1 hi
                                  obtain ⟨v, h1, h2⟩ := c2 i z hz
                                  exact ⟨v, h1, h2.rsv hH4⟩
                                have e1 : (c.post a' e').1 = pa := by rw [← hfin]
                                have e2 : (c.post a' e').2 = pe := by rw [← hfin]
                                rw [e1, e2] at hK
                                exact ⟨v, hx, _, _, _, (u1.trans u2).trans b1, b3, ocRes_ok hR c3, hK⟩
                              · cases hfin
                          · cases hfin
                        · cases hfin
                      · cases hfin
                    · cases hfin
                  · cases hfin
                · cases hpre
            · cases hpre
          · cases hpre
        · cases hpre
      · cases hpre
    · exact h.elim
  · exact he w0 G0 f args s K m w vs rh hl hv h
def noH : CallH E := fun f _ _ _ => No f
theorem noH_ok : CallAll P (noH : CallH E) := fun _ _ _ _ _ _ _ _ _ _ _ _ h => h.elim
/-- A call that is walked in place. -/
def inH (H : Nat → Nat → Option (Hint E)) (call : CallH E) : CallH E := fun f l s K => match P.funcs[f]? with
  | some fn => match fn.body with
    | some c => cond (Nat.ble l.length fn.ntmps && Nat.blt l.length 4000)
        (vc F Z (H f) call fn.ntmps (fun s' => match retSV P s' fn with | some x => K s' x | none => False) c { s with sl := argsPT 0 l .lf } (fun s' => cond (fn.results.isEmpty) (K s' (.tup [])) False) (fun _ _ => False)) False
    | none => False
  | none => False
theorem results_none {fn : Func} (h : fn.results.isEmpty = true) (a : Act) (w : World) : (results fn a.tmps).run P w = .ok (.tuple #[]) w := by
  rw [results_eq]
  have : fn.results = #[] := by simpa using h
  rw [this]; simp
theorem inH_ok {H : Nat → Nat → Option (Hint E)} {call : CallH E} (hc : CallAll P call) : CallAll P (inH F Z H call) := by
 intro w0 G0 f args s K m w vs rh hl hv h
 unfold inH at h
 split at h
 ·
  rename_i fn hfn
  split at h
  ·
   rename_i c hbody
   cases hb : Nat.ble args.length fn.ntmps && Nat.blt args.length 4000 with
   | false => rw [hb] at h; exact h.elim
   | true =>
    rw [hb] at h
    simp only [cond_true] at h
    rw [Bool.and_eq_true] at hb
    have h1 : args.length ≤ fn.ntmps := Nat.le_of_ble_eq_true hb.1
    have h2 : args.length < 4000 := Nat.le_of_ble_eq_true hb.2
    refine callsOfN (e := fun t => vs[t]?) hfn hbody fn.ntmps rfl ?_ (fun t v ht => by simpa using ht) ?_
    ·
     have : vs.toArray.size ≤ fn.ntmps := by simp; omega
     exact Nat.ble_eq_true_of_le this
    ·
     intro Q hr hn
     have r : Rel w0 G0 ({ s with sl := argsPT 0 args .lf } : St E) m (fun t => vs[t]?) w := ⟨⟨rh.bx, rh.n, rh.bs⟩, fun t x ht => by
      rcases get_args args 0 .lf t x (by omega) ht with ⟨j, g1, g2⟩ | g1
      ·
       obtain ⟨v, g3, g4⟩ := hv j x g1
       exact ⟨v, by rw [g2, Nat.zero_add]; exact g3, g4⟩
      ·
       cases g1⟩
     refine vc_ok (hc w0 G0) c r h ⟨fun s' m' e' w' u r' he hK => ?_, fun i s' m' e' w' u r' he hX => hX.elim, fun s' m' e' w' u r' hR => ?_⟩
     ·
      intro a ha
      cases he' : fn.results.isEmpty with
      | false => rw [he'] at hK; exact hK.elim
      | true =>
       rw [he'] at hK
       exact hn a w' _ (results_none he' a w') ha.df ⟨_, rfl, s', m', .tup [], u, r'.toRelH, ⟨[], rfl, rfl⟩, hK⟩
     ·
      intro a ha
      split at hR
      ·
       rename_i x hx
       obtain ⟨v, g1, g2⟩ := retSV_ok (P := P) r' hx
       exact hr a w' v (g2 _ a ha) ha.df ⟨v, rfl, s', m', x, u, r'.toRelH, g1, hR⟩
      ·
       exact hR.elim
  ·
   exact h.elim
 ·
  exact h.elim
/-- Calls by promise, else in place, so deep. -/
def calls (Γ : Nat → Option (Con E)) (Δ : Nat → Option (OCon E)) (H : Nat → Nat → Option (Hint E)) : Nat → CallH E
  | 0 => conH F Γ (oconH F Δ noH)
  | n + 1 => conH F Γ (oconH F Δ (inH F Z H (calls Γ Δ H n)))
/-- Promises that are kept. -/
structure Kept (P : Program) (Γ : Nat → Option (Con E)) (Δ : Nat → Option (OCon E)) : Prop where
  g : ∀ f c, Γ f = some c → c.ok P f
  d : ∀ f c, Δ f = some c → c.ok F P f
variable {F} in
theorem calls_ok {Γ : Nat → Option (Con E)} {Δ : Nat → Option (OCon E)} (hΓ : Kept F P Γ Δ) {H : Nat → Nat → Option (Hint E)} : ∀ n, CallAll P (calls F Z Γ Δ H n)
  | 0 => conH_ok F hΓ.g (oconH_ok F hΓ.d noH_ok)
  | n + 1 => conH_ok F hΓ.g (oconH_ok F hΓ.d (inH_ok F Z (calls_ok hΓ n)))
/-- A result, with what it is made of let stay, as data. -/
def finV (rt : List Ty) (s : St E) (x : SV E) : Option (HL E rt) := match x with
  | .tup l => match frzs s l with | some s1 => shutO F s1.bs rt (.tup (l.map fun x => res s1.bs (rsv s1.hp x))) | none => none
  | x => match frz s x with | some s1 => shutO F s1.bs rt (res s1.bs (rsv s1.hp x)) | none => none
/-- What is to be shown of a function, for a promise. -/
def Con.vc (c : Con E) (Γ : Nat → Option (Con E)) (Δ : Nat → Option (OCon E)) (H : HL E c.ts → Nat → Nat → Option (Hint E)) (n f : Nat) : Prop :=
  ∀ a, c.holds a → inH F Z (H a) (calls F Z Γ Δ (H a) n) f (opnVs F c.ts a) {} (fun s x => finV F c.rt s x = some (c.ret a))
theorem V1_leaf {m : Mn E} {x : SV E} {v : Value} (h : leaf x = true) (hv : L m x v) : V1 m x v := by
  cases x <;> first | exact hv | (cases h; done)
theorem V1_L {m : Mn E} {x : SV E} {v : Value} (h : leaf x = true) (hv : V1 m x v) : L m x v := by
  cases x <;> first | exact hv | (cases h; done)
theorem rsv_leaf {h : List (Nat × Nat × HB E)} {x : SV E} (hl : leaf x = true) : rsv h x = rsv1 h x ∧ leaf (rsv1 h x) = true := by
  cases x <;> first
    | exact ⟨rfl, rfl⟩
    | (cases hl; done)
    | (refine ⟨rfl, ?_⟩; simp only [rsv1]; split <;> rfl)
theorem res_leaf {bs : List Bool} {x : SV E} (hl : leaf x = true) : res bs x = res1 bs x := by
  cases x <;> first
    | rfl
    | (cases hl; done)
theorem V1.fin {m : Mn E} {h : List (Nat × Nat × HB E)} {bl : List Bx} {Q : List (Nat × Obj)} (hH : HR m h bl Q) {x : SV E} {v : Value} (hv : V1 m x v) : V1 m (res m.bs (rsv h x)) v := by
  cases hl : leaf x with
  | true =>
    obtain ⟨h1, h2⟩ := rsv_leaf (h := h) hl
    rw [h1, res_leaf h2]
    exact V1_leaf (by rw [res1_leaf]; exact h2) ((V1_L hl hv).rsv hH).res
  | false =>
    have h1 := ((V1_RV hv).rsv hH).res
    cases x <;> first
      | exact h1
      | (cases hl; done)
      | (cases hv; done)
/-- A function keeps its promise. -/
theorem Con.prove {c : Con E} {Γ : Nat → Option (Con E)} {Δ : Nat → Option (OCon E)} (hΓ : Kept F P Γ Δ) {H : HL E c.ts → Nat → Nat → Option (Hint E)} {n f : Nat} {T : Prop} (t : T) (h : T = c.vc F Z Γ Δ H n f := by kernel_rfl) : c.ok P f := by
  replace h := h.mp t
  intro a G w vs hw hp hv
  have hl : ∀ {ts : List Ty} {a : HL E ts} {vs : List Value}, IsVs G ts a vs → (opnVs F ts a).length = vs.length := by
    intro ts
    induction ts with
    | nil => intro a vs h; have h : vs = _ := h; subst h; rfl
    | cons t r ih => rintro a vs ⟨v, us, rfl, _, h2⟩; simp [opnVs, ih h2]
  have rh : RelH w G ({} : St E) ⟨G, fun _ => undef, 0, [], fun _ => .box 0 [], fun _ => [], fun _ => []⟩ w := ⟨⟨[], [], Cx.refl hw, Bxs.nil _ _ _, rfl, rfl⟩, rfl, rfl⟩
  have := inH_ok F Z (calls_ok Z hΓ n) w G f (opnVs F c.ts a) {} _ _ w vs rh (hl hv) (fun i x hx => opnVs_ok F (m := ⟨G, fun _ => undef, 0, [], fun _ => .box 0 [], fun _ => [], fun _ => []⟩) hv i x hx) (h a hp)
  refine this.mono ?_
  rintro e w' ⟨v, he, s', m', x, u, rh', hx, hfin⟩
  unfold finV at hfin
  split at hfin
  · rename_i l
    split at hfin
    · rename_i s1 hs1
      obtain ⟨m1, u1, rh1, _, _⟩ := frzs_ok rh' hs1
      obtain ⟨bl, L, hC, hB, hH⟩ := rh1.bx
      obtain ⟨us, rfl, h0⟩ := hx
      have h1 := h0.up u1
      rw [← rh1.bs] at hfin
      refine ⟨_, m1.G, he, (mem_sub (b2 := []) (L2 := []) hC hB (List.Perm.refl _) (List.Perm.refl _)).1, shutO_ok (F := F) hfin ⟨us, rfl, ?_⟩⟩
      clear he hs1 h0 hfin
      induction l generalizing us with
      | nil => exact h1
      | cons a l ih =>
        obtain ⟨v, us', rfl, g1, g2⟩ := h1
        exact ⟨v, us', rfl, V1.fin hH g1, ih us' g2⟩
    · cases hfin
  · split at hfin
    · rename_i s1 hs1
      obtain ⟨m1, u1, rh1, _, _⟩ := frz_ok rh' hs1
      obtain ⟨bl, L, hC, hB, hH⟩ := rh1.bx
      rw [← rh1.bs] at hfin
      exact ⟨v, m1.G, he, (mem_sub (b2 := []) (L2 := []) hC hB (List.Perm.refl _) (List.Perm.refl _)).1, shutO_ok (F := F) hfin ((hx.up u1).rsv hH).res⟩
    · cases hfin
/-- What is to be shown of a function, for a promise over entries. -/
def OCon.vc (c : OCon E) (Γ : Nat → Option (Con E)) (Δ : Nat → Option (OCon E)) (H : CL E c.ash → EL E c.es → Nat → Nat → Option (Hint E)) (n f : Nat) : Prop :=
  ∀ a e, c.holds a e → inH F Z (H a e) (calls F Z Γ Δ (H a e) n) f (opnA F c.es (List.range c.es.length) c.ash a) (ocS F c e) (fun s x => finO F c s x = some (c.post a e))
theorem OCon.lf (c : OCon E) (a : CL E c.ash) (e : EL E c.es) {x : CL E c.rsh × EL E c.pes} (h : x = c.post a e) : some x = some (c.post a e) := congrArg some h
theorem Con.lf (c : Con E) (a : HL E c.ts) {x : HL E c.rt} (h : x = c.ret a) : some x = some (c.ret a) := congrArg some h
theorem OCon.prove {c : OCon E} {Γ : Nat → Option (Con E)} {Δ : Nat → Option (OCon E)} (hΓ : Kept F P Γ Δ) {H : CL E c.ash → EL E c.es → Nat → Nat → Option (Hint E)} {n f : Nat} {T : Prop} (t : T) (h : T = c.vc F Z Γ Δ H n f := by kernel_rfl) : c.ok F P f := by
  replace h := h.mp t
  intro a e w0 G0 m w vs hp rh hv
  obtain ⟨g1, g2⟩ := LV_at hv
  exact inH_ok F Z (calls_ok Z hΓ n) w0 G0 f _ _ _ m w vs rh g1 (fun i x hi => by obtain ⟨v, h1, h2⟩ := g2 i x hi; exact ⟨v, h1, V1_RV h2⟩) (h a e hp)
/-! ### Tables of promises -/
def addC (Γ : Nat → Option (Con E)) (f : Nat) (c : Con E) : Nat → Option (Con E) := fun g => bif Nat.beq g f then some c else Γ g
def addO (Δ : Nat → Option (OCon E)) (f : Nat) (c : OCon E) : Nat → Option (OCon E) := fun g => bif Nat.beq g f then some c else Δ g
def noC : Nat → Option (Con E) := fun _ => none
def noO : Nat → Option (OCon E) := fun _ => none
theorem Kept.nil : Kept F P (noC : Nat → Option (Con E)) noO := ⟨fun _ _ h => (by cases h), fun _ _ h => (by cases h)⟩
variable {F} in
theorem Kept.c {Γ : Nat → Option (Con E)} {Δ : Nat → Option (OCon E)} (k : Kept F P Γ Δ) {f : Nat} {c : Con E} (h : c.ok P f) : Kept F P (addC Γ f c) Δ :=
  ⟨fun g c' hg => by
    unfold addC at hg
    cases hb : Nat.beq g f with
    | true =>
      rw [hb] at hg; simp only [cond_true, Option.some.injEq] at hg; subst hg
      rw [Nat.eq_of_beq_eq_true hb]; exact h
    | false => rw [hb] at hg; exact k.g g c' hg, k.d⟩
variable {F} in
theorem Kept.o {Γ : Nat → Option (Con E)} {Δ : Nat → Option (OCon E)} (k : Kept F P Γ Δ) {f : Nat} {c : OCon E} (h : c.ok F P f) : Kept F P Γ (addO Δ f c) :=
  ⟨k.g, fun g c' hg => by
    unfold addO at hg
    cases hb : Nat.beq g f with
    | true =>
      rw [hb] at hg; simp only [cond_true, Option.some.injEq] at hg; subst hg
      rw [Nat.eq_of_beq_eq_true hb]; exact h
    | false => rw [hb] at hg; exact k.d g c' hg⟩
/-- A promise about arguments of a shape. -/
theorem Con.proveS {ι : Type} {c : Con E} {Γ : Nat → Option (Con E)} {Δ : Nat → Option (OCon E)} (hΓ : Kept F P Γ Δ) (sh : ι → HL E c.ts) (q : ι → Prop) (hs : ∀ a, c.holds a → ∃ i, a = sh i ∧ q i) {H : ι → Nat → Nat → Option (Hint E)} {n f : Nat} {T : Prop} (t : T)
    (h : T = (∀ i, q i → inH F Z (H i) (calls F Z Γ Δ (H i) n) f (opnVs F c.ts (sh i)) {} (fun s x => finV F c.rt s x = some (c.ret (sh i)))) := by kernel_rfl) : c.ok P f := by
  replace h := h.mp t
  intro a G w vs hw hp hv
  obtain ⟨i, rfl, hq⟩ := hs a hp
  have c' : Con E := c
  exact (Con.prove (c := { c with pre := some fun a => a = sh i }) F Z hΓ (H := fun _ => H i) (n := n) (f := f) (T := { c with pre := some fun a => a = sh i }.vc F Z Γ Δ (fun _ => H i) n f) (fun a ha => by have ha : a = sh i := ha; subst ha; exact h i hq) rfl) (sh i) G w vs hw rfl hv
end Go.Vz
