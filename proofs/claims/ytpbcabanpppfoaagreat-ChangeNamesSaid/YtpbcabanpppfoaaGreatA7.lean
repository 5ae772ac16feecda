/- A part of the proof. No condition. -/
import Derived.Test.YtpbcabanpppfoaaGreatA6
import Derived.Laws.LoneSync
import Derived.Laws.Externs
import Derived.Maps.Own
import Derived.Lib.SlKeysI
import Derived.Sort.Grow
set_option linter.all false
namespace Go.Vz
open Go Go.Gx
variable {E : DE} {P : Program} (F : DF E) (Z : ZF P E)
def j5 (P : Program) (call : j7 E) : Prop := ∀ (w0 : World) (G0 : Gh), a9q P w0 G0 call
def c5v : Nat -> List (SV E) -> PT (SV E) -> PT (SV E)
 | _, [], p => p
 | i, x :: r, p => c5v (i + 1) r (p.put 12 i (some x))
def c9c : ∀ (l : List (SV E)) (i : Nat) (p : PT (SV E)) (t : Nat) (x : SV E), i + l.length < 4000 -> (c5v i l p).get t = some x -> (∃ j, l[j]? = some x /\ t = i + j) ∨ p.get t = some x
 | [], i, p, t, x, _, h => .inr h
 | y :: l, i, p, t, x, hl, h => by
  simp only [I3] at hl; rcases c9c l (i + 1) _ t x (by omega) h with ⟨j, h1, h2⟩ | h1
  ·exact .inl ⟨j + 1, by simpa using h1, by omega⟩
  ·rw [PT.get_put _ _ _ _ _ (by omega)] at h1; by_cases hti : t = i
   ·rw [F8 hti] at h1; simp only [A3] at h1; exact .inl ⟨0, by simp [h1], by omega⟩
   ·rw [F7 hti] at h1; exact .inr h1
def b1o (Γ : Nat -> Option (Con E)) (els : j7 E) : j7 E := fun f l s K => match Γ f with
 | some c => match b5e s l with
  | some s1 => match a2w F s1.bs c.ts (l.map (rsv s1.hp)) with
   | some a => match c.pre with | none => K s1 (b2k F c.rt (c.ret a)) | some p => Pre (p a) /\ K s1 (b2k F c.rt (c.ret a))
   | none => No f
  | none => No f
 | none => els f l s K
def a2q {Γ : Nat -> Option (Con E)} (hΓ : ∀ f c, Γ f = some c -> c.ok P f) {els : j7 E} (he : j5 P els) : j5 P (b1o F Γ els) := by
 intro w0 G0 f args s K m w vs rh hl hv h
 unfold b1o at h
 split at h
 ·rename_i c hc; split at h
  ·rename_i s1 hs1; obtain ⟨m1, u1, rh1, _, _⟩ := a8c rh hs1; obtain ⟨_, _, _, _, hH1⟩ := rh1.bx; split at h
   ·rename_i a ha; obtain ⟨hp, hK⟩ : c.holds a /\ K s1 (b2k F c.rt (c.ret a)) := by
     unfold Con.holds; split at h
     ·rename_i hp; rw [hp]; exact ⟨trivial, h⟩
     ·rename_i hp; rw [hp]; obtain ⟨⟨h1⟩, h2⟩ := h; exact ⟨h1, h2⟩
    rw [<- rh1.bs] at ha; have hIs := a3o F ha (vs := vs) (by rw [C5]; exact hl) fun i x hi => by
     rw [C7] at hi; obtain ⟨y, hy, rfl⟩ := D8.1 hi; obtain ⟨v, h1, h2⟩ := hv i y hy; exact ⟨v, h1, (h2.up u1).rsv hH1⟩
    refine Calls.mono (hΓ f c hc a m1.G w vs rh1.holds hp hIs) ?_; rintro e w' ⟨v, G', he, hk, hR⟩; obtain ⟨bl, L, hC, hB, hH⟩ := rh1.bx; have u : Up m1 (m1.g G') := Mn.g_up hk.gle; exact ⟨v, he, s1, m1.g G', b2k F c.rt (c.ret a), u1.trans u, ⟨⟨bl, L, hC.trans hk, hB.ext hk, hH.up u⟩, rh1.n, rh1.bs⟩, c5s (m := m1.g G') hR, hK⟩
   ·exact h.elim
  ·exact h.elim
 ·exact he w0 G0 f args s K m w vs rh hl hv h
def b9t {m : Mn E} {rsh : List CS} {x : SV E} {l : List (SV E)} {v : Value} (h : c9b rsh x = some l) (hv : RV m x v) : ∃ vs, l.length = vs.length /\ (∀ (i : Nat) (y : SV E), l[i]? = some y -> ∃ u, vs[i]? = some u /\ RV m y u) /\ ((∃ q, rsh = [q] /\ vs = [v]) ∨ (rsh.length ≠ 1 /\ v = .tuple vs.toArray)) := by
 unfold c9b at h
 split at h
 ·split at h
  ·cases h
  ·cases h; refine ⟨[v], rfl, fun i y hi => ?_, .inl ⟨_, rfl, rfl⟩⟩; cases i with
   | zero => simp at hi; subst hi; exact ⟨v, rfl, hv⟩
   | succ i => simp at hi
 ·rename_i hr; split at h
  ·cases h; obtain ⟨vs, rfl, h1⟩ := hv; obtain ⟨g1, g2⟩ := b9p h1; refine ⟨vs, g1, fun i y hi => by obtain ⟨u, e1, e2⟩ := g2 i y hi; exact ⟨u, e1, a8s e2⟩, .inr ⟨fun h => ?_, rfl⟩⟩; obtain ⟨z, hz⟩ := W6.1 h; exact hr z hz
  ·cases h
def a1l {Δ : Nat -> Option (i8 E)} (hΔ : ∀ f c, Δ f = some c -> c.ok F P f) {els : j7 E} (he : j5 P els) : j5 P (a5t F Δ els) := by
 intro w0 G0 f args s K m w vs rh hl hv h
 unfold a5t at h
 split at h
 ·rename_i c hc; split at h
  ·rename_i s2 ρ a e hpre; obtain ⟨hp, hK⟩ : c.holds a e /\ K (b5m F c s2 ρ (c.post a e).2) (b9s F c s2 ρ (c.post a e).1) := by
    unfold i8.holds; split at h
    ·exact ⟨trivial, h⟩
    ·obtain ⟨⟨h1⟩, h2⟩ := h; exact ⟨h1, h2⟩
   unfold b6r at hpre; split at hpre
   ·rename_i ρ' hρ; split at hpre
    ·rename_i s1 hs1; split at hpre
     ·rename_i s2' hs2; split at hpre
      ·rename_i oe hoe; cases hn : b7k (ρ' ++ (frm s2' ρ' []).map fun x => x.1) with
       | false => rw [hn] at hpre; cases hpre
       | true =>
        rw [hn] at hpre; simp only [B5] at hpre; split at hpre
        ·rename_i a' e' ha he'; simp only [A3, I4] at hpre; obtain ⟨rfl, rfl, rfl, rfl⟩ := hpre; have hk : ρ'.length = c.es.length := by have := b3s hρ; simpa using this
         obtain ⟨m1, u1, r1, _, _⟩ := b0x rh hs1; obtain ⟨m2, u2, r2, _, _⟩ := b0y r1 hs2; obtain ⟨n1, rS⟩ := e2f r2 hoe hn hk he'; obtain ⟨_, _, _, _, hH2⟩ := r2.bx; rw [<- r2.bs] at ha; have hA := a7p n1 ha (vs := vs) (by rw [C5]; exact hl) fun i x hi => by
          rw [C7] at hi; obtain ⟨y, hy, rfl⟩ := D8.1 hi; obtain ⟨v, h1, h2⟩ := hv i y hy; exact ⟨v, h1, ((h2.up u1).up u2).rsv hH2⟩
         refine Calls.mono (hΔ f c hc a' e' w0 G0 _ w vs hp rS hA) ?_; rintro x w' ⟨v, hx, s', m', y, u', r', hy, hfin⟩; unfold d8f at hfin; split at hfin
         ·rename_i l hcomp; split at hfin
          ·rename_i ρ3 hρ3; split at hfin
           ·rename_i s3 hs3; split at hfin
            ·rename_i s4 hs4; split at hfin
             ·rename_i oe3 q hoe3 hot; cases hc2 : b7k (ρ3 ++ [c.es.length]) && (Nat.beq q c.es.length && b5l c.es.length c.pes ρ3 0) with
              | false => rw [hc2] at hfin; cases hfin
              | true =>
               rw [hc2] at hfin; simp only [B5] at hfin; rw [A7, A7] at hc2; obtain ⟨d1, d2, d3⟩ := hc2; have := A8 d2; subst this; split at hfin
               ·rename_i pa pe hpa hpe; simp only [A3] at hfin; obtain ⟨m3, u3, r3, _, _⟩ := b0x r' hs3; obtain ⟨m4, u4, r4, _, _⟩ := b0y r3 hs4; obtain ⟨b1, b2, b3⟩ := e8u r2 hoe hk ((u'.trans u3).trans u4) r4 hoe3 hot d1 d3 hpe; obtain ⟨us, c1, c2, c3⟩ := b9t hcomp ((hy.up u3).up u4); obtain ⟨_, _, _, _, hH4⟩ := r4.bx; rw [<- r4.bs] at hpa; have hR := a7p b2 hpa (vs := us) (by rw [C5]; exact c1) fun i x hi => by
                 rw [C7] at hi; obtain ⟨z, hz, rfl⟩ := D8.1 hi; obtain ⟨v, h1, h2⟩ := c2 i z hz; exact ⟨v, h1, h2.rsv hH4⟩
                have e1 : (c.post a' e').1 = pa := by rw [<- hfin]
                have e2 : (c.post a' e').2 = pe := by rw [<- hfin]
                rw [e1, e2] at hK; exact ⟨v, hx, _, _, _, (u1.trans u2).trans b1, b3, e2g hR c3, hK⟩
               ·cases hfin
             ·cases hfin
            ·cases hfin
           ·cases hfin
          ·cases hfin
         ·cases hfin
        ·cases hpre
      ·cases hpre
     ·cases hpre
    ·cases hpre
   ·cases hpre
  ·exact h.elim
 ·exact he w0 G0 f args s K m w vs rh hl hv h
def noH : j7 E := fun f _ _ _ => No f
def a7a : j5 P (noH : j7 E) := fun _ _ _ _ _ _ _ _ _ _ _ _ h => h.elim
def inH (H : Nat -> Nat -> Option (Hint E)) (call : j7 E) : j7 E := fun f l s K => match P.funcs[f]? with
 | some fn => match fn.body with
  | some c => cond (Nat.ble l.length fn.ntmps && Nat.blt l.length 4000)
   (vc F Z (H f) call fn.ntmps (fun s' => match e1x P s' fn with | some x => K s' x | none => False) c { s with sl := c5v 0 l .lf } (fun s' => cond (fn.results.isEmpty) (K s' (.tup [])) False) (fun _ _ => False)) False
  | none => False
 | none => False
def results_none {fn : Func} (h : fn.results.isEmpty = true) (a : Act) (w : World) : (results fn a.tmps).run P w = .ok (.tuple #[]) w := by
 rw [b8r]
 have : fn.results = #[] := by simpa using h
 rw [this]; simp
def a2l {H : Nat -> Nat -> Option (Hint E)} {call : j7 E} (hc : j5 P call) : j5 P (inH F Z H call) := by
 intro w0 G0 f args s K m w vs rh hl hv h
 unfold inH at h
 split at h
 ·rename_i fn hfn; split at h
  ·rename_i c hbody; obtain ⟨hb, h⟩ := cnD h; rw [A7] at hb; have h1 : args.length <= fn.ntmps := C2 hb.1; have h2 : args.length < 4000 := C2 hb.2; refine e0a (e := fun t => vs[t]?) hfn hbody fn.ntmps rfl ?_ (fun t v ht => by simpa using ht) ?_
   ·have : vs.toArray.size <= fn.ntmps := by simp; omega
    exact D3 this
   ·intro Q hr hn; have r : Rel w0 G0 ({ s with sl := c5v 0 args .lf } : St E) m (fun t => vs[t]?) w := ⟨⟨rh.bx, rh.n, rh.bs⟩, fun t x ht => by
     rcases c9c args 0 .lf t x (by omega) ht with ⟨j, g1, g2⟩ | g1
     ·obtain ⟨v, g3, g4⟩ := hv j x g1; exact ⟨v, by rw [g2, F2]; exact g3, g4⟩
     ·cases g1⟩
    refine g2o (hc w0 G0) c r h ⟨fun s' m' e' w' u r' he hK => ?_, fun i s' m' e' w' u r' he hX => hX.elim, fun s' m' e' w' u r' hR => ?_⟩
    ·intro a ha; cases he' : fn.results.isEmpty with
     | false => rw [he'] at hK; exact hK.elim
     | true =>
      rw [he'] at hK; exact hn a w' _ (results_none he' a w') ha.df ⟨_, rfl, s', m', .tup [], u, r'.toRelH, ⟨[], rfl, rfl⟩, hK⟩
    ·intro a ha; split at hR
     ·rename_i x hx; obtain ⟨v, g1, g2⟩ := e1z (P := P) r' hx; exact hr a w' v (g2 _ a ha) ha.df ⟨v, rfl, s', m', x, u, r'.toRelH, g1, hR⟩
     ·exact hR.elim
  ·exact h.elim
 ·exact h.elim
def a0g (Γ : Nat -> Option (Con E)) (Δ : Nat -> Option (i8 E)) (H : Nat -> Nat -> Option (Hint E)) : Nat -> j7 E
 | 0 => b1o F Γ (a5t F Δ noH)
 | n + 1 => b1o F Γ (a5t F Δ (inH F Z H (a0g Γ Δ H n)))
structure n3 (P : Program) (Γ : Nat -> Option (Con E)) (Δ : Nat -> Option (i8 E)) : Prop where
  g : ∀ f c, Γ f = some c -> c.ok P f
  d : ∀ f c, Δ f = some c -> c.ok F P f
variable {F} in
def m7 {Γ : Nat -> Option (Con E)} {Δ : Nat -> Option (i8 E)} (hΓ : n3 F P Γ Δ) {H : Nat -> Nat -> Option (Hint E)} : ∀ n, j5 P (a0g F Z Γ Δ H n)
 | 0 => a2q F hΓ.g (a1l F hΓ.d a7a)
 | n + 1 => a2q F hΓ.g (a1l F hΓ.d (a2l F Z (m7 hΓ n)))
def d2c (rt : List Ty) (s : St E) (x : SV E) : Option (HL E rt) := match x with
 | .tup l => match b5e s l with | some s1 => c3g F s1.bs rt (.tup (l.map fun x => res s1.bs (rsv s1.hp x))) | none => none
 | x => match frz s x with | some s1 => c3g F s1.bs rt (res s1.bs (rsv s1.hp x)) | none => none
def Con.vc (c : Con E) (Γ : Nat -> Option (Con E)) (Δ : Nat -> Option (i8 E)) (H : HL E c.ts -> Nat -> Nat -> Option (Hint E)) (n f : Nat) : Prop :=
 ∀ a, c.holds a -> inH F Z (H a) (a0g F Z Γ Δ (H a) n) f (a1z F c.ts a) {} (fun s x => d2c F c.rt s x = some (c.ret a))
def e8v {m : Mn E} {x : SV E} {v : Value} (h : a2f x = true) (hv : L m x v) : V1 m x v := by
 cases x <;> first | exact hv | (cases h; done)
def g6y {m : Mn E} {x : SV E} {v : Value} (h : a2f x = true) (hv : V1 m x v) : L m x v := by
 cases x <;> first | exact hv | (cases h; done)
def e2h {h : List (Nat × Nat × HB E)} {x : SV E} (hl : a2f x = true) : rsv h x = b7i h x /\ a2f (b7i h x) = true := by
 cases x <;> first
  | exact ⟨rfl, rfl⟩
  | (cases hl; done)
  | (refine ⟨rfl, ?_⟩; simp only [b7i]; split <;> rfl)
def e2i {bs : List Bool} {x : SV E} (hl : a2f x = true) : res bs x = b9h bs x := by
 cases x <;> first
  | rfl
  | (cases hl; done)
def V1.fin {m : Mn E} {h : List (Nat × Nat × HB E)} {bl : List Bx} {Q : List (Nat × Obj)} (hH : HR m h bl Q) {x : SV E} {v : Value} (hv : V1 m x v) : V1 m (res m.bs (rsv h x)) v := by
 cases hl : a2f x with
 | true =>
  obtain ⟨h1, h2⟩ := e2h (h := h) hl; rw [h1, e2i h2]; exact e8v (by rw [b5j]; exact h2) ((g6y hl hv).rsv hH).res
 | false =>
  have h1 := ((a8s hv).rsv hH).res; cases x <;> first
   | exact h1
   | (cases hl; done)
   | (cases hv; done)
def Con.prove {c : Con E} {Γ : Nat -> Option (Con E)} {Δ : Nat -> Option (i8 E)} (hΓ : n3 F P Γ Δ) {H : HL E c.ts -> Nat -> Nat -> Option (Hint E)} {n f : Nat} {T : Prop} (t : T) (h : T = c.vc F Z Γ Δ H n f := by kernel_rfl) : c.ok P f := by
 replace h := h.mp t
 intro a G w vs hw hp hv
 have hl : ∀ {ts : List Ty} {a : HL E ts} {vs : List Value}, a8d G ts a vs -> (a1z F ts a).length = vs.length := by
  intro ts
  induction ts with
  | nil => intro a vs h; have h : vs = _ := h; subst h; rfl
  | cons t r ih => rintro a vs ⟨v, us, rfl, _, h2⟩; simp [a1z, ih h2]
 have rh : RelH w G ({} : St E) ⟨G, fun _ => undef, 0, [], fun _ => .box 0 [], fun _ => [], fun _ => []⟩ w := ⟨⟨[], [], Cx.refl hw, Bxs.nil _ _ _, rfl, rfl⟩, rfl, rfl⟩
 have := a2l F Z (m7 Z hΓ n) w G f (a1z F c.ts a) {} _ _ w vs rh (hl hv) (fun i x hx => b3p F (m := ⟨G, fun _ => undef, 0, [], fun _ => .box 0 [], fun _ => [], fun _ => []⟩) hv i x hx) (h a hp)
 refine this.mono ?_
 rintro e w' ⟨v, he, s', m', x, u, rh', hx, hfin⟩
 unfold d2c at hfin
 split at hfin
 ·rename_i l; split at hfin
  ·rename_i s1 hs1; obtain ⟨m1, u1, rh1, _, _⟩ := a8c rh' hs1; obtain ⟨bl, L, hC, hB, hH⟩ := rh1.bx; obtain ⟨us, rfl, h0⟩ := hx; have h1 := h0.up u1; rw [<- rh1.bs] at hfin; refine ⟨_, m1.G, he, (a4z (b2 := []) (L2 := []) hC hB (M1 _) (M1 _)).1, b3q (F := F) hfin ⟨us, rfl, ?_⟩⟩; clear he hs1 h0 hfin
   induction l generalizing us with
   | nil => exact h1
   | cons a l ih =>
    obtain ⟨v, us', rfl, g1, g2⟩ := h1; exact ⟨v, us', rfl, V1.fin hH g1, ih us' g2⟩
  ·cases hfin
 ·split at hfin
  ·rename_i s1 hs1; obtain ⟨m1, u1, rh1, _, _⟩ := a9o rh' hs1; obtain ⟨bl, L, hC, hB, hH⟩ := rh1.bx; rw [<- rh1.bs] at hfin; exact ⟨v, m1.G, he, (a4z (b2 := []) (L2 := []) hC hB (M1 _) (M1 _)).1, b3q (F := F) hfin ((hx.up u1).rsv hH).res⟩
  ·cases hfin
def i8.vc (c : i8 E) (Γ : Nat -> Option (Con E)) (Δ : Nat -> Option (i8 E)) (H : CL E c.ash -> EL E c.es -> Nat -> Nat -> Option (Hint E)) (n f : Nat) : Prop :=
 ∀ a e, c.holds a e -> inH F Z (H a e) (a0g F Z Γ Δ (H a e) n) f (a9r F c.es (List.range c.es.length) c.ash a) (ocS F c e) (fun s x => d8f F c s x = some (c.post a e))
def i8.lf (c : i8 E) (a : CL E c.ash) (e : EL E c.es) {x : CL E c.rsh × EL E c.pes} (h : x = c.post a e) : some x = some (c.post a e) := congrArg some h
def Con.lf (c : Con E) (a : HL E c.ts) {x : HL E c.rt} (h : x = c.ret a) : some x = some (c.ret a) := congrArg some h
def i8.prove {c : i8 E} {Γ : Nat -> Option (Con E)} {Δ : Nat -> Option (i8 E)} (hΓ : n3 F P Γ Δ) {H : CL E c.ash -> EL E c.es -> Nat -> Nat -> Option (Hint E)} {n f : Nat} {T : Prop} (t : T) (h : T = c.vc F Z Γ Δ H n f := by kernel_rfl) : c.ok F P f := by
 replace h := h.mp t
 intro a e w0 G0 m w vs hp rh hv
 obtain ⟨g1, g2⟩ := b9p hv
 exact a2l F Z (m7 Z hΓ n) w0 G0 f _ _ _ m w vs rh g1 (fun i x hi => by obtain ⟨v, h1, h2⟩ := g2 i x hi; exact ⟨v, h1, a8s h2⟩) (h a e hp)
def i5 (Γ : Nat -> Option (Con E)) (f : Nat) (c : Con E) : Nat -> Option (Con E) := fun g => bif Nat.beq g f then some c else Γ g
def u6 (Δ : Nat -> Option (i8 E)) (f : Nat) (c : i8 E) : Nat -> Option (i8 E) := fun g => bif Nat.beq g f then some c else Δ g
def noC : Nat -> Option (Con E) := fun _ => none
def noO : Nat -> Option (i8 E) := fun _ => none
def n3.nil : n3 F P (noC : Nat -> Option (Con E)) noO := ⟨fun _ _ h => (by cases h), fun _ _ h => (by cases h)⟩
variable {F} in
def n3.c {Γ : Nat -> Option (Con E)} {Δ : Nat -> Option (i8 E)} (k : n3 F P Γ Δ) {f : Nat} {c : Con E} (h : c.ok P f) : n3 F P (i5 Γ f c) Δ :=
 ⟨fun g c' hg => by
  unfold i5 at hg; cases hb : Nat.beq g f with
  | true =>
   rw [hb] at hg; simp only [B5, A3] at hg; subst hg; rw [A8 hb]; exact h
  | false => rw [hb] at hg; exact k.g g c' hg, k.d⟩
variable {F} in
def n3.o {Γ : Nat -> Option (Con E)} {Δ : Nat -> Option (i8 E)} (k : n3 F P Γ Δ) {f : Nat} {c : i8 E} (h : c.ok F P f) : n3 F P Γ (u6 Δ f c) :=
 ⟨k.g, fun g c' hg => by
  unfold u6 at hg; cases hb : Nat.beq g f with
  | true =>
   rw [hb] at hg; simp only [B5, A3] at hg; subst hg; rw [A8 hb]; exact h
  | false => rw [hb] at hg; exact k.d g c' hg⟩
def Con.proveS {ι : Type} {c : Con E} {Γ : Nat -> Option (Con E)} {Δ : Nat -> Option (i8 E)} (hΓ : n3 F P Γ Δ) (sh : ι -> HL E c.ts) (q : ι -> Prop) (hs : ∀ a, c.holds a -> ∃ i, a = sh i /\ q i) {H : ι -> Nat -> Nat -> Option (Hint E)} {n f : Nat} {T : Prop} (t : T)
  (h : T = (∀ i, q i -> inH F Z (H i) (a0g F Z Γ Δ (H i) n) f (a1z F c.ts (sh i)) {} (fun s x => d2c F c.rt s x = some (c.ret (sh i)))) := by kernel_rfl) : c.ok P f := by
 replace h := h.mp t
 intro a G w vs hw hp hv
 obtain ⟨i, rfl, hq⟩ := hs a hp
 have c' : Con E := c
 exact (Con.prove (c := { c with pre := some fun a => a = sh i }) F Z hΓ (H := fun _ => H i) (n := n) (f := f) (T := { c with pre := some fun a => a = sh i }.vc F Z Γ Δ (fun _ => H i) n f) (fun a ha => by have ha : a = sh i := ha; subst ha; exact h i hq) rfl) (sh i) G w vs hw rfl hv
end Go.Vz
namespace Go.Vz
open Go Go.Gx
variable {E : DE}
def z1 : SV E -> Value -> Bool
 | .i k n, .int k' n' => decide (k = k') && decide (n = n')
 | .u8 x, .int .u8 n => decide (n = (x.toNat : Int))
 | .lit x, .bool y => x == y
 | .str x, .string y => x.isEmpty && Nat.beq y.data.size 0
 | .nils, .slice none 0 0 => true
 | .nilp, .pointer none => true
 | .nilm, .map none => true
 | .nilf, .nilFunc => true
 | _, _ => false
def zv (k : IntKind) : List Int -> List Value -> Option (List Value)
 | [], cs => some cs
 | x :: l, c :: cs => match c with
  | .int k' y => bif decide (k' = k) && decide (y = x) then zv k l cs else none
  | _ => none
 | _ :: _, [] => none
def f2n {k : IntKind} : ∀ {l : List Int} {cs r : List Value}, zv k l cs = some r -> cs = l.map (Value.int k) ++ r
 | [], cs, r, h => by simp only [zv, A3] at h; subst h; rfl
 | x :: l, c :: cs, r, h => by
  simp only [zv] at h; split at h
  ·rename_i k' y; cases hc : decide (k' = k) && decide (y = x) with
   | false => rw [hc] at h; cases h
   | true =>
    rw [hc] at h; simp only [A7, C6] at hc; obtain ⟨rfl, rfl⟩ := hc; rw [f2n (show zv k' l cs = some r from h)]; rfl
  ·cases h
 | _ :: _, [], _, h => by simp [zv] at h
def zl : List (SV E) -> List Value -> Bool
 | [], [] => true
 | .dig d :: r, cs => decide (d = Dig.zero) && Nat.ble 32 cs.length && (cs.take 32).all (fun v => z1 (.u8 0 : SV E) v) && zl r (cs.drop 32)
 | .vec k n l :: r, cs => Nat.beq l.length n && (match zv k l cs with | some cs' => zl r cs' | none => false)
 | x :: r, v :: cs => a2f x && z1 x v && zl r cs
 | _, _ => false
def e2j {m : Mn E} {x : SV E} {v : Value} (h : z1 x v = true) : L m x v := by
  unfold z1 at h; split at h <;> first
    | (cases h; done)
    | rfl
    | (simp only [A7, C6] at h; obtain ⟨rfl, rfl⟩ := h; rfl)
    | (simp only [C6] at h; subst h; rfl)
    | (simp only [J4] at h; subst h; rfl)
    | (rename_i x y
       simp only [A7] at h; obtain ⟨h1, h2⟩ := h; have h1 : x = [] := by cases x <;> first | rfl | cases h1
       have h2 : y.data = #[] := Array.eq_empty_of_size_eq_zero (A8 h2); subst h1; show Value.string y = .string ⟨#[]⟩; cases y; simp only at h2; rw [h2])
def b6s (E : DE) : ∀ (cs : List Value), (cs.all fun v => z1 (.u8 0 : SV E) v) = true -> cs = List.replicate cs.length (.int .u8 0)
 | [], _ => rfl
 | v :: cs, ha => by
  simp only [N6, A7] at ha; have h1 : L (E := E) ⟨fun _ => none, fun _ => undef, 0, [], fun _ => .box 0 [], fun _ => [], fun _ => []⟩ (.u8 0) v := e2j ha.1; have h1 : v = _ := h1; have h2 := b6s E cs ha.2; rw [I3, List.replicate_succ, <- h2, h1]; rfl
def f2o {m : Mn E} : ∀ {l : List (SV E)} {cs : List Value}, zl l cs = true -> RC m l cs := by
 intro l
 induction l with
 | nil => intro cs h; cases cs with | nil => rfl | cons _ _ => simp [zl] at h
 | cons x r ih =>
  intro cs h; have key : ∀ {v : Value} {cs' : List Value}, a2f x = true -> z1 x v = true -> zl r cs' = true -> RC m (x :: r) (v :: cs') := fun hl hz hr => ⟨[_], _, rfl, a6i hl (e2j hz), ih hr⟩
  cases x with
  | dig d =>
   simp only [zl, A7, C6] at h; obtain ⟨⟨⟨rfl, h2⟩, h3⟩, h4⟩ := h; refine ⟨cs.take 32, cs.drop 32, (E6 32 cs).symm, ?_, ih h4⟩; have h5 : (cs.take 32).length = 32 := by rw [C4]; have := C2 h2; omega
   have := b6s E (cs.take 32) h3; rw [h5] at this; show cs.take 32 = Dig.zero.cells; rw [this]; rfl
  | vec k n l =>
   simp only [zl, A7] at h; obtain ⟨h1, h2⟩ := h; split at h2
   ·rename_i cs' hz; exact ⟨_, cs', f2n hz, ⟨rfl, A8 h1⟩, ih h2⟩
   ·cases h2
  | _ =>
   all_goals
    cases cs with
    | nil => simp [zl] at h
    | cons v cs' =>
     simp only [zl, A7] at h; exact key h.1.1 h.1.2 h.2
def ZF.of (P : Program) (t : Nat -> Option Ty) (tbl : Nat -> Option (List (SV E))) (ky : Nat -> Option Ty := fun _ => none)
  (kok : ∀ t k, ky t = some k -> a9j P t (k.enc E) /\ ∀ (G : Gh) (x : k.den E) (v : Value), IsV G k x v ↔ v = k.enc E x := by intro _ _ h; cases h)
  (ex : Nat -> Option XK := fun _ => none) (exok : ∀ f k, ex f = some k -> XOk P f k := by intro _ _ h; cases h) : ZF P E where
 ex := ex
 exok := exok
 ky := ky
 kok := kok
 zs := fun n => match tbl n, (P.info? n).bind (fun i => i.zero) with
  | some l, some (.agg a) => bif zl l a.toList then some (b3g l) else none
  | some [x], some v => bif a2f x && z1 x v then some x else none
  | _, _ => none
 zok := fun n x h => by
  split at h
  ·rename_i l a _ ha
   cases hz : zl l a.toList with
   | false => rw [hz] at h; cases h
   | true =>
    rw [hz] at h; simp only [B5, A3] at h; subst h
    exact ⟨_, ha, fun m => a7j (cs := a.toList) (f2o hz)⟩
  ·rename_i y v _ _ ha
   cases hz : a2f y && z1 y v with
   | false => rw [hz] at h; cases h
   | true =>
    rw [hz] at h; simp only [B5, A3] at h; subst h
    rw [A7] at hz
    exact ⟨_, ha, fun m => a0x hz.1 (e2j hz.2)⟩
  ·cases h
 t := t
 z := fun n => match tbl n with
  | some l => match (P.info? n).bind (fun i => i.zero.map Value.cells) with
   | some a => bif zl l a.toList then some l else none
   | none => none
  | none => none
 ok := fun n l h => by
  split at h
  ·rename_i l' _
   split at h
   ·rename_i a ha
    cases hz : zl l' a.toList with
    | false => rw [hz] at h; cases h
    | true => rw [hz] at h; simp only [B5, A3] at h; subst h; exact ⟨a.toList, by rw [ha], fun m => f2o hz⟩
   ·cases h
  ·cases h
def d8g {P : Program} {f : Nat} {fn : Func} (hf : P.funcs[f]? = some fn) (hname : (fn.name == "runtime.NumGoroutine") = false) (hb : fn.body.isNone = true) (hn : Extern.findNext fn = none) (he : Extern.find fn = some add64Entry) : XOk P f .add64 := fun x y c w h1 h2 h3 h4 => by
 rw [run_callFunc_extern hf hname hb hn he, run_add64 x y c h1 h2 h3 h4]; rfl
def e2k {P : Program} {f : Nat} {fn : Func} (k : IntKind) (hf : P.funcs[f]? = some fn) (hname : (fn.name == "runtime.NumGoroutine") = false) (hb : fn.body.isNone = true) (hn : Extern.findNext fn = none) (he : Extern.find fn = some (Extern.Atomic.update (Op.intArith .add) k true)) : XOk P f (.addT k) := fun a x y w h1 h2 =>
 run_call_add hf hname hb hn k he h1 h2 (by simp [Op.intArith])
def e8w {P : Program} {f : Nat} {fn : Func} (hf : P.funcs[f]? = some fn) (hname : (fn.name == "runtime.NumGoroutine") = false) (hb : fn.body.isNone = true) (hn : Extern.findNext fn = none) (he : Extern.find fn = some Extern.BytealgCompare.compare) : XOk P f .cmp := fun v1 v2 a b w h1 h2 => by
 rw [run_callFunc_extern hf hname hb hn he, show (Extern.BytealgCompare.compare #[v1, v2]).run P w = .ok (.int .i64 (b1l a b)) w from by
  show (do pure (goInt (Extern.BytealgCompare.cmp (<- Extern.Bytes.bytesOf v1) (<- Extern.Bytes.bytesOf v2))) : Sem Value).run P w = _; simp only [Sem.run_bind, h1, h2, Result.andThen_ok, Sem.run_pure]
  rfl]; rfl
end Go.Vz
namespace Go.Vz
open Go Go.Gx
variable {E : DE} {P : Program}
structure e2l (P : Program) (f : FuncId) : Prop where
  run : ∀ (b off : Nat) (g : FuncId) (caps : Array Value) (w : World) (R : World -> Prop), a1h P g = true ->
    w.cell? ⟨b, off, none⟩ = some (.int .u32 0) -> w.cell? ⟨b, off + 1, none⟩ = some (.int .i32 0) -> w.frozen? ⟨b, off, none⟩ = false -> w.frozen? ⟨b, off + 1, none⟩ = false ->
    Calls P g caps (w.setCell ⟨b, off + 1, none⟩ (.int .i32 1)) (fun e w2 => e = .returned (.tuple #[]) /\ w2.cell? ⟨b, off, none⟩ = some (.int .u32 0) /\ w2.cell? ⟨b, off + 1, none⟩ = some (.int .i32 1) /\
      w2.frozen? ⟨b, off, none⟩ = false /\ w2.frozen? ⟨b, off + 1, none⟩ = false /\ R ((w2.drew.setCell ⟨b, off, none⟩ (.int .u32 1)).setCell ⟨b, off + 1, none⟩ (.int .i32 0))) ->
    Calls P f #[.pointer (some ⟨b, off, none⟩), .func (.func g) #[] caps] w fun e w' => e = .returned (.tuple #[]) /\ R w'
  done : ∀ (b off : Nat) (v : Value) (w : World), w.cell? ⟨b, off, none⟩ = some (.int .u32 1) -> Calls P f #[.pointer (some ⟨b, off, none⟩), v] w fun e w' => e = .returned (.tuple #[]) /\ w' = w
def c9d (s : St E) (id off : Nat) (q : IntKind) (x y : Int) : Option (St E) := match o6 s.hp id with
 | some (_, .box T c) => match a1y off c, a0u off c with
  | some a, some (.i q' x' :: r) => bif decide (q' = q) && decide (x' = x) then some (s.turn id (.box T (a ++ .i q y :: r))) else none
  | _, _ => none
 | _ => none
def e2m (P : Program) (fo : Nat) (call els : j7 E) : j7 E := fun f l s K => bif Nat.beq f fo then match l with
  | [.ptr id off, .fn g caps] => cond (a1h P g) (match c9d s id off .u32 0 0, c9d s id (off + 1) .i32 0 1 with
   | some _, some s1 => call g caps s1 fun s2 x => match x with
    | .tup [] => match c9d s2 id (off + 1) .i32 1 1, c9d s2 id off .u32 0 1 with
     | some _, some s3 => match c9d s3 id (off + 1) .i32 1 0 with
      | some s4 => K s4 (.tup [])
      | none => No f
     | _, _ => No f
    | _ => No f
   | _, _ => match c9d s id off .u32 1 1 with
    | some _ => K s (.tup [])
    | none => No f) (No f)
  | _ => No f
 else els f l s K
section
variable {w0 w : World} {G0 : Gh} {s s' : St E} {m : Mn E}
def RelH.drew (r : RelH w0 G0 s m w) : RelH w0 G0 s m w.drew := by
 obtain ⟨⟨bl, L, hC, hB, hH⟩, h1, h2⟩ := r
 exact ⟨⟨bl, L, hC.drew, hB.drew, hH⟩, h1, h2⟩
def a8f (r : RelH w0 G0 s m w) {id off : Nat} {q : IntKind} {x y : Int} (h : c9d s id off q x y = some s') : ∃ b, m.ν id = .pointer (some ⟨b, 0, none⟩) /\ id < m.n /\ w.cell? ⟨b, off, none⟩ = some (.int q x) /\ w.frozen? ⟨b, off, none⟩ = false /\
  ∃ m', Up m m' /\ RelH w0 G0 s' m' (w.setCell ⟨b, off, none⟩ (.int q y)) := by
 unfold c9d at h
 split at h
 ·rename_i ver T c hgt; split at h
  ·rename_i A' q' x' rr ht hdr; cases hc : decide (q' = q) && decide (x' = x) with
   | false => rw [hc] at h; cases h
   | true =>
    rw [hc] at h; simp only [B5, A3] at h; subst h; simp only [A7, C6] at hc; obtain ⟨rfl, rfl⟩ := hc; obtain ⟨_, hid, _, ⟨b, cs, e1, e2, e3, e4⟩, _⟩ := r.wd hgt; obtain ⟨p, q, A, B, hC, hB, hT⟩ := r.turn hgt; rw [e1] at hB; rw [e2] at hC hB; have hA := e4.take ht; obtain ⟨d1, d2, f0, f1, f2⟩ := e4.drop hdr; obtain ⟨u, rfl, f9⟩ := f1.leaf_ rfl; have f9 : u = _ := f9; subst f9; have hlen : off + 1 <= cs.length := by
     have := congrArg List.length f0; simp at this; omega
    have hcell : cs[off]? = some (.int q' x') := by
     have := congrArg (·[0]?) f0; simpa using this
    have hi : (p ++ ([(b, T, cs)] ++ q))[p.length]? = some (b, T, cs) := by simp
    have hgb := hB.get hi; obtain ⟨k1, k2⟩ := a6n hgb.1 hcell; have hdrop : cs.drop (off + 1) = d2 := by
     rw [<- K6, f0]; rfl
    have f3 : RC m (A' ++ .i q' y :: rr) (cs.take off ++ [.int q' y] ++ cs.drop (off + 1)) := by
     rw [hdrop, B6]; exact hA.append ⟨[_], d2, rfl, ⟨_, rfl, rfl⟩, f2⟩
    refine ⟨b, e3, hid, k1, k2, ?_⟩; rw [b6n hgb.1 hlen]; have hC' := hC.setRow' hgb.2.1 hgb.2.2 (hB.off hi) (cs.take off ++ [Value.int q' y] ++ cs.drop (off + 1)).toArray; have hB' := hB.set hi (cs.take off ++ [Value.int q' y] ++ cs.drop (off + 1)); rw [G4 _ _ (B9 _), W0] at hB'; obtain ⟨u, r'⟩ := hT m.G _ (.box T _) [(b, T, _)] [] (GLe.refl _) hC' hB' ⟨b, _, rfl, rfl, e3, f3⟩; exact ⟨_, u, r'⟩
  ·cases h
 ·cases h
def f2p {m : Mn E} : ∀ {xs : List (SV E)} {vs : List Value}, LL m xs vs -> xs.length = vs.length /\ ∀ (i : Nat) (x : SV E), xs[i]? = some x -> ∃ v, vs[i]? = some v /\ L m x v
 | [], vs, h => by have h : vs = [] := h; subst h; exact ⟨rfl, fun i x hi => by simp at hi⟩
 | a :: r, vs, ⟨v, us, e, h1, h2⟩ => by
  subst e; obtain ⟨g1, g2⟩ := f2p h2; refine ⟨by simp [g1], fun i x hi => ?_⟩; cases i with
  | zero => simp only [E0, A3] at hi; subst hi; exact ⟨v, rfl, h1⟩
  | succ i => simpa using g2 i x (by simpa using hi)
def g6z {m : Mn E} {x : SV E} {v : Value} (h : L m x v) : RV m x v := by
 cases x <;> first | exact h | exact h.elim
end
def e2n {fo : Nat} (ho : e2l P fo) {call els : j7 E} (hc : j5 P call) (he : j5 P els) : j5 P (e2m P fo call els) := by
 intro w0 G0 f args s K m w vs rh hl hv h
 unfold e2m at h
 cases hb : Nat.beq f fo with
 | false => rw [hb] at h; exact he w0 G0 f args s K m w vs rh hl hv h
 | true =>
  rw [hb] at h; simp only [B5] at h; obtain rfl := A8 hb; split at h
  ·rename_i id off g caps; obtain ⟨hco, h⟩ := cnD h; split at h
   ·rename_i s0 s1 h0 h1; obtain ⟨v1, a1, b1⟩ := hv 0 _ rfl; obtain ⟨v2, a2, b2⟩ := hv 1 _ rfl; obtain ⟨_, b', o', h6, b1⟩ := d6 rfl b1; obtain ⟨cv, b2, hcv⟩ : ∃ cv : List Value, v2 = .func (.func g) #[] cv.toArray /\ LL m caps cv := b2; subst b1 b2; have hvl : vs = [.pointer (some ⟨b', o' + off, none⟩), .func (.func g) #[] cv.toArray] := by
     match vs, hl with
     | [p, q], _ => simp at a1 a2; rw [a1, a2]
    subst hvl; obtain ⟨b, e3, hid, k1, k2, _⟩ := a8f rh h0; obtain ⟨b2, e4, _, k3, k4, m1, u1, r1⟩ := a8f rh h1; rw [e3] at h6 e4; simp only [Value.pointer.injEq, A3, Addr.mk.injEq, M0] at h6 e4; obtain ⟨rfl, rfl⟩ := h6; subst e4; obtain ⟨g1, g2⟩ := f2p hcv; rw [F2]; refine (ho.run b off g cv.toArray w (fun w' => ∃ s' m' x, Up m m' /\ RelH w0 G0 s' m' w' /\ RV m' x (.tuple #[]) /\ K s' x) hco k1 k3 k2 k4 ?_).mono ?_
    ·refine (hc w0 G0 g caps s1 _ m1 _ cv r1 g1 (fun i x hi => by obtain ⟨v, q1, q2⟩ := g2 i x hi; exact ⟨v, q1, g6z (q2.up u1)⟩) h).mono ?_; rintro e w2 ⟨v, rfl, s2, m2, x, u2, r2, hx, hK⟩; split at hK
     ·split at hK
      ·rename_i s5 s3 h5 h3; split at hK
       ·rename_i s4 h4; have u := u1.trans u2; have eν : m2.ν id = .pointer (some ⟨b, 0, none⟩) := (u.ν _ hid).trans e3; obtain ⟨b5, e5, _, c1, c2, _⟩ := a8f r2 h5; obtain ⟨b3, e6, _, c3, c4, _⟩ := a8f r2 h3; obtain ⟨b3', e6', hid2, _, _, m3, u3, r3⟩ := a8f r2.drew h3; rw [eν] at e5 e6 e6'; simp only [Value.pointer.injEq, A3, Addr.mk.injEq, M0] at e5 e6 e6'; subst e5 e6 e6'; obtain ⟨b4, e7, _, _, _, m4, u4, r4⟩ := a8f r3 h4; rw [u3.ν _ hid2, eν] at e7; simp only [Value.pointer.injEq, A3, Addr.mk.injEq, M0] at e7; subst e7; obtain ⟨vs, hx, hx2⟩ := hx; have hx2 : vs = [] := hx2; subst hx2; exact ⟨by rw [hx], c3, c1, c4, c2, s4, m4, .tup [], (u.trans u3).trans u4, r4, ⟨[], rfl, rfl⟩, hK⟩
       ·exact hK.elim
      ·exact hK.elim
     ·exact hK.elim
    ·rintro e w' ⟨rfl, s', m', x, u, r', hx, hK⟩; exact ⟨_, rfl, s', m', x, u, r', hx, hK⟩
   ·split at h
    ·rename_i s0 h0; obtain ⟨v1, a1, b1⟩ := hv 0 _ rfl; obtain ⟨v2, a2, b2⟩ := hv 1 _ rfl; obtain ⟨_, b', o', h6, b1⟩ := d6 rfl b1; subst b1; have hvl : vs = [.pointer (some ⟨b', o' + off, none⟩), v2] := by
      match vs, hl with
      | [p, q], _ => simp at a1 a2; rw [a1, a2]
     subst hvl; obtain ⟨b, e3, hid, k1, k2, _⟩ := a8f rh h0; rw [e3] at h6; simp only [Value.pointer.injEq, A3, Addr.mk.injEq, M0] at h6; obtain ⟨rfl, rfl⟩ := h6; rw [F2]; refine (ho.done b off v2 w k1).mono ?_; rintro e w' ⟨rfl, rfl⟩; exact ⟨_, rfl, s, m, .tup [], Up.refl m, rh, ⟨[], rfl, rfl⟩, h⟩
    ·exact h.elim
  ·exact h.elim
variable (F : DF E) (Z : ZF P E)
def i8.proveH {c : i8 E} {H : CL E c.ash -> EL E c.es -> Nat -> Nat -> Option (Hint E)} {call : CL E c.ash -> EL E c.es -> j7 E} (hc : ∀ a e, j5 P (call a e)) {f : Nat} {T : Prop} (t : T)
  (h : T = (∀ a e, c.holds a e -> inH F Z (H a e) (call a e) f (a9r F c.es (List.range c.es.length) c.ash a) (ocS F c e) (fun s x => d8f F c s x = some (c.post a e))) := by kernel_rfl) : c.ok F P f := by
 replace h := h.mp t
 intro a e w0 G0 m w vs hp rh hv
 obtain ⟨g1, g2⟩ := b9p hv
 exact a2l F Z (hc a e) w0 G0 f _ _ _ m w vs rh g1 (fun i x hi => by obtain ⟨v, h1, h2⟩ := g2 i x hi; exact ⟨v, h1, a8s h2⟩) (h a e hp)
def i8.proveHS2 {ι κ : Type} {c : i8 E} (sh : ι -> CL E c.ash × EL E c.es) (sk : κ -> CL E c.ash × EL E c.es) (hs : ∀ a e, c.holds a e -> (∃ i, (a, e) = sh i) ∨ (∃ i, (a, e) = sk i)) {H : ι -> Nat -> Nat -> Option (Hint E)} {H2 : κ -> Nat -> Nat -> Option (Hint E)} {call : j7 E} (hc : j5 P call) {f : Nat} {T T2 : Prop} (t : T) (t2 : T2)
  (h : T = (∀ i, inH F Z (H i) call f (a9r F c.es (List.range c.es.length) c.ash (sh i).1) (ocS F c (sh i).2) (fun s x => d8f F c s x = some (c.post (sh i).1 (sh i).2))) := by kernel_rfl)
  (h2 : T2 = (∀ i, inH F Z (H2 i) call f (a9r F c.es (List.range c.es.length) c.ash (sk i).1) (ocS F c (sk i).2) (fun s x => d8f F c s x = some (c.post (sk i).1 (sk i).2))) := by kernel_rfl) : c.ok F P f := by
 replace h := h.mp t
 replace h2 := h2.mp t2
 intro a e w0 G0 m w vs hp rh hv
 obtain ⟨g1, g2⟩ := b9p hv
 rcases hs a e hp with ⟨i, hi⟩ | ⟨i, hi⟩
 ·obtain ⟨rfl, rfl⟩ := Prod.mk.inj hi; exact a2l F Z hc w0 G0 f _ _ _ m w vs rh g1 (fun j x hj => by obtain ⟨v, h1, h2⟩ := g2 j x hj; exact ⟨v, h1, a8s h2⟩) (h i)
 ·obtain ⟨rfl, rfl⟩ := Prod.mk.inj hi; exact a2l F Z hc w0 G0 f _ _ _ m w vs rh g1 (fun j x hj => by obtain ⟨v, h1, h2⟩ := g2 j x hj; exact ⟨v, h1, a8s h2⟩) (h2 i)
def pcV (Γ : Nat -> Option (Con E)) (f : Nat) (l : List (SV E)) (s : St E) : Option (SV E) := match Γ f with
 | some c => match c.pre with
  | some _ => none
  | none => match a2w F s.bs c.ts (l.map (rsv s.hp)) with
   | some a => some (b2k F c.rt (c.ret a))
   | none => none
 | none => none
def f5m {Γ : Nat -> Option (Con E)} (hΓ : ∀ f c, Γ f = some c -> c.ok P f) : g2b P (pcV F Γ) := by
 intro f l s x h w0 G0 m w vs rh hl hv
 unfold pcV at h
 split at h
 ·rename_i c hc; split at h
  ·cases h
  ·rename_i hpre; split at h
   ·rename_i a ha; cases h; obtain ⟨bl, L, hC, hB, hH⟩ := rh.bx; rw [<- rh.bs] at ha; have hIs := a3o F ha (vs := vs) (by rw [C5]; exact hl) fun i x hi => by
     rw [C7] at hi; obtain ⟨y, hy, rfl⟩ := D8.1 hi; obtain ⟨v, h1, h2⟩ := hv i y hy; exact ⟨v, h1, h2.rsv hH⟩
    refine Calls.mono (hΓ f c hc a m.G w vs rh.holds (by unfold Con.holds; rw [hpre]; trivial) hIs) ?_
    rintro e w' ⟨v, G', he, hk, hR⟩; have u : Up m (m.g G') := Mn.g_up hk.gle; exact ⟨v, he, m.g G', u, ⟨⟨bl, L, hC.trans hk, hB.ext hk, hH.up u⟩, rh.n, rh.bs⟩, c5s (m := m.g G') hR⟩
   ·cases h
 ·cases h
variable {F} in
def ZF.side (Z : ZF P E) {Γ : Nat -> Option (Con E)} {Δ : Nat -> Option (i8 E)} (h : n3 F P Γ Δ) : ZF P E := { Z with pc := pcV F Γ, pcok := f5m F h.g, mg := true }
def ZF.skip (Z : ZF P E) : ZF P E := { Z with sk := true }
def e2o (p : Nat -> List (SV E) -> Bool) (h1 h2 : j7 E) : j7 E := fun f l s K => bif p f l then h1 f l s K else h2 f l s K
def c5w {p : Nat -> List (SV E) -> Bool} {h1 h2 : j7 E} (k1 : j5 P h1) (k2 : j5 P h2) : j5 P (e2o p h1 h2) := by
 intro w0 G0 f args s K m w vs rh hl hv h
 unfold e2o at h
 cases hp : p f args with
 | true => rw [hp] at h; exact k1 w0 G0 f args s K m w vs rh hl hv h
 | false => rw [hp] at h; exact k2 w0 G0 f args s K m w vs rh hl hv h
def d2d (p : Nat -> List (SV E) -> Bool) (Γ : Nat -> Option (Con E)) (Δ1 Δ : Nat -> Option (i8 E)) (H : Nat -> Nat -> Option (Hint E)) : Nat -> j7 E
 | 0 => e2o p (a5t F Δ1 noH) (b1o F Γ (a5t F Δ noH))
 | n + 1 => e2o p (a5t F Δ1 noH) (b1o F Γ (a5t F Δ (inH F Z H (d2d p Γ Δ1 Δ H n))))
def c3j {p : Nat -> List (SV E) -> Bool} {Γ : Nat -> Option (Con E)} {Δ1 Δ : Nat -> Option (i8 E)} (h1 : n3 F P noC Δ1) (h : n3 F P Γ Δ) {H : Nat -> Nat -> Option (Hint E)} : ∀ n, j5 P (d2d F Z p Γ Δ1 Δ H n)
 | 0 => c5w (a1l F h1.d a7a) (a2q F h.g (a1l F h.d a7a))
 | n + 1 => c5w (a1l F h1.d a7a) (a2q F h.g (a1l F h.d (a2l F Z (c3j h1 h n))))
def Con.proveH {c : Con E} {H : HL E c.ts -> Nat -> Nat -> Option (Hint E)} {call : HL E c.ts -> j7 E} (hcall : ∀ a, j5 P (call a)) {f : Nat} {T : Prop} (t : T) (h : T = (∀ a, c.holds a -> inH F Z (H a) (call a) f (a1z F c.ts a) {} (fun s x => d2c F c.rt s x = some (c.ret a))) := by kernel_rfl) : c.ok P f := by
 replace h := h.mp t
 intro a G w vs hw hp hv
 have hl : ∀ {ts : List Ty} {a : HL E ts} {vs : List Value}, a8d G ts a vs -> (a1z F ts a).length = vs.length := by
  intro ts
  induction ts with
  | nil => intro a vs h; have h : vs = _ := h; subst h; rfl
  | cons t r ih => rintro a vs ⟨v, us, rfl, _, h2⟩; simp [a1z, ih h2]
 have rh : RelH w G ({} : St E) ⟨G, fun _ => undef, 0, [], fun _ => .box 0 [], fun _ => [], fun _ => []⟩ w := ⟨⟨[], [], Cx.refl hw, Bxs.nil _ _ _, rfl, rfl⟩, rfl, rfl⟩
 have := a2l F Z (hcall a) w G f (a1z F c.ts a) {} _ _ w vs rh (hl hv) (fun i x hx => b3p F (m := ⟨G, fun _ => undef, 0, [], fun _ => .box 0 [], fun _ => [], fun _ => []⟩) hv i x hx) (h a hp)
 refine this.mono ?_
 rintro e w' ⟨v, he, s', m', x, u, rh', hx, hfin⟩
 unfold d2c at hfin
 split at hfin
 ·rename_i l; split at hfin
  ·rename_i s1 hs1; obtain ⟨m1, u1, rh1, _, _⟩ := a8c rh' hs1; obtain ⟨bl, L, hC, hB, hH⟩ := rh1.bx; obtain ⟨us, rfl, h0⟩ := hx; have h1 := h0.up u1; rw [<- rh1.bs] at hfin; refine ⟨_, m1.G, he, (a4z (b2 := []) (L2 := []) hC hB (M1 _) (M1 _)).1, b3q (F := F) hfin ⟨us, rfl, ?_⟩⟩; clear he hs1 h0 hfin
   induction l generalizing us with
   | nil => exact h1
   | cons a l ih =>
    obtain ⟨v, us', rfl, g1, g2⟩ := h1; exact ⟨v, us', rfl, V1.fin hH g1, ih us' g2⟩
  ·cases hfin
 ·split at hfin
  ·rename_i s1 hs1; obtain ⟨m1, u1, rh1, _, _⟩ := a9o rh' hs1; obtain ⟨bl, L, hC, hB, hH⟩ := rh1.bx; rw [<- rh1.bs] at hfin; exact ⟨v, m1.G, he, (a4z (b2 := []) (L2 := []) hC hB (M1 _) (M1 _)).1, b3q (F := F) hfin ((hx.up u1).rsv hH).res⟩
  ·cases hfin
def swp (l : List Int) (j : Nat) : List Int := (l.set (j + 1) (l.getD j 0)).set j (l.getD (j + 1) 0)
def c9e : Nat -> List Int -> List Int
 | 0, l => l
 | j + 1, l => bif decide (l.getD (j + 1) 0 < l.getD j 0) then c9e j (swp l j) else l
def isI (l : List Int) : Nat -> List Int
 | 0 => l
 | i + 1 => c9e (i + 1) (isI l i)
def t8 (l : List Int) : List Int := isI l (l.length - 1)
def f5n (p q : List Int) (y x : Int) : swp (p ++ y :: x :: q) p.length = p ++ x :: y :: q := by
 have e1 : (p ++ y :: x :: q).getD p.length 0 = y := by simp [B3]
 have e2 : (p ++ y :: x :: q).getD (p.length + 1) 0 = x := by simp [B3]
 unfold swp
 rw [e1, e2, G4 _ _ (by omega), G4 _ _ (by omega)]
 simp
def b2l : ∀ (n : Nat) (p : List Int) (x : Int) (q : List Int), p.length = n -> ∃ p1 p2, p = p1 ++ p2 /\ c9e n (p ++ x :: q) = p1 ++ x :: (p2 ++ q) /\ (∀ y ∈ p2, x < y) /\ (∀ y, p1.getLast? = some y -> y <= x)
 | 0, p, x, q, h => by
  have : p = [] := H6.1 h; subst this; exact ⟨[], [], rfl, rfl, by simp, by simp⟩
 | n + 1, p, x, q, h => by
  obtain ⟨p', y, rfl⟩ : ∃ p' y, p = p' ++ [y] := ⟨p.dropLast, p.getLast (by intro e; subst e; simp at h), (List.dropLast_concat_getLast _).symm⟩; have hp : p'.length = n := by simpa using h
  subst hp; have e0 : p' ++ [y] ++ x :: q = p' ++ y :: x :: q := by simp
  have e1 : (p' ++ y :: x :: q).getD p'.length 0 = y := by simp [B3]
  have e2 : (p' ++ y :: x :: q).getD (p'.length + 1) 0 = x := by simp [B3]
  rw [e0]; unfold c9e; rw [e1, e2]; by_cases hxy : x < y
  ·simp only [hxy, O2, B5]; rw [f5n]; obtain ⟨p1, p2, g1, g2, g3, g4⟩ := b2l p'.length p' x (y :: q) rfl; refine ⟨p1, p2 ++ [y], by rw [g1, B6], by rw [g2]; simp, ?_, g4⟩
   intro z hz; rcases D4.1 hz with hz | hz
   ·exact g3 z hz
   ·rw [F3] at hz; rw [hz]; exact hxy
  ·simp only [hxy, P3, B8]; refine ⟨p' ++ [y], [], by simp, by simp, by simp, ?_⟩; intro z hz; simp at hz; subst hz; omega
def d8h : ∀ (n : Nat) (l : List Int), n < l.length -> (c9e n l).Perm l := by
 intro n l h
 obtain ⟨p, x, q, rfl, hp⟩ : ∃ p x q, l = p ++ x :: q /\ p.length = n := ⟨l.take n, l[n], l.drop (n + 1), by rw [List.getElem_cons_drop, E6], by rw [C4]; omega⟩
 obtain ⟨p1, p2, g1, g2, _, _⟩ := b2l n p x q hp
 rw [g2, g1]
 have : (p1 ++ x :: (p2 ++ q)).Perm (x :: (p1 ++ (p2 ++ q))) := V5
 refine this.trans ?_
 rw [B6]
 have h2 : (p1 ++ (p2 ++ x :: q)).Perm (x :: (p1 ++ (p2 ++ q))) := by
  rw [<- B6, <- B6]; exact V5
 exact h2.symm
def b8b (l : List Int) : ∀ k, k < l.length -> (isI l k).Perm l /\ ((isI l k).take (k + 1)).Pairwise (· <= ·) /\ (isI l k).drop (k + 1) = l.drop (k + 1)
 | 0, h => by
  refine ⟨.refl _, ?_, rfl⟩; show (l.take 1).Pairwise _; cases l with
  | nil => exact .nil
  | cons a l => simp
 | k + 1, h => by
  obtain ⟨h1, h2, h3⟩ := b8b l k (by omega); have hl : (isI l k).length = l.length := h1.length_eq; obtain ⟨p, x, q, e, hp⟩ : ∃ p x q, isI l k = p ++ x :: q /\ p.length = k + 1 := ⟨(isI l k).take (k + 1), (isI l k)[k + 1]'(by omega), (isI l k).drop (k + 2), by rw [List.getElem_cons_drop, E6], by rw [C4]; omega⟩
  obtain ⟨p1, p2, g1, g2, g3, g4⟩ := b2l (k + 1) p x q hp; have hps : p.Pairwise (· <= ·) := by
   rw [e, <- hp, K5] at h2; exact h2
  show (c9e (k + 1) (isI l k)).Perm l /\ ((c9e (k + 1) (isI l k)).take (k + 1 + 1)).Pairwise (· <= ·) /\ (c9e (k + 1) (isI l k)).drop (k + 1 + 1) = l.drop (k + 1 + 1); refine ⟨(d8h (k + 1) _ (by omega)).trans h1, ?_, ?_⟩
  ·rw [e, g2]; have hl2 : (p1 ++ x :: p2).length = k + 1 + 1 := by
    have := congrArg List.length g1; simp at this ⊢; omega
   rw [show p1 ++ x :: (p2 ++ q) = (p1 ++ x :: p2) ++ q by simp, <- hl2, K5]; rw [g1] at hps; obtain ⟨a1, a2, a3⟩ := P5.1 hps; refine P5.2 ⟨a1, M2.2 ⟨fun y hy => Int.le_of_lt (g3 y hy), a2⟩, ?_⟩; intro y hy z hz; have hyx : y <= x := by
    cases hL : p1.getLast? with
    | none => rw [List.getLast?_eq_none_iff] at hL; subst hL; cases hy
    | some w =>
     have hw := g4 w hL; obtain ⟨p1', rfl⟩ := List.getLast?_eq_some_iff.1 hL; rcases D4.1 hy with hy | hy
     ·exact Z2 ((P5.1 a1).2.2 y hy w (by simp)) hw
     ·rw [F3] at hy; rw [hy]; exact hw
   rcases D2.1 hz with rfl | hz
   ·exact hyx
   ·exact a3 y hy z hz
  ·rw [e, g2]; have hl2 : (p1 ++ x :: p2).length = k + 1 + 1 := by
    have := congrArg List.length g1; simp at this ⊢; omega
   rw [show p1 ++ x :: (p2 ++ q) = (p1 ++ x :: p2) ++ q by simp, <- hl2, N9]; rw [hl2]; have h4 : (isI l k).drop (k + 2) = l.drop (k + 2) := by
    have := congrArg (List.drop 1) h3; rw [K6, K6] at this; simpa using this
   rw [e] at h4; rw [<- h4, show p ++ x :: q = (p ++ [x]) ++ q by simp, show k + 2 = (p ++ [x]).length by simp [hp], N9]
def a3p (l : List Int) : (t8 l).Perm l := by
 cases l with
 | nil => exact .nil
 | cons a l => exact (b8b (a :: l) l.length (by simp)).1
def a5a (l : List Int) : (t8 l).Pairwise (· <= ·) := by
 cases l with
 | nil => exact .nil
 | cons a l =>
  have h := (b8b (a :: l) l.length (by simp)).2.1; have hl : (isI (a :: l) l.length).length = l.length + 1 := (b8b (a :: l) l.length (by simp)).1.length_eq; rw [F9 (by omega)] at h; exact h
def a5b (l : List Int) : (t8 l).length = l.length := (a3p l).length_eq
def e2p {l k : List Int} (h : l.Perm k) : t8 l = t8 k :=
 List.Perm.eq_of_pairwise (le := (· <= ·)) (fun _ _ _ _ h1 h2 => Int.le_antisymm h1 h2) (a5a l) (a5a k) (((a3p l).trans h).trans (a3p k).symm)
def b9u {l k : List Int} (h : l.Perm k) (hk : k.Pairwise (· <= ·)) : t8 l = k :=
 List.Perm.eq_of_pairwise (le := (· <= ·)) (fun _ _ _ _ h1 h2 => Int.le_antisymm h1 h2) (a5a l) hk ((a3p l).trans h)
abbrev u8s (l : List UInt8) : List Int := l.map fun x => (x.toNat : Int)
section
variable (tk : List Int -> List Int -> List Int)
def wrF : Nat -> List UInt8 -> List Int -> List Int -> Nat -> List Int × List Int × Nat
 | 0, _, st, bl, h => (st, bl, h)
 | f + 1, b, st, bl, h => bif decide (0 < b.length) then
   (bif Nat.beq (h + Nat.min b.length (64 - h)) 64 then wrF f (b.drop (Nat.min b.length (64 - h))) (tk st (a7l bl h (u8s (b.take (64 - h))))) (a7l bl h (u8s (b.take (64 - h)))) 0
    else wrF f (b.drop (Nat.min b.length (64 - h))) st (a7l bl h (u8s (b.take (64 - h)))) (h + Nat.min b.length (64 - h)))
  else (st, bl, h)
def a1a : Nat -> List Int -> List Int -> List Int
 | 0, st, _ => st
 | k + 1, st, xs => a1a k (tk st (xs.take 64)) (xs.drop 64)
def d2e (lb : Nat -> Int) (bl : List Int) : Nat -> List Int
 | 0 => bl
 | i + 1 => (d2e lb bl i).set (63 - i) (lb i)
def c5x (bl : List Int) (h : Nat) : List Int := (a7l bl h (List.replicate (64 - h) 0)).set h 128
def e2q (lb : Nat -> Int) (st bl : List Int) (h : Nat) : List Int := bif decide (56 <= h) then tk (tk st (c5x bl h)) (d2e lb (a7l (c5x bl h) 0 (List.replicate 64 0)) 8) else tk st (d2e lb (c5x bl h) 8)
def lbs (lb : Nat -> Int) : List Int := [lb 7, lb 6, lb 5, lb 4, lb 3, lb 2, lb 1, lb 0]
def d4w (lb : Nat -> Int) (p q : List Int) (hp : p.length = 56) (hq : q.length = 8) : d2e lb (p ++ q) 8 = p ++ lbs lb := by
 match q, hq with
 | [a, b, c, d, e, f, g, h], _ =>
  simp only [d2e, lbs]; rw [G4 _ _ (by omega)]; rw [G4 _ _ (by omega)]; rw [G4 _ _ (by omega)]; rw [G4 _ _ (by omega)]; rw [G4 _ _ (by omega)]; rw [G4 _ _ (by omega)]; rw [G4 _ _ (by omega)]; rw [G4 _ _ (by omega)]; simp [hp]
def e8x (p q : List Int) (hl : (p ++ q).length = 64) (hp : p.length < 64) : c5x (p ++ q) p.length = p ++ 128 :: List.replicate (63 - p.length) 0 := by
 unfold c5x a7l
 rw [K5, L9, I8 (by omega), D6, G4 _ _ (B9 _), W0]
 obtain ⟨k, hk⟩ : ∃ k, 64 - p.length = k + 1 := ⟨63 - p.length, by omega⟩
 rw [hk, show 63 - p.length = k by omega]
 rfl
def b0z : ∀ (k j : Nat) (st xs : List Int), a1a tk (k + j) st xs = a1a tk j (a1a tk k st xs) (xs.drop (64 * k))
 | 0, j, st, xs => by simp [a1a]
 | k + 1, j, st, xs => by
  rw [Nat.add_right_comm]; show a1a tk (k + j) (tk st (xs.take 64)) (xs.drop 64) = _; rw [b0z k j, K6]; show _ = a1a tk j (a1a tk k (tk st (xs.take 64)) (xs.drop 64)) _; rw [show 64 + 64 * k = 64 * (k + 1) by omega]
def a8g : ∀ (k : Nat) (st xs ys : List Int), 64 * k <= xs.length -> a1a tk k st (xs ++ ys) = a1a tk k st xs
 | 0, st, xs, ys, _ => rfl
 | k + 1, st, xs, ys, h => by
  show a1a tk k (tk st ((xs ++ ys).take 64)) ((xs ++ ys).drop 64) = a1a tk k (tk st (xs.take 64)) (xs.drop 64); rw [N7 (by omega), T6 (by omega), a8g k _ _ _ (by rw [H7]; omega)]
def e2r : ∀ (f : Nat) (b : List UInt8) (st bl : List Int), b.length < f -> bl.length = 64 ->
  ∃ bl', wrF tk f b st bl 0 = (a1a tk (b.length / 64) st (u8s b), u8s (b.drop (64 * (b.length / 64))) ++ bl', b.length % 64) /\ (u8s (b.drop (64 * (b.length / 64))) ++ bl').length = 64
 | 0, b, st, bl, h, _ => by omega
 | f + 1, b, st, bl, h, hb => by
  unfold wrF; by_cases h0 : b.length = 0
  ·have : b = [] := H6.1 h0; subst this; exact ⟨bl, rfl, hb⟩
  ·have h1 : decide (0 < b.length) = true := by simp; omega
   rw [h1, B5, F2, Nat.sub_zero]; have e0 : a7l bl 0 (u8s (b.take 64)) = u8s (b.take 64) ++ bl.drop (b.take 64).length := by
    unfold a7l; simp
   rw [e0]; by_cases h64 : b.length < 64
   ·have hm : Nat.min b.length 64 = b.length := J0 (by omega); have hne : Nat.beq b.length 64 = false := by
     cases hq : Nat.beq b.length 64 with
     | false => rfl
     | true => have := A8 hq; omega
    rw [hm, hne, B8, V7, F9 (by omega)]; have hd : b.length / 64 = 0 := by omega
    have hmod : b.length % 64 = b.length := by omega
    rw [hd, hmod, Nat.mul_zero, N8]; refine ⟨bl.drop b.length, ?_, by simp; omega⟩
    cases f with
    | zero => omega
    | succ f => rfl
   ·have hm : Nat.min b.length 64 = 64 := Nat.min_eq_right (by omega); rw [hm, show Nat.beq 64 64 = true from rfl, B5]; have e2 : bl.drop (b.take 64).length = [] := I8 (by rw [C4]; omega)
    rw [e2, D6]; obtain ⟨bl', g1, g2⟩ := e2r f (b.drop 64) (tk st (u8s (b.take 64))) (u8s (b.take 64)) (by rw [H7]; omega) (by simp; omega)
    rw [g1]; have hk : b.length / 64 = (b.drop 64).length / 64 + 1 := by rw [H7]; omega
    have hm2 : b.length % 64 = (b.drop 64).length % 64 := by rw [H7]; omega
    have hdd : b.drop (64 * (b.length / 64)) = (b.drop 64).drop (64 * ((b.drop 64).length / 64)) := by rw [K6, hk]; congr 1; omega
    rw [hdd]; refine ⟨bl', ?_, g2⟩; rw [hm2, hk]; show _ = (a1a tk ((b.drop 64).length / 64) (tk st ((u8s b).take 64)) ((u8s b).drop 64), _); simp only [u8s, Az, Bq]
def c2f (lb : Nat -> Int) (b : List UInt8) : List Int := u8s b ++ 128 :: List.replicate (63 - (b.length + 8) % 64) 0 ++ lbs lb
def e2s (lb : Nat -> Int) (b : List UInt8) : (c2f lb b).length = 64 * ((b.length + 8) / 64 + 1) := by
 unfold c2f lbs; simp; omega
def f5o (lb : Nat -> Int) (b : List UInt8) (st : List Int) {f : Nat} {bl : List Int} (hf : b.length < f) (hb : bl.length = 64) :
  e2q tk lb (wrF tk f b st bl 0).1 (wrF tk f b st bl 0).2.1 (wrF tk f b st bl 0).2.2 = a1a tk ((c2f lb b).length / 64) st (c2f lb b) := by
 obtain ⟨bl', g1, g2⟩ := e2r tk f b st bl hf hb
 rw [g1]
 simp only []
 have hr : (u8s (b.drop (64 * (b.length / 64)))).length = b.length % 64 := by simp; omega
 have hlt : b.length % 64 < 64 := Nat.mod_lt _ (by omega)
 have hc : c5x (u8s (b.drop (64 * (b.length / 64))) ++ bl') (b.length % 64) = u8s (b.drop (64 * (b.length / 64))) ++ 128 :: List.replicate (63 - b.length % 64) 0 := by
  have := e8x (u8s (b.drop (64 * (b.length / 64)))) bl' g2 (by omega); rw [hr] at this; exact this
 unfold e2q
 rw [hc]
 have hsplit : u8s b = u8s (b.take (64 * (b.length / 64))) ++ u8s (b.drop (64 * (b.length / 64))) := by
  rw [<- F5, E6]
 have hl1 : (u8s (b.take (64 * (b.length / 64)))).length = 64 * (b.length / 64) := by simp; omega
 generalize hX : u8s (b.drop (64 * (b.length / 64))) = X at *
 generalize hY : u8s (b.take (64 * (b.length / 64))) = Y at *
 have hfold : a1a tk (b.length / 64) st (u8s b) = a1a tk (b.length / 64) st Y := by rw [hsplit, a8g _ _ _ _ _ (by omega)]
 rw [hfold, e2s]
 by_cases h56 : 56 <= b.length % 64
 ·have hq : (b.length + 8) / 64 + 1 = b.length / 64 + 2 := by omega
  have hz : (63 - (b.length + 8) % 64) = (63 - b.length % 64) + 56 := by omega
  rw [Nat.mul_div_cancel_left _ (by omega : 0 < 64), hq, b0z]; simp only [h56, O2, B5]; have hp : c2f lb b = Y ++ ((X ++ 128 :: List.replicate (63 - b.length % 64) 0) ++ (List.replicate 56 0 ++ lbs lb)) := by
   unfold c2f; rw [hsplit, hz, <- List.replicate_append_replicate]; simp [B6]
  rw [hp, a8g _ _ _ _ _ (by omega)]; rw [<- hl1, N9]; have hA : (X ++ 128 :: List.replicate (63 - b.length % 64) 0).length = 64 := by simp; omega
  show _ = tk (tk _ (List.take 64 _)) (List.take 64 (List.drop 64 _)); have t1 : ∀ A B : List Int, A.length = 64 -> (A ++ B).take 64 = A /\ (A ++ B).drop 64 = B := fun A B h => by rw [<- h, K5, N9]; exact ⟨rfl, rfl⟩
  rw [(t1 _ _ hA).1, (t1 _ _ hA).2, F9 (by simp [lbs])]
  congr 1
  have : a7l (X ++ 128 :: List.replicate (63 - b.length % 64) 0) 0 (List.replicate 64 0) = List.replicate 56 0 ++ List.replicate 8 0 := by
   unfold a7l; rw [List.take_zero, L9, F2, I8 (by omega)]; rfl
  rw [this, d4w lb _ _ (by simp) (by simp)]
 ·have hq : (b.length + 8) / 64 + 1 = b.length / 64 + 1 := by omega
  have hz : (63 - (b.length + 8) % 64) = 55 - b.length % 64 := by omega
  rw [Nat.mul_div_cancel_left _ (by omega : 0 < 64), hq, b0z]; simp only [h56, P3, B8]; have hp : c2f lb b = Y ++ ((X ++ 128 :: List.replicate (55 - b.length % 64) 0) ++ lbs lb) := by
   unfold c2f; rw [hsplit, hz]; simp [B6]
  rw [hp, a8g _ _ _ _ _ (by omega)]; rw [<- hl1, N9]; show _ = tk _ (List.take 64 _); rw [F9 (by simp [lbs]; omega)]
  congr 1
  rw [show 63 - b.length % 64 = (55 - b.length % 64) + 8 by omega, <- List.replicate_append_replicate, <- Z4, <- B6, d4w lb _ _ (by simp; omega) (by simp)]
end
end Go.Vz
namespace Go.Vz
open Go Go.Gx Go.Maps Go.RowKit
variable {E : DE} {P : Program}
structure d4x (P : Program) (fs fk T : Nat) : Prop where
  ty : P.underlying T = some (.int .i64)
  run : ∀ (bb b nn : Nat) (D0 : DataW Unit) (R : Value -> Option (DataW Unit × List MemPlace)) (w : World), w.cell? ⟨bb, 0, none⟩ = some (.map (some b)) -> bb < w.heap.size -> w.ownsMap P T R b nn D0 -> Maps.size D0 <= Go.maxLen -> Maps.size D0 * 8 <= 140737488355328 ->
    Calls P fs #[.func (.func fk) #[] #[.pointer (some ⟨bb, 0, none⟩)]] w fun e w' => ∃ (v : Value) (ss : List Int), e = .returned v /\ ss.Perm (intKeys D0) /\ w'.ownsRow w.heap.size T 1 v ss.length ((ss.mergeSort leI).map encZ) /\ RowKit.Below w.heap.size w w'
def d2f {α : Type} (xs : List (Int × α)) : Prop := xs.length <= 1000 /\ ∀ p ∈ xs, -1000000 <= p.1 /\ p.1 <= 1000000
def b9v (fs fk : Nat) (els : j7 E) : j7 E := fun f l s K => bif Nat.beq f fs then match l with
  | [.fn g [.ptr id 0]] => match o6 s.hp id with
   | some (_, .box _ [.mp mid]) => match o6 s.hp mid with
    | some (_, .map .int v xs) => cond (Nat.beq g fk) (Pre (d2f (α := v.den E) xs) /\ K s (.sl .int (t8 (List.map (fun p : Int × v.den E => p.1) xs)))) (No f)
    | _ => No f
   | _ => No f
  | _ => No f
 else els f l s K
def f2q {w w' : World} {G G' : Gh} (hH : Holds G w) (hB : RowKit.Below w.heap.size w w') (hg : GLe G G') (hf : ∀ b o, G' b = some o -> G b = some o ∨ (w.heap.size <= b /\ w'.heap[b]? = some o)) : Cx w G G' w' :=
 ⟨fun b o hb => by
  rcases hf b o hb with h | h
  ·exact (hB.block b (hH.lt h)).trans (hH b o h)
  ·exact h.2, hB.os, hB.tape, hB.output, hB.size, fun b hb _ => hB.block b hb, hg, fun b o hb => (hf b o hb).imp id (fun h => h.1), fun _ h => (H4 h).elim, U0⟩
def c3k {l k : List Int} (h : l.Perm k) : l.mergeSort leI = t8 k := by
 have tr : ∀ a b c : Int, leI a b = true -> leI b c = true -> leI a c = true := fun a b c h1 h2 => by simp only [leI, C6] at *; exact Z2 h1 h2
 have to : ∀ a b : Int, (leI a b || leI b a) = true := fun a b => by simp only [leI, P2, C6]; exact Int.le_total a b
 refine (b9u (h.symm.trans (List.mergeSort_perm l leI).symm) ?_).symm
 exact (List.pairwise_mergeSort tr to l).imp fun h => by simpa [leI] using h
def d2g {w w' : World} {G : Gh} {T : Nat} {v : Value} {ys : List Int} (hH : Holds G w) (hB : RowKit.Below w.heap.size w w') (hr : w'.ownsRow w.heap.size T 1 v ys.length (ys.map encZ)) (hl : ys.length <= d4) : ∃ G', GLe G G' /\ Cx w G G' w' /\ Sl G' v ys := by
 obtain ⟨_, ⟨rfl, h0⟩ | ⟨g, cap, cur, rfl, h1, h2, h3, h4, h5, h6⟩⟩ := hr
 ·have : ys = [] := H6.1 h0; subst this; exact ⟨G, fun _ _ h => h, f2q hH hB (fun _ _ h => h) fun _ _ h => .inl h, none, 0, rfl, B9 _, C0 _, fun k x hk => by simp at hk⟩
 ·have hG0 : G g = none := hH.none_ h1; have hg : GLe G (fun b => if b = g then some (.cells cur T (0, 0)) else G b) := fun b o hb => by
   show (if b = g then _ else G b) = _; rw [F7 (fun e => by subst e; rw [hG0] at hb; cases hb)]; exact hb
  refine ⟨_, hg, f2q hH hB hg fun b o hb => ?_, some ⟨g, 0, none⟩, cap, rfl, h3, hl, fun k x hk => ⟨g, 0, [.int .i64 x], rfl, ⟨cur, T, (0, 0), F8 rfl, fun j u hj => ?_⟩, rfl⟩⟩
  ·by_cases e : b = g
   ·subst e; rw [F8 rfl] at hb; exact .inr ⟨h1, by rw [h2]; exact hb⟩
   ·rw [F7 e] at hb; exact .inl hb
  ·cases j with
   | zero =>
    simp only [E0, A3] at hj; subst hj; have : (cur.toList.take (ys.length * 1))[k]? = some (Value.int .i64 x) := by rw [h6, C7, hk]; rfl
    rw [J2] at this; split at this
    ·show cur[0 + k * 1 + 0]? = _; rw [F2, R2, N5]; simpa using this
    ·cases this
   | succ j => simp at hj
def a9s {fs fk T : Nat} (ho : d4x P fs fk T) {els : j7 E} (he : j5 P els) : j5 P (b9v fs fk els) := by
 intro w0 G0 f args s K m w vs rh hl hv h
 unfold b9v at h
 cases hb : Nat.beq f fs with
 | false => rw [hb] at h; exact he w0 G0 f args s K m w vs rh hl hv h
 | true =>
  rw [hb] at h; simp only [B5] at h; obtain rfl := A8 hb; split at h
  ·rename_i g id; split at h
   ·rename_i ver T' mid hid; split at h
    ·rename_i ver2 v xs hmid; cases hgk : Nat.beq g fk with
     | false => rw [hgk] at h; exact h.elim
     | true =>
      rw [hgk, B5] at h; obtain rfl := A8 hgk; obtain ⟨⟨hs1, hs2⟩, hK⟩ := h; obtain ⟨v1, a1, b1⟩ := hv 0 _ rfl; obtain ⟨cv, rfl, hcv⟩ : ∃ cv : List Value, v1 = .func (.func g) #[] cv.toArray /\ LL m [.ptr id 0] cv := b1; obtain ⟨cv1, cv2, rfl, hp, hn⟩ := hcv; have hn : cv2 = [] := hn; subst hn; obtain ⟨_, b', o', h6, rfl⟩ := hp; have hvl : vs = [.func (.func g) #[] #[.pointer (some ⟨b', o', none⟩)]] := by
       match vs, hl with
       | [p], _ => simp at a1; rw [a1]
      subst hvl; obtain ⟨hW, _, _, ⟨bb, cs, e1, e2, e3, e4⟩, _⟩ := rh.wd hid; rw [e3] at h6; simp only [Value.pointer.injEq, A3, Addr.mk.injEq, M0] at h6; obtain ⟨rfl, rfl⟩ := h6; have hbb := (hW.2 ver rfl).1 (bb, T', cs) (by rw [e1]; exact F3.2 rfl); obtain ⟨c1, c2, f0, f1, f2⟩ := e4; obtain ⟨mv, rfl, hmv⟩ := f1.leaf_ rfl; have f2 : c2 = [] := f2; subst f2; obtain ⟨b, o, g1, g2, g3⟩ := rh.mapOf hmid; obtain ⟨_, hmv, _⟩ := hmv; rw [g2] at hmv; subst hmv; have hcell : w.cell? ⟨bb, 0, none⟩ = some (.map (some b)) := (a6n hbb (by rw [f0]; rfl)).1
      letI := rlT E v; obtain ⟨es, clock, kvs, rfl, hE, hR, hnd⟩ := g3; have hkx : kvs.map (·.1) = xs.map (·.1) := @KvR.keys _ _ _ (rlT E v) _ kvs xs hR; have hkey : es.toList.map (·.key) = (kvs.map (·.1)).map (fun x : Int => Value.int .i64 x) := hE.keys; have hsz : es.size = xs.length := by
       have q1 := congrArg List.length hkey; have q2 := congrArg List.length hkx; simp at q1 q2; omega
      let R : Value -> Option (DataW Unit × List MemPlace) := fun _ => some (.nil, [])
      have hrd : ∀ x ∈ es.toList, ∃ a : Int, a ∈ xs.map (·.1) /\ x.key = .int .i64 a /\ WideElems.rd P T R x = some (.int .i64 a, .nil) := fun x hx => by
       have : x.key ∈ es.toList.map (·.key) := E1.2 ⟨x, hx, rfl⟩; rw [hkey, hkx] at this; obtain ⟨a, ha, hax⟩ := E1.1 this; refine ⟨a, ha, hax.symm, ?_⟩; obtain ⟨p, hp, rfl⟩ := E1.1 ha; have hw : (Lit.int .i64 p.1).wf = true := by
        have h7 := hs2 p hp; simp only [Lit.wf, IntKind.min, IntKind.max, IntKind.signed, IntKind.bits, A7, C6]; simp only [X7]; omega
       have := WideElems.rd_mk (P := P) (R := R) (key := x.key) (val := x.val) (born := x.born) (by rw [<- hax]; exact Maps.keyOf_int_mk ho.ty hw) rfl; exact this
      have hst : MapKept.Stamped es clock := ⟨hE.old, hE.nd, by
       rw [hkey, hkx]; exact List.Pairwise.map _ (fun a b hab e => hab (by injection e)) hnd⟩
      have hFit : WideElems.Fit P T R es clock := ⟨by rw [hsz]; exact D5 hs1 (by decide), hst, fun x hx => by obtain ⟨a, _, _, h⟩ := hrd x hx; exact ⟨_, h⟩⟩; have hperm : (intKeys (DataW.map ((es.toList.map (WideElems.rg P T R)).foldr DataW.insert []) : DataW Unit)).Perm (xs.map (·.1)) := by
       show (List.map (fun p : Lit × DataW Unit => intOf p.1) _).Perm _; refine ((WideShapes.sorted_perm _).map _).trans ?_; rw [O1]; have : es.toList.map ((fun p : Lit × DataW Unit => intOf p.1) ∘ WideElems.rg P T R) = (es.toList.map (·.key)).map (fun v => match v with | .int _ a => a | _ => 0) := by
        rw [O1]; refine List.map_congr_left fun x hx => ?_
        obtain ⟨a, _, e, h⟩ := hrd x hx; simp only [Function.comp, WideElems.rg_of h, e, intOf]
       rw [this, hkey, hkx, O1]; have e : List.map ((fun v : Value => match v with | .int _ a => a | _ => 0) ∘ fun x : Int => Value.int .i64 x) (xs.map (·.1)) = xs.map (·.1) := by
        conv => rhs; rw [<- List.map_id (xs.map (·.1))]
        exact List.map_congr_left fun x _ => rfl
       rw [e]
      have hsz2 : Maps.size (DataW.map ((es.toList.map (WideElems.rg P T R)).foldr DataW.insert []) : DataW Unit) = xs.length := by
       have := hperm.length_eq; simp [intKeys] at this; simpa [Maps.size] using this
      refine (ho.run bb b es.size _ R w hcell (E4.1 hbb).1 ⟨es, clock, g1, hFit, B9 _, rfl⟩ (by rw [hsz2]; exact D5 hs1 (by decide)) (by rw [hsz2]; omega)).mono ?_
      rintro e w' ⟨rv, ss, rfl, hss, hrow, hB⟩; have hms : ss.mergeSort leI = t8 (xs.map (·.1)) := c3k (hss.trans hperm); have hln : ss.length = (t8 (xs.map (·.1))).length := by rw [<- hms]; exact (List.mergeSort_perm ss leI).length_eq.symm
      rw [hms, hln] at hrow; obtain ⟨bl, L, hC, hB0, hH⟩ := rh.bx; obtain ⟨G', q1, q2, q3⟩ := d2g hC.holds hB hrow (by rw [a5b, C5]; exact D5 hs1 (by unfold d4; omega))
      have u : Up m (m.g G') := Mn.g_up q1; exact ⟨rv, rfl, s, m.g G', .sl .int (t8 (List.map (fun p : Int × v.den E => p.1) xs)), u, ⟨⟨bl, L, hC.trans q2, hB0.ext q2, hH.up u⟩, rh.n, rh.bs⟩, q3, hK⟩
    ·exact h.elim
   ·exact h.elim
  ·exact h.elim
end Go.Vz
namespace Go.Vz
open Go Go.Gx
variable {P : Program}
def c9f {α : Type} [DecidableEq α] {kt : Nat} {cells : α -> List Value} (hu0 : ∃ d, P.underlying kt = some d) (hnum : ∀ x, ∀ v ∈ cells x, b8u v = true)
  (heq : ∀ (x y : α) (w : World), (Op.equalIn 10000 kt (.agg (cells x).toArray) (.agg (cells y).toArray)).run P w = .ok (decide (x = y)) w) (hinj : ∀ x y, cells x = cells y -> x = y)
  (hchk : ∀ (b : Bool) (x : α) (w : World), (Instr.checkKey b 10000 kt (.agg (cells x).toArray)).run P w = .ok () w) : a9j P kt (fun x => .agg (cells x).toArray) where
 inj x y h := hinj x y (by simpa using h)
 chk := hchk
 stay x w := by
  have := c4y (cells x) (hnum x) 9999; simp only [Instr.keyThatStays, this, X7]; rfl
 find x es ks h := by
  obtain ⟨dsc, hu⟩ := hu0; have ask : ∀ (es : List MapEntry) (ks : List α) (n : Nat), es.map (·.key) = ks.map (fun x => Value.agg (cells x).toArray) ->
    (x ∉ ks /\ ∀ w, (Instr.findAsking kt (.agg (cells x).toArray) es n).run P w = .ok none w) ∨ ∃ i e, ks[i]? = some x /\ (∀ j, j < i -> ks[j]? ≠ some x) /\ es[i]? = some e /\ ∀ w, (Instr.findAsking kt (.agg (cells x).toArray) es n).run P w = .ok (some (n + i, e.val)) w := by
   intro es
   induction es with
   | nil => intro ks n h; cases ks with | nil => exact .inl ⟨by simp, fun w => by simp [Instr.findAsking]⟩ | cons _ _ => simp at h
   | cons e es ih =>
    intro ks n h; cases ks with
    | nil => simp at h
    | cons k ks =>
     simp only [C9, K7] at h; obtain ⟨h1, h2⟩ := h; have hq : ∀ w, (Op.equal kt (.agg (cells x).toArray) e.key).run P w = .ok (decide (x = k)) w := fun w => by rw [h1]; exact heq x k w
     by_cases hx : x = k
     ·subst hx; refine .inr ⟨0, e, by simp, fun j hj => by omega, by simp, fun w => ?_⟩; have := hq w; simp only [O2] at this; simp [Instr.findAsking, this]
     ·have hs : ∀ w, (Instr.findAsking kt (.agg (cells x).toArray) (e :: es) n).run P w = (Instr.findAsking kt (.agg (cells x).toArray) es (n + 1)).run P w := fun w => by
       have := hq w; simp only [hx, P3] at this; simp [Instr.findAsking, this]
      rcases ih ks (n + 1) h2 with ⟨a, b⟩ | ⟨i, e', a, b, c, d⟩
      ·exact .inl ⟨by simp [a, hx], fun w => (hs w).trans (b w)⟩
      ·refine .inr ⟨i + 1, e', by simpa using a, fun j hj => ?_, by simpa using c, fun w => by rw [hs, d w]; congr 3; omega⟩
       cases j with
       | zero => simp; exact fun h => hx h.symm
       | succ j => simpa using b j (by omega)
  have hnow : ∀ w, (Instr.findKey kt (.agg (cells x).toArray) es).run P w = (Instr.findAsking kt (.agg (cells x).toArray) es 0).run P w ∨ (es = [] /\ (Instr.findKey kt (.agg (cells x).toArray) es).run P w = .ok none w) := by
   intro w; cases es with
   | nil => exact .inr ⟨rfl, by simp [Instr.findKey, run_underlying hu, Instr.findNow]⟩
   | cons e es =>
    refine .inl ?_; have : Instr.findNow dsc (.agg (cells x).toArray) (e :: es) 0 = none := by cases dsc <;> simp [Instr.findNow, Instr.sameNow]
    simp [Instr.findKey, run_underlying hu, this]
  rcases ask es ks 0 h with ⟨a, b⟩ | ⟨i, e, a, b, c, d⟩
  ·refine .inl ⟨a, fun w => ?_⟩; rcases hnow w with h1 | ⟨_, h1⟩
   ·rw [h1]; exact b w
   ·exact h1
  ·refine .inr ⟨i, e, a, b, c, fun w => ?_⟩; rcases hnow w with h1 | ⟨rfl, _⟩
   ·rw [h1, d w, F2]
   ·simp at c
def b5o (d : Dig) : ∀ v ∈ d.cells, b8u v = true := by simp [Dig.cells, b8u]
def c3l {a b : Dig} (h : a.cells = b.cells) : a = b := by
 obtain ⟨l, hl⟩ := a; obtain ⟨k, hk⟩ := b
 have : l = k := by
  simp only [Dig.cells] at h; clear hl hk
  induction l generalizing k with
  | nil => cases k with | nil => rfl | cons _ _ => simp at h
  | cons x l ih =>
   cases k with
   | nil => simp at h
   | cons y k =>
    simp only [C9, K7, Value.int.injEq, Z9] at h; rw [ih k h.2, W8.1 (show x.toNat = y.toNat by omega)]
 subst this; rfl
def e2t {kt : Nat} (hb : q0 P kt = true) : a9j P kt (fun d : Dig => .agg d.cells.toArray) := by
 have hb0 := hb
 unfold q0 at hb
 split at hb
 ·rename_i e hu; simp only [A7] at hb; obtain ⟨h1, h2⟩ := hb; have hint : P.underlying e = some (.int .u8) := by split at h1 <;> first | assumption | cases h1
  have hsz : (P.info? e).map (·.size) = some 1 := by
   split at h2
   ·rename_i i hi; rw [hi]; simp [A8 h2]
   ·cases h2
  exact c9f ⟨_, hu⟩ b5o (fun x y w => a2p hb0 x y w) (fun _ _ => c3l) fun b x w => a9l hu hint (by simp [a0h, hint]) hsz b 9998 _ (by simp) w
 ·cases hb
def e2u {kt : Nat} (hk : P.underlying kt = some .string) : a9j P kt a4y where
 inj x y h := by simpa [a4y] using h
 chk b x w := MapKept.run_checkKey hk (by trivial) b 9999
 stay x w := MapKept.run_keyThatStays (d := .string) (by trivial)
 find x es ks h := by
  have key : ∀ (es : List MapEntry) (ks : List (List UInt8)) (n : Nat), es.map (·.key) = ks.map a4y ->
    (x ∉ ks /\ Instr.findNow .string (a4y x) es n = some none) ∨ ∃ i e, ks[i]? = some x /\ (∀ j, j < i -> ks[j]? ≠ some x) /\ es[i]? = some e /\ Instr.findNow .string (a4y x) es n = some (some (n + i, e.val)) := by
   intro es
   induction es with
   | nil => intro ks n h; cases ks with | nil => exact .inl ⟨by simp, rfl⟩ | cons _ _ => simp at h
   | cons e es ih =>
    intro ks n h; cases ks with
    | nil => simp at h
    | cons k ks =>
     simp only [C9, K7] at h; obtain ⟨h1, h2⟩ := h; have hs : Instr.sameNow .string (a4y x) e.key = some (decide (x = k)) := by
      rw [h1]; simp only [a4y, Instr.sameNow, A3]; rw [J9, MapKept.bytes_beq, C6]; simp
     by_cases hx : x = k
     ·subst hx; refine .inr ⟨0, e, by simp, fun j hj => by omega, by simp, ?_⟩; simp [Instr.findNow, hs]
     ·have hs : Instr.findNow .string (a4y x) (e :: es) n = Instr.findNow .string (a4y x) es (n + 1) := by
       simp [Instr.findNow, hs, hx]
      rw [hs]; rcases ih ks (n + 1) h2 with ⟨a, b⟩ | ⟨i, e', a, b, c, d⟩
      ·exact .inl ⟨by simp [a, hx], b⟩
      ·refine .inr ⟨i + 1, e', by simpa using a, fun j hj => ?_, by simpa using c, by rw [d]; congr 3; omega⟩
       cases j with
       | zero => simp; exact fun h => hx h.symm
       | succ j => simpa using b j (by omega)
  rcases key es ks 0 h with ⟨a, b⟩ | ⟨i, e, a, b, c, d⟩
  ·exact .inl ⟨a, fun w => MapKept.run_findKey hk b⟩
  ·exact .inr ⟨i, e, a, b, c, fun w => by rw [MapKept.run_findKey hk d, F2]⟩
variable {E : DE}
def g2r (P : Program) (t : Nat) : SV E -> Bool
 | .i _ _ => (match P.underlying t with | some (.int _) => true | _ => false) && a0h P t
 | .dig _ => q0 P t && a5k P t 32
 | _ => false
def e2v (P : Program) : List (Nat × Nat) -> List (SV E) -> Nat -> Bool
 | [], [], _ => true
 | (t, off) :: L, x :: l, o => Nat.beq off o && (g2r P t x && e2v P L l (o + x.w))
 | _, _, _ => false
def d4y {m : Mn E} {xs : List Value} : ∀ {L : List (Nat × Nat)} {l : List (SV E)} {o : Nat}, e2v P L l o = true -> RC m l (xs.drop o) -> ∀ p ∈ L, ∃ v, (∀ w, (part p.1 xs.toArray p.2).run P w = .ok v w) /\ ∀ em n w, (Instr.checkKey em (n + 2) p.1 v).run P w = .ok () w
 | [], _, _, _, _, p, hp => by cases hp
 | (t, off) :: L, [], _, h, _, _, _ => by simp [e2v] at h
 | (t, off) :: L, x :: l, o, h, ⟨c1, c2, e, h1, h2⟩, p, hp => by
  simp only [e2v, A7] at h; obtain ⟨h3, h4, h5⟩ := h; have := A8 h3; subst this; rcases D2.1 hp with rfl | hp
  ·cases x <;> simp only [g2r, A7] at h4 <;> try (cases h4; done)
   ·rename_i kk nn; obtain ⟨v, rfl, h1⟩ := h1; have h1 : v = _ := h1; subst h1; have hat : xs.toArray[off]? = some (.int kk nn) := by
     have := congrArg (·[0]?) e; simpa using this
    refine ⟨_, fun w => o8 h4.2 hat w, fun em n w => ?_⟩; obtain ⟨k, hk⟩ : ∃ k, P.underlying t = some (.int k) := by
     have := h4.1; split at this
     ·exact ⟨_, by assumption⟩
     ·cases this
    exact b3d hk em (n + 1) _ w
   ·rename_i d; have h1 : c1 = d.cells := h1; subst h1; have hl := d.length_cells; refine ⟨.agg d.cells.toArray, fun w => ?_, fun em n w => ?_⟩
    ·rw [a3d h4.2]
     congr 2
     rw [List.extract_toArray]
     congr 1
     simp only [U6, I2]; rw [e, N7 (by simp), F9 (by simp)]
    ·have hb := h4.1; unfold q0 at hb; split at hb
     ·rename_i el hu; simp only [A7] at hb; obtain ⟨g1, g2⟩ := hb; have hint : P.underlying el = some (.int .u8) := by split at g1 <;> first | assumption | cases g1
      have hsz : (P.info? el).map (·.size) = some 1 := by
       split at g2
       ·rename_i i hi; rw [hi]; simp [A8 g2]
       ·cases g2
      exact a9l hu hint (by simp [a0h, hint]) hsz em n _ (by simp) w
     ·cases hb
  ·refine d4y h5 (m := m) ?_ p hp; have : xs.drop (off + x.w) = c2 := by rw [<- K6, e, <- h1.len]; simp
   rw [this]; exact h2
def d4z {α : Type} [DecidableEq α] {kt : Nat} {cells : α -> List Value} {fl : α -> List (SV E)} (hfl : ∀ (m : Mn E) (x : α), RC m (fl x) (cells x))
  (hck : ∀ x, (a2e P kt (b0s P kt) && e2v P (b0s P kt) (fl x) 0) = true) (heq : ∀ x y, ∃ r, e0i P [] kt (fl x) (fl y) = some r /\ r = decide (x = y))
  (hnum : ∀ x, ∀ v ∈ cells x, b8u v = true) (hinj : ∀ x y, cells x = cells y -> x = y) (hst : a2e P kt (b0s P kt) = true) : a9j P kt (fun x => .agg (cells x).toArray) := by
 have hu : ∃ d, P.underlying kt = some d := by
  unfold a2e at hst; split at hst
  ·exact ⟨_, by assumption⟩
  ·cases hst
 have m0 : Mn E := ⟨fun _ => none, fun _ => undef, 0, [], fun _ => .oth, fun _ => [], fun _ => []⟩
 refine c9f hu hnum (fun x y w => ?_) hinj fun b x w => ?_
 ·obtain ⟨r, h1, h2⟩ := heq x y; rw [<- h2]; exact (c5d (m := ⟨fun _ => none, fun _ => undef, 0, [], fun _ => .oth, fun _ => [], fun _ => []⟩) h1 (hfl _ x) (hfl _ y)).1 w
 ·have h := hck x; rw [A7] at h; refine b7h h.1 b 9999 w fun p hp => ?_
  obtain ⟨v, h1, h2⟩ := d4y h.2 (m := m0) (xs := cells x) (hfl m0 x) p hp; exact ⟨v, h1 w, h2 b 9997 w⟩
end Go.Vz
namespace Go.Vz
open Go Go.Gx
variable {E : DE} {P : Program}
structure e2w (P : Program) (fs : Nat) : Prop where
  nil : ∀ w, Calls P fs #[.slice none 0 0] w fun e w' => e = .returned (.tuple #[]) /\ w' = w
  run : ∀ (b off cap : Nat) (zs : List Int) (w : World), Go.Sort.Holds (Value.int .i64) w b off zs.toArray -> b < w.heap.size -> zs.length <= d4 ->
    Calls P fs #[.slice (some ⟨b, off, none⟩) zs.length cap] w fun e w' => e = .returned (.tuple #[]) /\ ∃ n os, w' = Go.Sort.grow (Go.Sort.putRow (Value.int .i64) (Go.Sort.ahead w n) b off (t8 zs).toArray) os
def f5p (fs T : Nat) (els : j7 E) : j7 E := fun f l s K => bif Nat.beq f fs then match l with
  | [.nils] => K s (.tup [])
  | [.own id] => match o6 s.hp id with
   | some (_, .arr .int e xs) => cond (Nat.beq e T) (K (s.turn id (.arr .int e (t8 xs))) (.tup [])) (No f)
   | _ => No f
  | _ => No f
 else els f l s K
section
variable {w0 w : World} {G0 G : Gh} {M : Mu}
def e8y (h : Cx w0 G0 G w M) (n : Nat) (os : Array Obj) : Cx w0 G0 G (Go.Sort.grow (Go.Sort.ahead w n) os) M := by
 have hg : ∀ b, b < w.heap.size -> (Go.Sort.grow (Go.Sort.ahead w n) os).heap[b]? = w.heap[b]? := fun b hb => by
  show (w.heap ++ os)[b]? = _; rw [U4 hb]
 have hl : ∀ b (o : Obj), w.heap[b]? = some o -> b < w.heap.size := fun b o e => (E4.1 e).1
 exact ⟨fun b o hb => by rw [hg b (hl b o (h.holds b o hb))]; exact h.holds b o hb, h.os, h.tape, h.output, by
   have := h.size; show w0.heap.size <= (w.heap ++ os).size; rw [Array.size_append]; omega, fun b hb hm => by rw [hg b (by have := h.size; omega)]; exact h.old' b hb hm, h.gle, h.fresh, fun x hx => ⟨by
   rw [hg _ (hl _ _ (h.held x hx).1)]; exact (h.held x hx).1, (h.held x hx).2⟩, h.hnd⟩
def e2x {k : Nat} {l : List Bx} (h : Bxs G w k l M) (n : Nat) (os : Array Obj) : Bxs G (Go.Sort.grow (Go.Sort.ahead w n) os) k l M :=
 ⟨fun x hx => ⟨by
  show (w.heap ++ os)[x.1]? = _; rw [U4 (E4.1 (h.at_ x hx).1).1]; exact (h.at_ x hx).1, (h.at_ x hx).2⟩, h.nodup, h.apart⟩
def d2h {g off : Nat} {cs : List Value} {t : TypeId} {ys : List Int} (hg : w.heap[g]? = some (.cells cs.toArray t (0, 0))) (h : off + ys.length <= cs.length) :
  Go.Sort.putRow (Value.int .i64) w g off ys.toArray = w.setRow g (cs.take off ++ ys.map (Value.int .i64) ++ cs.drop (off + ys.length)).toArray := by
 have he : (cs.take off ++ ys.map (Value.int .i64) ++ cs.drop (off + ys.length)).toArray = Go.Sort.putCells (Value.int .i64) off ys.toArray cs.toArray := by
  apply J5; apply J1; intro k; simp only [Go.Sort.putCells, S9, Array.toList_mapIdx, List.getElem?_mapIdx]; by_cases h3 : k < off
  ·rw [B6, F4 (by simp; omega), List.getElem?_take_of_lt h3]
   cases cs[k]? with
   | none => rfl
   | some x => simp only [H8]; rw [F7 (by omega)]
  ·by_cases h4 : k < off + ys.length
   ·rw [F4 (by simp; omega), G7 (by simp; omega), C7, C4, J0 (by omega), B2 (show k - off < ys.length by omega), B2 (show k < cs.length by omega)]
    simp only [H8]; rw [F8 ⟨by omega, h4⟩, getElem!_pos _ _ (by simp; omega)]
    simp
   ·rw [G7 (by simp; omega), I7]
    simp only [B7, C4, C5, J0 (show off <= cs.length by omega)]; rw [show off + ys.length + (k - (off + ys.length)) = k by omega]; cases cs[k]? with
    | none => rfl
    | some x => simp only [H8]; rw [F7 (by omega)]
 rw [he]
 have hlt : g < w.heap.size := (E4.1 hg).1
 have hv : w.heap[g] = .cells cs.toArray t (0, 0) := (E4.1 hg).2
 unfold Go.Sort.putRow Go.Sort.mapBlock World.setRow
 cases w with
 | mk heap tape drawn os output =>
  congr 1
  apply Array.ext
  ·simp
  ·intro k h1 h2; simp only [Array.getElem_modify]; split
   ·rename_i hk; subst hk; simp at hv; simp [hv, Go.Sort.onCells]
   ·rfl
def c3m : ∀ {rows : List (List Value)} {xs : List Int}, p5 G rows xs -> rows = xs.map fun x => [Value.int .i64 x]
 | [], [], _ => rfl
 | r :: rs, x :: xs, h => by rw [c3m h.2]; have h1 : r = [.int .i64 x] := h.1; rw [h1]; rfl
 | [], _ :: _, h => h.elim
 | _ :: _, [], h => h.elim
def c3n : ∀ (xs : List Int), p5 G (xs.map fun x => [Value.int .i64 x]) xs
 | [] => trivial
 | _ :: xs => ⟨rfl, c3n xs⟩
def b9w : ∀ (xs : List Int), (xs.map fun x => [Value.int .i64 x]).flatten = xs.map (Value.int .i64)
 | [] => rfl
 | x :: xs => by rw [C9, Q9, b9w xs]; rfl
end
def e8z {fs T : Nat} (ho : e2w P fs) {els : j7 E} (he : j5 P els) : j5 P (f5p fs T els) := by
 intro w0 G0 f args s K m w vs rh hl hv h
 unfold f5p at h
 cases hb : Nat.beq f fs with
 | false => rw [hb] at h; exact he w0 G0 f args s K m w vs rh hl hv h
 | true =>
  rw [hb] at h; simp only [B5] at h; obtain rfl := A8 hb; split at h
  ·obtain ⟨v1, a1, b1⟩ := hv 0 _ rfl; have b1 : v1 = .slice none 0 0 := b1; subst b1; have hvl : vs = [.slice none 0 0] := by
    match vs, hl with
    | [p], _ => simp at a1; rw [a1]
   subst hvl; refine (ho.nil w).mono ?_; rintro e w' ⟨rfl, rfl⟩; exact ⟨_, rfl, s, m, .tup [], Up.refl m, rh, ⟨[], rfl, rfl⟩, h⟩
  ·rename_i id; split at h
   ·rename_i ver e xs hg; obtain ⟨hc, h⟩ := cnD h; obtain ⟨v1, a1, b1⟩ := hv 0 _ rfl; obtain ⟨_, h3a, h3⟩ := d6 rfl b1; have hvl : vs = [v1] := by
     match vs, hl with
     | [p], _ => simp at a1; rw [a1]
    subst hvl; obtain ⟨_, _, _, ⟨o, e1, e2, h5, h6⟩, _⟩ := rh.wd hg; obtain ⟨p, q, A, B, hC, hB, hT⟩ := rh.turn hg; rw [e1] at hB; rw [e2] at hC hB; obtain ⟨A1, n1, c1, h7⟩ := h3; rw [h7] at h3a h5; subst h3a; obtain ⟨rows, ⟨g1, g2⟩, g3⟩ := h5; have hr := c3m g3; cases o with
    | none =>
     obtain ⟨rfl, hv0⟩ := g2; obtain rfl : xs = [] := by cases xs with | nil => rfl | cons => simp at hr
     rw [hv0] at h7 ⊢; refine (ho.nil w).mono ?_; rintro e' w' ⟨rfl, rfl⟩; obtain ⟨u, r'⟩ := hT m.G w' (.arr .int e []) [] [] (GLe.refl _) hC hB ⟨none, rfl, rfl, by rw [h7]; exact Ow.nil_ _ _, by simp [d4]⟩; exact ⟨_, rfl, _, _, .tup [], u, r', ⟨[], rfl, rfl⟩, h⟩
    | some ob =>
     obtain ⟨g, T', cs⟩ := ob; obtain ⟨rfl, off, cap, hv0, k1, k2, k3, k4⟩ := g2; have hlen : rows.length = xs.length := g3.length; have hsz : Rp.sz Int = 1 := rfl; rw [hlen] at hv0 k1 k4; rw [hv0] at h7 ⊢; have k3 : cs.length = off + cap * 1 := k3; have k4 : (cs.drop off).take (xs.length * 1) = rows.flatten := k4; rw [R2] at k3 k4; rw [hr, b9w] at k4; have hi : (p ++ ([(g, T', cs)] ++ q))[p.length]? = some (g, T', cs) := by simp
     have hgb := hB.get hi; have hlt : g < w.heap.size := (E4.1 hgb.1).1; refine (ho.run g off cap xs w (fun j hj => ?_) hlt h6).mono ?_
     ·have hj : j < xs.length := by simpa using hj
      refine a6n hgb.1 ?_; have : ((cs.drop off).take xs.length)[j]? = (xs.map (Value.int .i64))[j]? := by rw [k4]
      rw [List.getElem?_take_of_lt hj, I7, C7] at this; rw [this]; simp [getElem!_pos, hj]
     ·rintro e' w' ⟨rfl, n, os, rfl⟩; have hl2 : (t8 xs).length = xs.length := a5b xs; have e5 : Go.Sort.putRow (Value.int .i64) (Go.Sort.ahead w n) g off (t8 xs).toArray = Go.Sort.ahead (w.setRow g (cs.take off ++ (t8 xs).map (Value.int .i64) ++ cs.drop (off + (t8 xs).length)).toArray) n := by
       rw [<- d2h hgb.1 (by omega)]; rfl
      rw [e5]; have hC' := e8y (hC.setRow' hgb.2.1 hgb.2.2 (hB.off hi) (cs.take off ++ (t8 xs).map (Value.int .i64) ++ cs.drop (off + (t8 xs).length)).toArray) n os; have hB' := e2x (hB.set hi (cs.take off ++ (t8 xs).map (Value.int .i64) ++ cs.drop (off + (t8 xs).length))) n os; rw [G4 _ _ (B9 _), W0] at hB'; obtain ⟨u, r'⟩ := hT m.G _ (.arr .int T' (t8 xs)) [(g, T', _)] [] (GLe.refl _) hC' hB' ⟨some (g, T', _), rfl, rfl, by
       rw [h7]; refine ⟨(t8 xs).map fun x => [Value.int .i64 x], ⟨fun r hr => ?_, rfl, off, cap, by rw [C5, hl2], by rw [C5]; omega, k2, ?_, ?_⟩, c3n _⟩
       ·obtain ⟨x, _, rfl⟩ := E1.1 hr; rfl
       ·show _ = off + cap * 1
        simp; omega
       ·show List.take (_ * 1) _ = _; rw [b9w, C5, R2, B6, T6 (by simp; omega), List.drop_take_self, T8, N7 (by simp), F9 (by simp)], by rw [hl2]; exact h6⟩
      exact ⟨_, rfl, _, _, .tup [], u, r', ⟨[], rfl, rfl⟩, h⟩
   ·exact h.elim
  ·exact h.elim
variable {E : DE} {P : Program} (F : DF E) (Z : ZF P E)
def okL (s : St E) : Nat -> Bool
 | 0 => true
 | k + 1 => (match o6 s.hp k with | some (q, _) => Nat.beq q k | none => false) && okL s k
def f5q (c : i8 E) (s : St E) (x : SV E) : Option (CL E c.rsh) := match c9b c.rsh x with
 | some l => match b9r s c.rsh l with
  | some s1 => bif okL s1 (c.es.length + 1) then b1w F s1.bs c.es [] c.rsh (l.map (rsv s1.hp)) else none
  | none => none
 | none => none
def i8.looks (P : Program) (f : Nat) (c : i8 E) : Prop := ∀ (a : CL E c.ash) (e : EL E c.es) (w0 : World) (G0 : Gh) (m : Mn E) (w : World) (vs : List Value), c.holds a e -> RelH w0 G0 (ocS F c e) m w -> LV m (a9r F c.es (List.range c.es.length) c.ash a) vs ->
 Calls P f vs.toArray w fun x w' => ∃ v, x = .returned v /\ ∃ s' m' y, Up m m' /\ RelH w0 G0 s' m' w' /\ RV m' y v /\ f5q F c s' y = some (c.post a e).1
def b9x (c : i8 E) (p : CL E c.rsh) : SV E := match a9r F c.es [] c.rsh p with
 | [x] => x
 | l => .tup l
def c3o (Λ : Nat -> Option (i8 E)) (els : j7 E) : j7 E := fun f l s K => match Λ f with
 | some c => match b6r F c s l with
  | some (s1, ρ, a, e) => cond (Nat.beq s1.hp.length (c.es.length + (frm s1 ρ []).length)) (match c.pre with
   | none => K s1 (b9x F c (c.post a e).1)
   | some p => Pre (p a e) /\ K s1 (b9x F c (c.post a e).1)) (No f)
  | none => No f
 | none => els f l s K
def i8.proveL {c : i8 E} {H : CL E c.ash -> EL E c.es -> Nat -> Nat -> Option (Hint E)} {call : CL E c.ash -> EL E c.es -> j7 E} (hc : ∀ a e, j5 P (call a e)) {f : Nat} {T : Prop} (t : T)
  (h : T = (∀ a e, c.holds a e -> inH F Z (H a e) (call a e) f (a9r F c.es (List.range c.es.length) c.ash a) (ocS F c e) (fun s x => f5q F c s x = some (c.post a e).1)) := by kernel_rfl) : c.looks F P f := by
 replace h := h.mp t
 intro a e w0 G0 m w vs hp rh hv
 obtain ⟨g1, g2⟩ := b9p hv
 exact a2l F Z (hc a e) w0 G0 f _ _ _ m w vs rh g1 (fun i x hi => by obtain ⟨v, h1, h2⟩ := g2 i x hi; exact ⟨v, h1, a8s h2⟩) (h a e hp)
variable {F}
def e2y {m : Mn E} {c : i8 E} {p : CL E c.rsh} {v : Value} {vs : List Value} (h : LV m (a9r F c.es [] c.rsh p) vs) (hv : (∃ x, c.rsh = [x] /\ vs = [v]) ∨ (c.rsh.length ≠ 1 /\ v = .tuple vs.toArray)) : RV m (b9x F c p) v := by
 have hl := b3t (F := F) (es := c.es) (ρ := []) (x := p)
 unfold b9x
 split
 ·rename_i x hx; rw [hx] at h; rcases hv with ⟨y, h1, rfl⟩ | ⟨h1, _⟩
  ·obtain ⟨u, us, e, g1, g2⟩ := h; injection e with e1 e2
   subst e1; exact a8s g1
  ·rw [hx] at hl; exact (h1 (by simpa using hl.symm)).elim
 ·rename_i hx; rcases hv with ⟨y, h1, rfl⟩ | ⟨_, rfl⟩
  ·obtain ⟨z, hz⟩ := W6.1 (hl.trans (congrArg List.length h1)); exact (hx z hz).elim
  ·exact ⟨vs, rfl, h⟩
def e2z {s : St E} : ∀ {k : Nat}, okL s k = true -> ∀ j, j < k -> ∃ x, o6 s.hp j = some (j, x)
 | 0, _, j, h => absurd h (Q7 j)
 | k + 1, hk, j, h => by
  unfold okL at hk; rw [A7] at hk; rcases R6 j k with h1 | h1
  ·exact e2z hk.2 j h1
  ·obtain rfl : j = k := by omega
   have h2 := hk.1; split at h2
   ·rename_i q x hx; obtain rfl := A8 h2; exact ⟨x, hx⟩
   ·cases h2
def b9y {α β : Type} {f : α -> List β} {g : Nat -> List β} {l : List α} (h : ∀ j x, l[j]? = some x -> g j = f x) : (List.range l.length).flatMap g = l.flatMap f := by
 have : l.flatMap f = ((List.range l.length).map fun j => l[j]?).flatMap fun x => match x with | some x => f x | none => [] := by
  have e : ((List.range l.length).map fun j => l[j]?) = l.map some := by
   apply J1; intro i; rw [C7, C7]; rcases R6 i l.length with h1 | h1
   ·rw [X9 h1]; simp [B2 h1]
   ·rw [I0 (by simpa using h1), I0 h1]; rfl
  rw [e, V6]
 rw [this, V6]
 refine List.flatMap_congr_ fun j hj => ?_
 have hj : j < l.length := by simpa using hj
 rw [B2 hj]
 exact h j _ (B2 hj)
def e3a {w0 w w' : World} {G0 : Gh} {s s3 : St E} {m m3 : Mn E} {ρ : List Nat} {oe : List (Nat × Nat × HB E)} {c : i8 E} {cs : List (HB E)} (r : RelH w0 G0 s m w) (hoe : a4m s ρ = some oe) (hk : ρ.length = c.es.length)
  (hn : b7k (ρ ++ (frm s ρ []).map fun x => x.1) = true) (hall : s.hp.Perm (oe ++ frm s ρ [])) (u : Up (m.sub oe cs (frm s ρ [])) m3) (r3 : RelH w0 G0 s3 m3 w') (ho : okL s3 (c.es.length + 1) = true) : RelH w0 G0 s (m.g m3.G) w' := by
 obtain ⟨o1, o2⟩ := a2h hoe
 have hl : oe.length = c.es.length := by rw [<- hk, <- o1, C5]
 obtain ⟨bl, L, hC, hB, hH⟩ := r.bx
 obtain ⟨eb, eL, hE⟩ := HR.iff.1 hH
 obtain ⟨bl3, L3, hC3, hB3, hH3⟩ := r3.bx
 obtain ⟨eb3, eL3, hE3⟩ := HR.iff.1 hH3
 have hex : ∀ k, k <= c.es.length + 1 -> ∃ es3 : List (Nat × Nat × HB E), es3.map (fun x => x.1) = List.range k /\ es3.map (fun x => x.2.1) = List.range k /\ ∀ x ∈ es3, x ∈ s3.hp := by
  intro k
  induction k with
  | zero => exact fun _ => ⟨[], rfl, rfl, fun x hx => by simp at hx⟩
  | succ k ih =>
   intro h; obtain ⟨es3, h1, h2, h3⟩ := ih (by omega); obtain ⟨x, hx⟩ := e2z ho k (by omega); refine ⟨es3 ++ [(k, k, x)], by simp [h1, W9], by simp [h2, W9], fun y hy => ?_⟩; rcases D4.1 hy with hy | hy
   ·exact h3 y hy
   ·rw [F3] at hy; subst hy; exact b9k hx
 obtain ⟨es3, h1, h2, h3⟩ := hex _ (B9 _)
 obtain ⟨rest, hperm⟩ := a7o (f := fun x : Nat × Nat × HB E => x.1) (a := es3) (b := s3.hp) (by rw [h1]; exact List.nodup_range) h3
 have p1 := a1p (fun x => m3.R x.2.1) hperm
 have p2 := a1p (fun x => m3.O x.2.1) hperm
 rw [E3] at p1 p2
 have q1 : es3.flatMap (fun x => m3.R x.2.1) = (oe ++ frm s ρ []).flatMap fun x => m.R x.2.1 := by
  have : es3.flatMap (fun x => m3.R x.2.1) = (List.range (c.es.length + 1)).flatMap m3.R := by rw [<- h2, V6]
  rw [this, W9, E3, E3, <- hl]
  congr 1
  ·refine (b9y (f := fun x : Nat × Nat × HB E => m.R x.2.1) fun j x hj => ?_); have hlt := (C8.1 hj).1; rw [u.r j (by show j < oe.length + 1; omega)]
   simp only [Mn.sub, hj]
  ·rw [List.flatMap_singleton, u.r _ (by show oe.length < oe.length + 1; omega)]
   simp [Mn.sub]
 have q2 : es3.flatMap (fun x => m3.O x.2.1) = (oe ++ frm s ρ []).flatMap fun x => m.O x.2.1 := by
  have : es3.flatMap (fun x => m3.O x.2.1) = (List.range (c.es.length + 1)).flatMap m3.O := by rw [<- h2, V6]
  rw [this, W9, E3, E3, <- hl]
  congr 1
  ·refine (b9y (f := fun x : Nat × Nat × HB E => m.O x.2.1) fun j x hj => ?_); have hlt := (C8.1 hj).1; rw [u.o j (by show j < oe.length + 1; omega)]
   simp only [Mn.sub, hj]
  ·rw [List.flatMap_singleton, u.o _ (by show oe.length < oe.length + 1; omega)]
   simp [Mn.sub]
 rw [q1] at p1
 rw [q2] at p2
 have s1 := a1p (fun x => m.R x.2.1) hall
 have s2 := a1p (fun x => m.O x.2.1) hall
 obtain ⟨hC2, hB2⟩ := a4z (b2 := bl) (L2 := L) hC3 hB3 (by rw [eb3, eb]; exact p1.trans (W7 _ s1.symm)) (by rw [eL3, eL]; exact p2.trans (W7 _ s2.symm))
 exact ⟨⟨bl, L, Cx.gcast hC2 rfl, Bxs.gcast hB2 rfl, hH.up (Mn.g_up (show GLe m.G m3.G from fun b o h => u.g b o h))⟩, r.n, r.bs⟩
def b9z {Λ : Nat -> Option (i8 E)} (hΛ : ∀ f c, Λ f = some c -> c.looks F P f) {els : j7 E} (he : j5 P els) : j5 P (c3o F Λ els) := by
 intro w0 G0 f args s K m w vs rh hl hv h
 unfold c3o at h
 split at h
 ·rename_i c hc; split at h
  ·rename_i s2 ρ a e hpre; obtain ⟨hln, h⟩ := cnD h; have hln := A8 hln; obtain ⟨hp, hK⟩ : c.holds a e /\ K s2 (b9x F c (c.post a e).1) := by
    unfold i8.holds; cases hpp : c.pre with
    | none => simp only [hpp] at h ⊢; exact ⟨trivial, h⟩
    | some p => simp only [hpp] at h ⊢; obtain ⟨⟨h1⟩, h2⟩ := h; exact ⟨h1, h2⟩
   unfold b6r at hpre; split at hpre
   ·rename_i ρ' hρ; split at hpre
    ·rename_i s1 hs1; split at hpre
     ·rename_i s2' hs2; split at hpre
      ·rename_i oe hoe; cases hn : b7k (ρ' ++ (frm s2' ρ' []).map fun x => x.1) with
       | false => rw [hn] at hpre; cases hpre
       | true =>
        rw [hn] at hpre; simp only [B5] at hpre; split at hpre
        ·rename_i a' e' ha he'; simp only [A3, I4] at hpre; obtain ⟨rfl, rfl, rfl, rfl⟩ := hpre; have hk : ρ'.length = c.es.length := by have := b3s hρ; simpa using this
         obtain ⟨m1, u1, r1, _, _⟩ := b0x rh hs1; obtain ⟨m2, u2, r2, _, _⟩ := b0y r1 hs2; obtain ⟨n1, rS⟩ := e2f r2 hoe hn hk he'; obtain ⟨_, _, _, _, hH2⟩ := r2.bx; rw [<- r2.bs] at ha; have hA := a7p n1 ha (vs := vs) (by rw [C5]; exact hl) fun i x hi => by
          rw [C7] at hi; obtain ⟨y, hy, rfl⟩ := D8.1 hi; obtain ⟨v, h1, h2⟩ := hv i y hy; exact ⟨v, h1, ((h2.up u1).up u2).rsv hH2⟩
         obtain ⟨o1, o2⟩ := a2h hoe; have hol : oe.length = c.es.length := by rw [<- hk, <- o1, C5]
         obtain ⟨rest, hperm⟩ := a7o (f := fun x : Nat × Nat × HB E => x.1) (a := oe ++ frm s2' ρ' []) (b := s2'.hp) (by
           rw [F5, o1]; exact b3o hn) (fun x hx => by
           rcases D4.1 hx with hx | hx
           ·exact o2 x hx
           ·exact (H9.1 hx).1)
         have hrest : rest = [] := by
          have := hperm.length_eq; rw [B7, B7] at this; exact H6.1 (by omega)
         rw [hrest, D6] at hperm; refine Calls.mono (hΛ f c hc a' e' w0 G0 _ w vs hp rS hA) ?_; rintro x w' ⟨v, hx, s', m', y, u', r', hy, hfin⟩; unfold f5q at hfin; split at hfin
         ·rename_i l hcomp; split at hfin
          ·rename_i s3 hs3; obtain ⟨m3, u3, r3, _, _⟩ := b0x r' hs3; cases hok : okL s3 (c.es.length + 1) with
           | false => rw [hok] at hfin; cases hfin
           | true =>
            rw [hok, B5] at hfin; have rb := e3a r2 hoe hk hn hperm (u'.trans u3) r3 hok; obtain ⟨us, c1, c2, c3⟩ := b9t hcomp (hy.up u3); obtain ⟨_, _, _, _, hH4⟩ := r3.bx; rw [<- r3.bs] at hfin; have nn : NR m3 [] (m2.g m3.G) [] := ⟨fun _ _ h => h, fun j id h => by simp at h⟩; have hR := a7p nn hfin (vs := us) (by rw [C5]; exact c1) fun i x hi => by
             rw [C7] at hi; obtain ⟨z, hz, rfl⟩ := D8.1 hi; obtain ⟨v, h1, h2⟩ := c2 i z hz; exact ⟨v, h1, h2.rsv hH4⟩
            exact ⟨v, hx, _, _, _, (u1.trans u2).trans (Mn.g_up fun b o h => (u'.trans u3).g b o h), rb, e2y hR c3, hK⟩
          ·cases hfin
         ·cases hfin
        ·cases hpre
      ·cases hpre
     ·cases hpre
    ·cases hpre
   ·cases hpre
  ·exact h.elim
 ·exact he w0 G0 f args s K m w vs rh hl hv h
def a4n (F : DF E) (Z : ZF P E) (Λ : Nat -> Option (i8 E)) (Γ : Nat -> Option (Con E)) (Δ : Nat -> Option (i8 E)) (H : Nat -> Nat -> Option (Hint E)) : Nat -> j7 E
 | 0 => c3o F Λ (b1o F Γ (a5t F Δ noH))
 | n + 1 => c3o F Λ (b1o F Γ (a5t F Δ (inH F Z H (a4n F Z Λ Γ Δ H n))))
def a0r (F : DF E) (P : Program) (Λ : Nat -> Option (i8 E)) : Prop := ∀ f c, Λ f = some c -> c.looks F P f
def a0r.nil : a0r F P fun _ => none := fun _ _ h => by cases h
def a0r.o {Λ : Nat -> Option (i8 E)} (h : a0r F P Λ) {f : Nat} {c : i8 E} (hc : c.looks F P f) : a0r F P (u6 Λ f c) := fun g c' hg => by
 unfold u6 at hg
 cases hb : Nat.beq g f with
 | false => rw [hb] at hg; exact h g c' hg
 | true => rw [hb, B5] at hg; obtain rfl := A8 hb; obtain rfl := I9 hg; exact hc
def a1b {Z : ZF P E} {Λ : Nat -> Option (i8 E)} (hΛ : a0r F P Λ) {Γ : Nat -> Option (Con E)} {Δ : Nat -> Option (i8 E)} (h : n3 F P Γ Δ) {H : Nat -> Nat -> Option (Hint E)} : ∀ n, j5 P (a4n F Z Λ Γ Δ H n)
 | 0 => b9z hΛ (a2q F h.g (a1l F h.d a7a))
 | n + 1 => b9z hΛ (a2q F h.g (a1l F h.d (a2l F Z (a1b hΛ h n))))
end Go.Vz
namespace Go.Vz
open Go Go.Gx
variable {E : DE} {P : Program} (F : DF E) (Z : ZF P E)
inductive Nmd {α : Type} (a : α) (K : α -> Prop) : Prop where
  | mk (h : ∀ q, a = q -> K q)
def c3p (Δ : Nat -> Option (i8 E)) (els : j7 E) : j7 E := fun f l s K => match Δ f with
 | some c => match b6r F c s l with
  | some (s1, ρ, a, e) => match c.pre with
   | none => Nmd (c.post a e) fun q => K (b5m F c s1 ρ q.2) (b9s F c s1 ρ q.1)
   | some p => Pre (p a e) /\ Nmd (c.post a e) fun q => K (b5m F c s1 ρ q.2) (b9s F c s1 ρ q.1)
  | none => No f
 | none => els f l s K
def c3q (Λ : Nat -> Option (i8 E)) (els : j7 E) : j7 E := fun f l s K => match Λ f with
 | some c => match b6r F c s l with
  | some (s1, ρ, a, e) => cond (Nat.beq s1.hp.length (c.es.length + (frm s1 ρ []).length)) (match c.pre with
   | none => Nmd (c.post a e).1 fun q => K s1 (b9x F c q)
   | some p => Pre (p a e) /\ Nmd (c.post a e).1 fun q => K s1 (b9x F c q)) (No f)
  | none => No f
 | none => els f l s K
variable {F}
def e9a {Δ : Nat -> Option (i8 E)} {els : j7 E} {f : Nat} {l : List (SV E)} {s : St E} {K : St E -> SV E -> Prop} (h : c3p F Δ els f l s K) : a5t F Δ els f l s K := by
 unfold c3p at h
 unfold a5t
 cases hc : Δ f with
 | none => simp only [hc] at h ⊢; exact h
 | some c =>
  simp only [hc] at h ⊢; cases hp : b6r F c s l with
  | none => simp only [hp] at h; exact h.elim
  | some q =>
   obtain ⟨s1, ρ, a, e⟩ := q; simp only [hp] at h ⊢; cases hq : c.pre with
   | none => simp only [hq] at h ⊢; obtain ⟨h⟩ := h; exact h _ rfl
   | some p => simp only [hq] at h ⊢; obtain ⟨h1, ⟨h⟩⟩ := h; exact ⟨h1, h _ rfl⟩
def e9b {Λ : Nat -> Option (i8 E)} {els : j7 E} {f : Nat} {l : List (SV E)} {s : St E} {K : St E -> SV E -> Prop} (h : c3q F Λ els f l s K) : c3o F Λ els f l s K := by
 unfold c3q at h
 unfold c3o
 cases hc : Λ f with
 | none => simp only [hc] at h ⊢; exact h
 | some c =>
  simp only [hc] at h ⊢; cases hp : b6r F c s l with
  | none => simp only [hp] at h; exact h.elim
  | some q =>
   obtain ⟨s1, ρ, a, e⟩ := q; simp only [hp] at h ⊢; cases hb : Nat.beq s1.hp.length (c.es.length + (frm s1 ρ []).length) with
   | false => rw [hb] at h; exact h.elim
   | true =>
    rw [hb] at h; simp only [B5] at h ⊢; cases hq : c.pre with
    | none => simp only [hq] at h ⊢; obtain ⟨h⟩ := h; exact h _ rfl
    | some p => simp only [hq] at h ⊢; obtain ⟨h1, ⟨h⟩⟩ := h; exact ⟨h1, h _ rfl⟩
def c0a {Δ : Nat -> Option (i8 E)} (hΔ : ∀ f c, Δ f = some c -> c.ok F P f) {els : j7 E} (he : j5 P els) : j5 P (c3p F Δ els) :=
 fun w0 G0 f args s K m w vs rh hl hv h => a1l F hΔ he w0 G0 f args s K m w vs rh hl hv (e9a h)
def c0b {Λ : Nat -> Option (i8 E)} (hΛ : ∀ f c, Λ f = some c -> c.looks F P f) {els : j7 E} (he : j5 P els) : j5 P (c3q F Λ els) :=
 fun w0 G0 f args s K m w vs rh hl hv h => b9z hΛ he w0 G0 f args s K m w vs rh hl hv (e9b h)
def a3q (F : DF E) (Z : ZF P E) (Λ : Nat -> Option (i8 E)) (Γ : Nat -> Option (Con E)) (Δ : Nat -> Option (i8 E)) (H : Nat -> Nat -> Option (Hint E)) : Nat -> j7 E
 | 0 => c3q F Λ (b1o F Γ (c3p F Δ noH))
 | n + 1 => c3q F Λ (b1o F Γ (c3p F Δ (inH F Z H (a3q F Z Λ Γ Δ H n))))
def a0q {Z : ZF P E} {Λ : Nat -> Option (i8 E)} (hΛ : a0r F P Λ) {Γ : Nat -> Option (Con E)} {Δ : Nat -> Option (i8 E)} (h : n3 F P Γ Δ) {H : Nat -> Nat -> Option (Hint E)} : ∀ n, j5 P (a3q F Z Λ Γ Δ H n)
 | 0 => c0b hΛ (a2q F h.g (c0a h.d a7a))
 | n + 1 => c0b hΛ (a2q F h.g (c0a h.d (a2l F Z (a0q hΛ h n))))
end Go.Vz
namespace Go.Vz
open Go Go.Gx
variable {E : DE} {P : Program} (F : DF E) (Z : ZF P E)
def e9c (Γ : Nat -> Option (Con E)) (els : j7 E) : j7 E := fun f l s K => match Γ f with
 | some c => match b5e s l with
  | some s1 => match a2w F s1.bs c.ts (l.map (rsv s1.hp)) with
   | some a => match c.pre with
    | none => Nmd (c.ret a) fun q => K s1 (b2k F c.rt q)
    | some p => Pre (p a) /\ Nmd (c.ret a) fun q => K s1 (b2k F c.rt q)
   | none => No f
  | none => No f
 | none => els f l s K
variable {F}
def f5r {Γ : Nat -> Option (Con E)} {els : j7 E} {f : Nat} {l : List (SV E)} {s : St E} {K : St E -> SV E -> Prop} (h : e9c F Γ els f l s K) : b1o F Γ els f l s K := by
 unfold e9c at h
 unfold b1o
 cases hc : Γ f with
 | none => simp only [hc] at h ⊢; exact h
 | some c =>
  simp only [hc] at h ⊢; cases hs : b5e s l with
  | none => simp only [hs] at h; exact h.elim
  | some s1 =>
   simp only [hs] at h ⊢; cases ha : a2w F s1.bs c.ts (l.map (rsv s1.hp)) with
   | none => simp only [ha] at h; exact h.elim
   | some a =>
    simp only [ha] at h ⊢; cases hq : c.pre with
    | none => simp only [hq] at h ⊢; obtain ⟨h⟩ := h; exact h _ rfl
    | some p => simp only [hq] at h ⊢; obtain ⟨h1, ⟨h⟩⟩ := h; exact ⟨h1, h _ rfl⟩
def e9d {Γ : Nat -> Option (Con E)} (hΓ : ∀ f c, Γ f = some c -> c.ok P f) {els : j7 E} (he : j5 P els) : j5 P (e9c F Γ els) :=
 fun w0 G0 f args s K m w vs rh hl hv h => a2q F hΓ he w0 G0 f args s K m w vs rh hl hv (f5r h)
end Go.Vz
namespace Go.Vz
open Go Go.Gx
variable {E : DE} {P : Program} (F : DF E) (Z : ZF P E)
def d2i (c : Con E) (f0 : Nat) (tell : St E -> Option (HL E c.rt)) (els : j7 E) : j7 E := fun f l s K => match Nat.beq f f0 with
 | true => match b5e s l with
  | some s1 => match a2w F s1.bs c.ts (l.map (rsv s1.hp)) with
   | some a => match tell s with
    | some y => Pre (c.holds a /\ c.ret a = y) /\ K s1 (b2k F c.rt y)
    | none => Pre (c.holds a) /\ Nmd (c.ret a) fun q => K s1 (b2k F c.rt q)
   | none => No f
  | none => No f
 | false => els f l s K
variable {F}
def f5s {c : Con E} {f0 : Nat} {tell : St E -> Option (HL E c.rt)} {els : j7 E} {f : Nat} {l : List (SV E)} {s : St E} {K : St E -> SV E -> Prop} (h : d2i F c f0 tell els f l s K) : b1o F (i5 noC f0 c) els f l s K := by
 unfold d2i at h
 unfold b1o i5 noC
 cases hb : Nat.beq f f0 with
 | false => simp only [hb, B8] at h ⊢; exact h
 | true =>
  simp only [hb, B5] at h ⊢; cases hs : b5e s l with
  | none => simp only [hs] at h; exact h.elim
  | some s1 =>
   simp only [hs] at h ⊢; cases ha : a2w F s1.bs c.ts (l.map (rsv s1.hp)) with
   | none => simp only [ha] at h; exact h.elim
   | some a =>
    simp only [ha] at h ⊢; have key : c.holds a /\ K s1 (b2k F c.rt (c.ret a)) := by
     cases ht : tell s with
     | some y => simp only [ht] at h; obtain ⟨⟨h1, h2⟩, h3⟩ := h; rw [h2]; exact ⟨h1, h3⟩
     | none => simp only [ht] at h; obtain ⟨⟨h1⟩, ⟨h2⟩⟩ := h; exact ⟨h1, h2 _ rfl⟩
    obtain ⟨h1, h2⟩ := key; unfold Con.holds at h1; cases hq : c.pre with
    | none => exact h2
    | some p => rw [hq] at h1; exact ⟨⟨h1⟩, h2⟩
def b8c {c : Con E} {f0 : Nat} (hc : c.ok P f0) {tell : St E -> Option (HL E c.rt)} {els : j7 E} (he : j5 P els) : j5 P (d2i F c f0 tell els) :=
 fun w0 G0 f args s K m w vs rh hl hv h => a2q F (Γ := i5 noC f0 c) (fun g c' hg => by
  unfold i5 noC at hg; cases hb : Nat.beq g f0 with
  | false => rw [hb] at hg; cases hg
  | true => rw [hb] at hg; cases hg; rw [A8 hb]; exact hc) he w0 G0 f args s K m w vs rh hl hv (f5s h)
def Con.proveHS {ι : Type} {Z : ZF P E} {c : Con E} (sh : ι -> HL E c.ts) (q : ι -> Prop) (hs : ∀ a, c.holds a -> ∃ i, a = sh i /\ q i) {H : ι -> Nat -> Nat -> Option (Hint E)} {call : ι -> j7 E} (hcall : ∀ i, j5 P (call i)) {f : Nat} {T : Prop} (t : T)
  (h : T = (∀ i, q i -> inH F Z (H i) (call i) f (a1z F c.ts (sh i)) {} (fun s x => d2c F c.rt s x = some (c.ret (sh i)))) := by kernel_rfl) : c.ok P f := by
 replace h := h.mp t
 intro a G w vs hw hp hv
 obtain ⟨i, rfl, hq⟩ := hs a hp
 exact (Con.proveH (c := { c with pre := some fun a => a = sh i }) F Z (H := fun _ => H i) (call := fun _ => call i) (fun _ => hcall i) (f := f) (T := ∀ a, a = sh i -> inH F Z (H i) (call i) f (a1z F c.ts a) {} (fun s x => d2c F c.rt s x = some (c.ret a))) (fun a ha => by subst ha; exact h i hq) rfl) (sh i) G w vs hw rfl hv
end Go.Vz
