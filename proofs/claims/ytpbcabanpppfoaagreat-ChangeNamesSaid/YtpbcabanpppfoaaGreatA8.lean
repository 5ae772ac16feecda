/- A part of the proof. No condition. -/
import Derived.Test.YtpbcabanpppfoaaGreatA7
import Derived.Test.YtpbcabanpppfoaaGreatRows
import Derived.Shelf.SlIterI.Nil
import Derived.Shelf.SortM.Plain
import Derived.Shelf.SortM.SortNone
import Derived.Shelf.SlGeneric
set_option linter.all false
namespace Go.Vz
open Go Go.Gx
variable {E : DE} {P : Program} (F : DF E) (Z : ZF P E)
def c3r : Ty -> Bool
 | .st _ => false
 | .sl _ => false
 | _ => true
def IsV.flat {G G2 : Gh} {t : Ty} {x : t.den E} {v : Value} (h : c3r t = true) (hv : IsV G t x v) : IsV G2 t x v := by
 cases t <;> first | exact hv | cases h
def a8d.flat {G G2 : Gh} : ∀ {ts : List Ty} {a : HL E ts} {vs : List Value}, ts.all c3r = true -> a8d G ts a vs -> a8d G2 ts a vs
 | [], _, _, _, h => h
 | t :: r, a, vs, hf, ⟨v, us, e, h1, h2⟩ => by
  rw [N6, A7] at hf; exact ⟨v, us, e, IsV.flat hf.1 h1, a8d.flat hf.2 h2⟩
def b6p.flat {G G2 : Gh} {rt : List Ty} {a : HL E rt} {v : Value} (hf : rt.all c3r = true) (h : b6p G rt a v) : b6p G2 rt a v := by
 match rt, a, hf, h with
 | [], _, _, h => exact h
 | [t], a, hf, h => rw [N6, A7] at hf; exact IsV.flat hf.1 h
 | t :: u :: r, a, hf, ⟨vs, h1, h2⟩ => exact ⟨vs, h1, a8d.flat hf h2⟩
def e3b (Γ : Nat -> Option (Con E)) (els : j7 E) : j7 E := fun f l s K => match Γ f with
 | some c => match c.rt.all c3r with
  | true => match b5e s l with
   | some s1 => match a2w F s1.bs c.ts (l.map (rsv s1.hp)) with
    | some a => match c.pre with | none => K s (b2k F c.rt (c.ret a)) | some p => Pre (p a) /\ K s (b2k F c.rt (c.ret a))
    | none => No f
   | none => No f
  | false => els f l s K
 | none => els f l s K
variable {F}
def Cx.lent {w w' : World} {G G1 G' : Gh} (hg : GLe G G1) (hk : Cx w G1 G' w') : Cx w G G w' :=
 ⟨fun b o h => hk.holds b o (hk.gle b o (hg b o h)), hk.os, hk.tape, hk.output, hk.size, hk.old', fun _ _ h => h, fun _ _ h => .inl h, fun x h => by simp at h, by simp⟩
def e3c {Γ : Nat -> Option (Con E)} (hΓ : ∀ f c, Γ f = some c -> c.ok P f) {els : j7 E} (he : j5 P els) : j5 P (e3b F Γ els) := by
 intro w0 G0 f args s K m w vs rh hl hv h
 unfold e3b at h
 split at h
 ·rename_i c hc; split at h
  ·rename_i hflat; split at h
   ·rename_i s1 hs1; obtain ⟨m1, u1, rh1, _, _⟩ := a8c rh hs1; obtain ⟨_, _, _, _, hH1⟩ := rh1.bx; split at h
    ·rename_i a ha; obtain ⟨hp, hK⟩ : c.holds a /\ K s (b2k F c.rt (c.ret a)) := by
      unfold Con.holds; split at h
      ·rename_i hp; rw [hp]; exact ⟨trivial, h⟩
      ·rename_i hp; rw [hp]; obtain ⟨⟨h1⟩, h2⟩ := h; exact ⟨h1, h2⟩
     rw [<- rh1.bs] at ha; have hIs := a3o F ha (vs := vs) (by rw [C5]; exact hl) fun i x hi => by
      rw [C7] at hi; obtain ⟨y, hy, rfl⟩ := D8.1 hi; obtain ⟨v, h1, h2⟩ := hv i y hy; exact ⟨v, h1, (h2.up u1).rsv hH1⟩
     refine Calls.mono (hΓ f c hc a m1.G w vs rh1.holds hp hIs) ?_; rintro e w' ⟨v, G', he, hk, hR⟩; obtain ⟨bl, L, hC, hB, hH⟩ := rh.bx; have hk0 : Cx w m.G m.G w' := Cx.lent u1.g hk; exact ⟨v, he, s, m, b2k F c.rt (c.ret a), Up.refl m, ⟨⟨bl, L, hC.trans hk0, hB.ext hk0, hH⟩, rh.n, rh.bs⟩, c5s (m := m) (b6p.flat hflat hR), hK⟩
    ·exact h.elim
   ·exact h.elim
  ·exact he w0 G0 f args s K m w vs rh hl hv h
 ·exact he w0 G0 f args s K m w vs rh hl hv h
end Go.Vz
namespace Go.Vz
open Go Go.Gx
variable {E : DE} {P : Program} (F : DF E) (Z : ZF P E)
structure a4o (E : DE) where
  ts : List Ty
  t : Ty
  e : Nat
  rt : List Ty := []
  pre : Option (HL E ts -> Prop) := none
  ret : HL E ts -> List (t.den E) × HL E rt
def a4o.holds (c : a4o E) (a : HL E c.ts) : Prop := match c.pre with | none => True | some p => p a
def a4o.flat (c : a4o E) : Prop := (∀ (G G2 : Gh) (cs : List Value) (x : c.t.den E), @Rp.Is _ (c.t.rp E) G cs x -> @Rp.Is _ (c.t.rp E) G2 cs x) /\ c.rt.all c3r = true
def g2s (u : Value) (us : List Value) : List Ty -> Value
 | [] => u
 | _ :: _ => .tuple (u :: us).toArray
def a4o.ok (P : Program) (f : Nat) (c : a4o E) : Prop := c.flat /\ ∀ (a : HL E c.ts) (G : Gh) (w : World) (vs : List Value), Holds G w -> c.holds a -> a8d G c.ts a vs ->
 Calls P f vs.toArray w fun ex w' => ∃ v, ex = .returned v /\ ∃ (G' : Gh) (o : Option Bx) (u : Value) (us : List Value), Cx w G G' w' {} /\ Bxs G' w' w.heap.size o.toList {} /\ @Ow _ (c.t.rp E) G' o c.e u (c.ret a).1 /\ (c.ret a).1.length <= d4 /\ a8d G' c.rt (c.ret a).2 us /\ v = g2s u us c.rt
variable {F}
def Bxs.sub {G : Gh} {w : World} {n : Nat} {bl r : List Bx} {L : List (Nat × Obj)} (h : Bxs G w n bl ⟨[], L⟩) (hs : r.Sublist bl) : Bxs G w n r {} :=
 ⟨fun x hx => h.at_ x (hs.subset hx), h.nodup.sublist (hs.map _), fun _ _ h => H4 h⟩
def p5.flat {α : Type} [Rp α] {G G2 : Gh} (hf : ∀ cs (x : α), Rp.Is G cs x -> Rp.Is G2 cs x) : ∀ {rs : List (List Value)} {xs : List α}, p5 G rs xs -> p5 G2 rs xs
 | [], [], _ => trivial
 | _ :: _, _ :: _, ⟨h1, h2⟩ => ⟨hf _ _ h1, p5.flat hf h2⟩
 | [], _ :: _, h => h.elim
 | _ :: _, [], h => h.elim
def Ow.flat {α : Type} [Rp α] {G G2 : Gh} (hf : ∀ cs (x : α), Rp.Is G cs x -> Rp.Is G2 cs x) {o : Option Bx} {T : Nat} {v : Value} {xs : List α} (h : Ow G o T v xs) : Ow G2 o T v xs := by
 obtain ⟨rows, h1, h2⟩ := h
 exact ⟨rows, h1, p5.flat hf h2⟩
variable (F)
def g2t (id : Nat) : (rt : List Ty) -> HL E rt -> SV E
 | [], _ => .own id
 | t :: r, b => .tup (.own id :: a1z F (t :: r) b)
def e3d (Φ : Nat -> Option (a4o E)) (els : j7 E) : j7 E := fun f l s K => match Φ f with
 | some c => match b5e s l with
  | some s1 => match a2w F s1.bs c.ts (l.map (rsv s1.hp)) with
   | some a => c.holds a /\ K (s.new (.arr c.t c.e (c.ret a).1)) (g2t F s.n c.rt (c.ret a).2)
   | none => No f
  | none => No f
 | none => els f l s K
variable {F}
def e9e {m : Mn E} {G : Gh} {id : Nat} {u : Value} {us : List Value} (h : V1 m (.own id) u) : ∀ {rt : List Ty} {b : HL E rt}, rt.all c3r = true -> a8d G rt b us -> RV m (g2t F id rt b) (g2s u us rt)
 | [], _, _, _ => a8s h
 | t :: r, b, hf, hus => ⟨u :: us, rfl, u, us, rfl, h, b9o (F := F) (a8d.flat (G2 := m.G) hf hus)⟩
def e3e {Φ : Nat -> Option (a4o E)} (hΦ : ∀ f c, Φ f = some c -> c.ok P f) {els : j7 E} (he : j5 P els) : j5 P (e3d F Φ els) := by
 intro w0 G0 f args s K m w vs rh hl hv h
 unfold e3d at h
 split at h
 ·rename_i c hc; split at h
  ·rename_i s1 hs1; obtain ⟨m1, u1, rh1, _, _⟩ := a8c rh hs1; obtain ⟨_, _, _, _, hH1⟩ := rh1.bx; split at h
   ·rename_i a ha; obtain ⟨hp, hK⟩ := h; rw [<- rh1.bs] at ha; have hIs := a3o F ha (vs := vs) (by rw [C5]; exact hl) fun i x hi => by
     rw [C7] at hi; obtain ⟨y, hy, rfl⟩ := D8.1 hi; obtain ⟨v, h1, h2⟩ := hv i y hy; exact ⟨v, h1, (h2.up u1).rsv hH1⟩
    obtain ⟨⟨hfl, hrt⟩, hcall⟩ := hΦ f c hc; refine Calls.mono (hcall a m1.G w vs rh1.holds hp hIs) ?_; rintro e w' ⟨v, he, G', o, u, us, hk, hB', hO, hlen, hus, hval⟩; obtain ⟨bl, L, hC, hB, hH⟩ := rh.bx; have hk0 : Cx w m.G m.G w' := Cx.lent u1.g hk; have hold : ∀ b, (∃ x, w.heap[b]? = some x) -> b < w.heap.size := fun b ⟨x, hx⟩ => by
     rcases R6 b w.heap.size with h | h
     ·exact h
     ·rw [Array.getElem?_eq_none h] at hx; cases hx
    have hfresh : ∀ x ∈ o.toList, w.heap.size <= x.1 := fun x hx => by
     rcases (hB'.at_ x hx).2.2 with h | h
     ·exact h
     ·simp at h
    have hC2 := hC.trans hk0; have hB2 := hB.ext hk0; have hBn : Bxs m.G w' w0.heap.size (o.toList ++ bl) ⟨[], L⟩ := by
     refine ⟨fun x hx => ?_, ?_, fun x hx => ?_⟩
     ·rcases D4.1 hx with hx | hx
      ·refine ⟨(hB'.at_ x hx).1, ?_, .inl (D5 hC.size (hfresh x hx))⟩; cases hg : m.G x.1 with
       | none => rfl
       | some ob => exact absurd (hold _ ⟨ob, hC.holds _ _ hg⟩) (Nat.not_lt.2 (hfresh x hx))
      ·exact hB2.at_ x hx
     ·rw [F5, P6]; refine ⟨hB'.nodup, hB2.nodup, fun b1 h1 b2 h2 he => ?_⟩; obtain ⟨x, hx, rfl⟩ := E1.1 h1; obtain ⟨y, hy, rfl⟩ := E1.1 h2; have h3 := hold _ ⟨_, (hB.at_ y hy).1⟩; have h4 := hfresh x hx; omega
     ·rcases D4.1 hx with hx | hx
      ·intro hm; obtain ⟨y, hy, hyx⟩ := E1.1 hm; have h3 := hold _ ⟨_, (hC.held y hy).1⟩; have h4 := hfresh x hx; omega
      ·exact hB2.apart x hx
    have hOw : @Ow _ (c.t.rp E) m.G o c.e u (c.ret a).1 := @Ow.flat _ (c.t.rp E) G' m.G (fun cs x hx => hfl G' m.G cs x hx) o c.e u _ hO; have hx : HB1 m (.arr c.t c.e (c.ret a).1) u o.toList [] := ⟨o, rfl, rfl, hOw, hlen⟩; have rh2 : RelH w0 G0 (s.new (.arr c.t c.e (c.ret a).1)) (m.add u (.arr c.t c.e (c.ret a).1) o.toList []) w' := by
     refine ⟨⟨_, _, hC2, hBn, ?_⟩, by simp [Mn.add, St.new, rh.n], rh.bs⟩; have := hH.new (v := u) hx
     rwa [rh.n] at this
    have hid : V1 (m.add u (.arr c.t c.e (c.ret a).1) o.toList []) (.own s.n) u := by
     obtain ⟨A, cap, hf⟩ := @Ow.form _ (c.t.rp E) _ _ _ _ _ hOw; refine ⟨by rw [<- rh.n]; exact N4 _, by rw [<- rh.n]; exact Mn.add_ν.symm, A, _, cap, by rw [<- rh.n, Mn.add_ν]; exact hf⟩
    refine ⟨v, he, _, _, _, Mn.add_up, rh2, ?_, hK⟩; rw [hval]; exact e9e hid hrt hus
   ·exact h.elim
  ·exact h.elim
 ·exact he w0 G0 f args s K m w vs rh hl hv h
def f5t (c : a4o E) (s : St E) : SV E -> Option (List (c.t.den E))
 | .own id => match o6 s.hp id with
  | some (_, .arr t e xs) => bif Nat.beq c.e e then Ty.to (fun t => List (t.den E)) t c.t xs else none
  | _ => none
 | .nils => some []
 | _ => none
variable (F) in
def g2u (c : a4o E) (s : St E) (x : SV E) : Option (List (c.t.den E) × HL E c.rt) := match c9b (.nm 0 :: c.rt.map CS.dat) x with
 | some (y :: l) => match f5t c s y, a2w F s.bs c.rt (l.map (rsv s.hp)) with
  | some ys, some b => some (ys, b)
  | _, _ => none
 | _ => none
def e9f {c : a4o E} {w0 w : World} {G0 : Gh} {s : St E} {m : Mn E} (r : RelH w0 G0 s m w) {y : SV E} {u : Value} {ys : List (c.t.den E)} (h : f5t c s y = some ys) (hv : RV m y u) :
  ∃ o : Option Bx, Bxs m.G w w0.heap.size o.toList {} /\ @Ow _ (c.t.rp E) m.G o c.e u ys /\ ys.length <= d4 := by
 unfold f5t at h
 split at h
 ·rename_i id; split at h
  ·rename_i k t e xs hg; cases hb : Nat.beq c.e e with
   | false => rw [hb] at h; cases h
   | true =>
    rw [hb, B5] at h; obtain ⟨rfl, rfl⟩ := Ty.to_ok h; have he := A8 hb; obtain ⟨_, _, _, ⟨o, h3, h4, h5, h6⟩, _⟩ := r.wd hg; obtain ⟨bl, L, hC, hB, hH⟩ := r.bx; obtain ⟨p, q, A, B, h1, _⟩ := hH.split hg; obtain ⟨_, hu, _⟩ : V1 m (.own id) u := hv; refine ⟨o, Bxs.sub hB (by rw [h1, h3]; exact (P9 _ _).trans (N1 _ _)), ?_, h6⟩; rw [hu, he]; exact h5
  ·cases h
 ·cases h; have hu : u = .slice none 0 0 := hv; exact ⟨none, Bxs.nil _ _ _, by rw [hu]; exact @Ow.nil_ _ (c.t.rp E) _ _, C0 _⟩
 ·cases h
def a4o.prove {Z : ZF P E} {c : a4o E} (hfl : c.flat) {H : HL E c.ts -> Nat -> Nat -> Option (Hint E)} {call : HL E c.ts -> j7 E} (hcall : ∀ a, j5 P (call a)) {f : Nat} {T : Prop} (t : T)
  (h : T = (∀ a, c.holds a -> inH F Z (H a) (call a) f (a1z F c.ts a) {} (fun s x => g2u F c s x = some (c.ret a))) := by kernel_rfl) : c.ok P f := by
 replace h := h.mp t
 refine ⟨hfl, fun a G w vs hw hp hv => ?_⟩
 have hl : ∀ {ts : List Ty} {a : HL E ts} {vs : List Value}, a8d G ts a vs -> (a1z F ts a).length = vs.length := by
  intro ts
  induction ts with
  | nil => intro a vs h; have h : vs = _ := h; subst h; rfl
  | cons t r ih => rintro a vs ⟨v, us, rfl, _, h2⟩; simp [a1z, ih h2]
 have rh : RelH w G ({} : St E) ⟨G, fun _ => undef, 0, [], fun _ => .box 0 [], fun _ => [], fun _ => []⟩ w := ⟨⟨[], [], Cx.refl hw, Bxs.nil _ _ _, rfl, rfl⟩, rfl, rfl⟩
 have := a2l F Z (hcall a) w G f (a1z F c.ts a) {} _ _ w vs rh (hl hv) (fun i x hx => b3p F (m := ⟨G, fun _ => undef, 0, [], fun _ => .box 0 [], fun _ => [], fun _ => []⟩) hv i x hx) (h a hp)
 refine this.mono ?_
 rintro e w' ⟨v, he, s', m', x, u, rh', hx, hfin⟩
 unfold g2u at hfin
 split at hfin
 ·rename_i y l hcomp; split at hfin
  ·rename_i ys b hys hb; simp only [A3] at hfin; obtain ⟨us, c1, c2, c3⟩ := b9t hcomp hx; cases us with
   | nil => simp at c1
   | cons u0 us =>
    have hy : RV m' y u0 := by
     obtain ⟨q, hq, hq2⟩ := c2 0 y rfl; simp only [E0, A3] at hq; rw [hq]; exact hq2
    obtain ⟨o, o1, o2, o3⟩ := e9f rh' hys hy; obtain ⟨bl, L, hC, hB, hH⟩ := rh'.bx; rw [<- rh'.bs] at hb; have hus := a3o F hb (vs := us) (by simpa using c1) fun i x hi => by
     rw [C7] at hi; obtain ⟨z, hz, rfl⟩ := D8.1 hi; obtain ⟨q, hq, hq2⟩ := c2 (i + 1) z hz; exact ⟨q, hq, hq2.rsv hH⟩
    refine ⟨v, he, m'.G, o, u0, us, (a4z (b2 := []) (L2 := []) hC hB (M1 _) (M1 _)).1, o1, by rw [<- hfin]; exact o2, by rw [<- hfin]; exact o3, by rw [<- hfin]; exact hus, ?_⟩; rcases c3 with ⟨q, hq, hq2⟩ | ⟨hq, hq2⟩
    ·cases hr : c.rt with
     | nil => rw [K7] at hq2; exact hq2.1.symm
     | cons t r => rw [hr] at hq; simp at hq
    ·cases hr : c.rt with
     | nil => rw [hr] at hq; simp at hq
     | cons t r => exact hq2
  ·cases hfin
 ·cases hfin
def a4o.con : ∀ {c : a4o E} {f : Nat}, c.ok P f -> Con.ok P f ({ ts := c.ts, rt := .sl c.t :: c.rt, pre := c.pre, ret := c.ret } : Con E) := by
 rintro ⟨ts, t, e, rt, pre, ret⟩ f h a G w vs hw hp hv
 have hp : a4o.holds ⟨ts, t, e, rt, pre, ret⟩ a := by cases pre <;> exact hp
 refine (h.2 a G w vs hw hp hv).mono ?_
 rintro ex w' ⟨v, he, G', o, u, us, hk, hB, hO, hl, hus, hval⟩
 letI := t.rp E
 obtain ⟨G2, k1, k2, _, k4⟩ := Ow.freeze' (bl := []) (r := []) hO hk (B9 _) (by simpa using hB) hl
 refine ⟨v, G2, he, k2, ?_⟩
 have hu := a8d.flat (G2 := G2) h.1.2 hus
 show b6p G2 (.sl t :: rt) (ret a) v
 subst hval
 cases rt with
 | nil => exact k4
 | cons t r => exact ⟨u :: us, rfl, u, us, rfl, k4, hu⟩
end Go.Vz
namespace Go.Vz
open Go Go.Gx
variable {E : DE} {P : Program} {w0 w : World} {G0 : Gh} {s s' : St E} {m : Mn E}
def RC.setSl {m : Mn E} {t : Ty} (h : L m (.sl t [] : SV E) (.slice none 0 0)) : ∀ {c : List (SV E)} {i : Nat} {cs : List Value}, RC m c cs -> c[i]? = some .nils -> RC m (c.set i (.sl t [])) cs
 | [], _, _, _, hi => by simp at hi
 | a :: c, 0, cs, ⟨c1, c2, e, h1, h2⟩, hi => by
  simp only [E0, A3] at hi; subst hi; obtain ⟨v, rfl, hv⟩ := h1; have hv : v = _ := hv; subst hv; exact ⟨_, c2, e, ⟨_, rfl, h⟩, h2⟩
 | a :: c, i + 1, cs, ⟨c1, c2, e, h1, h2⟩, hi => ⟨c1, c2, e, h1, RC.setSl h h2 (by simpa using hi)⟩
def e3f (s : St E) (id : Nat) : List (Nat × Ty) -> Option (St E)
 | [] => some s
 | (i, t) :: r => match o6 s.hp id with
  | some (_, .box T c) => match c[i]? with
   | some .nils => e3f (s.turn id (.box T (c.set i (.sl t [])))) id r
   | _ => none
  | _ => none
def d5a : ∀ {l : List (Nat × Ty)} {s s' : St E} {m : Mn E} {id : Nat}, RelH w0 G0 s m w -> e3f s id l = some s' -> ∃ m', Up m m' /\ RelH w0 G0 s' m' w
 | [], s, s', m, id, r, h => by simp only [e3f, A3] at h; subst h; exact ⟨m, Up.refl m, r⟩
 | (i, t) :: l, s, s', m, id, r, h => by
  simp only [e3f] at h; split at h
  ·rename_i k T c hg; split at h
   ·rename_i hc; obtain ⟨_, _, _, ⟨b, cs, e1, e2, e3, e4⟩, _⟩ := r.wd hg; obtain ⟨p, q, A, B, hC2, hB2, hT2⟩ := r.turn hg; rw [e1, e2] at hB2; rw [e2] at hC2; have hn : L (m.g m.G) (.sl t [] : SV E) (.slice none 0 0) := @Sl.nil_ _ (t.rp E) m.G; obtain ⟨u2, r2⟩ := hT2 _ w (.box T (c.set i (.sl t []))) [(b, T, cs)] [] (GLe.refl _) hC2 hB2 ⟨b, cs, rfl, rfl, e3, RC.setSl hn e4 hc⟩; obtain ⟨m3, u3, r3⟩ := d5a r2 h; exact ⟨m3, u2.trans u3, r3⟩
   ·cases h
  ·cases h
def g2v (l : List (Nat × Ty)) (K : St E -> SV E -> Prop) : St E -> SV E -> Prop := fun s x => match x with
 | .tup (.ptr id _ :: _) => (match e3f s id l with | some s2 => K s2 x | none => K s x)
 | _ => K s x
def f5u (f0 : Nat) (l : List (Nat × Ty)) (h : j7 E) : j7 E := fun f a s K => bif Nat.beq f f0 then h f a s (g2v l K) else h f a s K
def e9g {f0 : Nat} {l : List (Nat × Ty)} {h : j7 E} (hh : j5 P h) : j5 P (f5u f0 l h) := by
 intro w0 G0 f args s K m w vs rh hl hv hc
 unfold f5u at hc
 cases hf : Nat.beq f f0 with
 | false => rw [hf] at hc; exact hh w0 G0 f args s K m w vs rh hl hv hc
 | true =>
  rw [hf, B5] at hc; refine (hh w0 G0 f args s _ m w vs rh hl hv hc).mono ?_; rintro e w' ⟨v, he, s1, m1, x, u, r1, hx, hK⟩; unfold g2v at hK; split at hK
  ·split at hK
   ·rename_i s2 hs2; obtain ⟨m2, u2, r2⟩ := d5a r1 hs2; exact ⟨v, he, s2, m2, _, u.trans u2, r2, hx.up u2, hK⟩
   ·exact ⟨v, he, s1, m1, _, u, r1, hx, hK⟩
  ·exact ⟨v, he, s1, m1, _, u, r1, hx, hK⟩
end Go.Vz
namespace Go.Proofs.YtpbcabanpppfoaaGreat
open Go Go.Gx Go.Vz
open Go.IntKind (wrap)
open List (flatMap getD length take replicate)
noncomputable section
abbrev Tp := Tryz.prog
structure a0c where
  faults : Int
  nodes : List Int
  deriving DecidableEq, Inhabited
instance : Rp a0c := ⟨2, fun G cs x => ∃ v0, cs = [.int .i64 x.faults, v0] /\ Sl G v0 x.nodes, fun ⟨_, h, _⟩ => by rw [h]; simp, fun ⟨v0, h, hv0⟩ => by obtain ⟨Av0, cv0, rfl⟩ := hv0.form; rw [h]; simp [Value.oneCell'], fun hg ⟨v0, h, hv0⟩ => ⟨v0, h, hv0.mono hg⟩⟩
def a0c.opIs {G : Gh} {cs : List Value} {x : a0c} (h : Rp.Is G cs x) : ∃ v0, cs = [.int .i64 x.faults, v0] /\ Sl G v0 x.nodes := h
def a0c.mkIs {G : Gh} {x : a0c} {v0 : Value} (hv0 : Sl G v0 x.nodes) : Rp.Is G [.int .i64 x.faults, v0] x := ⟨_, rfl, hv0⟩
structure Mark where
  seq : Int
  dig : Dig
  deriving DecidableEq, Inhabited
def Mark.cells (x : Mark) : List Value := (.int .i64 x.seq :: (x.dig.cells ++ []))
@[simp] theorem Mark.length_cells (x : Mark) : x.cells.length = 33 := by simp [Mark.cells]
instance : Rp Mark := ⟨33, fun _ cs x => cs = x.cells, fun h => by rw [h]; exact Mark.length_cells _, fun h => by rw [h]; intro u hu; simp only [Mark.cells, D2, D4, H4, R1] at hu; rcases hu with rfl | hu <;> first | rfl | exact a0p _ _ hu, fun _ h => h⟩
structure i6 where
  seq : Int
  dig : Dig
  view : Int
  deriving DecidableEq, Inhabited
def i6.cells (x : i6) : List Value := (.int .i64 x.seq :: (x.dig.cells ++ (.int .i64 x.view :: [])))
@[simp] theorem i6.length_cells (x : i6) : x.cells.length = 34 := by simp [i6.cells]
instance : Rp i6 := ⟨34, fun _ cs x => cs = x.cells, fun h => by rw [h]; exact i6.length_cells _, fun h => by rw [h]; intro u hu; simp only [i6.cells, D2, D4, H4, R1] at hu; rcases hu with rfl | hu | rfl <;> first | rfl | exact a0p _ _ hu, fun _ h => h⟩
structure b8 where
  node : Int
  view : Int
  low : Int
  mz : List Mark
  p : List i6
  q : List i6
  deriving DecidableEq, Inhabited
instance : Rp b8 := ⟨6, fun G cs x => ∃ v0 v1 v2, cs = [.int .i64 x.node, .int .i64 x.view, .int .i64 x.low, v0, v1, v2] /\ Sl G v0 x.mz /\ Sl G v1 x.p /\ Sl G v2 x.q, fun ⟨_, _, _, h, _⟩ => by rw [h]; simp, fun ⟨v0, v1, v2, h, hv0, hv1, hv2⟩ => by obtain ⟨Av0, cv0, rfl⟩ := hv0.form; obtain ⟨Av1, cv1, rfl⟩ := hv1.form; obtain ⟨Av2, cv2, rfl⟩ := hv2.form; rw [h]; simp [Value.oneCell'], fun hg ⟨v0, v1, v2, h, hv0, hv1, hv2⟩ => ⟨v0, v1, v2, h, hv0.mono hg, hv1.mono hg, hv2.mono hg⟩⟩
def b8.opIs {G : Gh} {cs : List Value} {x : b8} (h : Rp.Is G cs x) : ∃ v0 v1 v2, cs = [.int .i64 x.node, .int .i64 x.view, .int .i64 x.low, v0, v1, v2] /\ Sl G v0 x.mz /\ Sl G v1 x.p /\ Sl G v2 x.q := h
def b8.mkIs {G : Gh} {x : b8} {v0 v1 v2 : Value} (hv0 : Sl G v0 x.mz) (hv1 : Sl G v1 x.p) (hv2 : Sl G v2 x.q) : Rp.Is G [.int .i64 x.node, .int .i64 x.view, .int .i64 x.low, v0, v1, v2] x := ⟨_, _, _, rfl, hv0, hv1, hv2⟩
structure p7 where
  client : Int
  stamp : Int
  group : Int
  epoch : Int
  kind : Int
  block : Int
  data : List UInt8
  old : Int
  nw : Int
  next : List Int
  deriving DecidableEq, Inhabited
instance : Rp p7 := ⟨10, fun G cs x => ∃ v0 v1, cs = [.int .i64 x.client, .int .i64 x.stamp, .int .i64 x.group, .int .i64 x.epoch, .int .i64 x.kind, .int .i64 x.block, v0, .int .i64 x.old, .int .i64 x.nw, v1] /\ Sl G v0 x.data /\ Sl G v1 x.next, fun ⟨_, _, h, _⟩ => by rw [h]; simp, fun ⟨v0, v1, h, hv0, hv1⟩ => by obtain ⟨Av0, cv0, rfl⟩ := hv0.form; obtain ⟨Av1, cv1, rfl⟩ := hv1.form; rw [h]; simp [Value.oneCell'], fun hg ⟨v0, v1, h, hv0, hv1⟩ => ⟨v0, v1, h, hv0.mono hg, hv1.mono hg⟩⟩
def p7.opIs {G : Gh} {cs : List Value} {x : p7} (h : Rp.Is G cs x) : ∃ v0 v1, cs = [.int .i64 x.client, .int .i64 x.stamp, .int .i64 x.group, .int .i64 x.epoch, .int .i64 x.kind, .int .i64 x.block, v0, .int .i64 x.old, .int .i64 x.nw, v1] /\ Sl G v0 x.data /\ Sl G v1 x.next := h
def p7.mkIs {G : Gh} {x : p7} {v0 v1 : Value} (hv0 : Sl G v0 x.data) (hv1 : Sl G v1 x.next) : Rp.Is G [.int .i64 x.client, .int .i64 x.stamp, .int .i64 x.group, .int .i64 x.epoch, .int .i64 x.kind, .int .i64 x.block, v0, .int .i64 x.old, .int .i64 x.nw, v1] x := ⟨_, _, rfl, hv0, hv1⟩
structure a0n where
  err : Int
  data : List UInt8
  epoch : Int
  nodes : List Int
  deriving DecidableEq, Inhabited
instance : Rp a0n := ⟨4, fun G cs x => ∃ v0 v1, cs = [.int .i64 x.err, v0, .int .i64 x.epoch, v1] /\ Sl G v0 x.data /\ Sl G v1 x.nodes, fun ⟨_, _, h, _⟩ => by rw [h]; simp, fun ⟨v0, v1, h, hv0, hv1⟩ => by obtain ⟨Av0, cv0, rfl⟩ := hv0.form; obtain ⟨Av1, cv1, rfl⟩ := hv1.form; rw [h]; simp [Value.oneCell'], fun hg ⟨v0, v1, h, hv0, hv1⟩ => ⟨v0, v1, h, hv0.mono hg, hv1.mono hg⟩⟩
def a0n.opIs {G : Gh} {cs : List Value} {x : a0n} (h : Rp.Is G cs x) : ∃ v0 v1, cs = [.int .i64 x.err, v0, .int .i64 x.epoch, v1] /\ Sl G v0 x.data /\ Sl G v1 x.nodes := h
def a0n.mkIs {G : Gh} {x : a0n} {v0 v1 : Value} (hv0 : Sl G v0 x.data) (hv1 : Sl G v1 x.nodes) : Rp.Is G [.int .i64 x.err, v0, .int .i64 x.epoch, v1] x := ⟨_, _, rfl, hv0, hv1⟩
structure a0i where
  seq : Int
  dig : Dig
  batch : List p7
  deriving DecidableEq, Inhabited
instance : Rp a0i := ⟨34, fun G cs x => ∃ v0, cs = (.int .i64 x.seq :: (x.dig.cells ++ (v0 :: []))) /\ Sl G v0 x.batch, fun ⟨_, h, _⟩ => by rw [h]; simp, fun ⟨v0, h, hv0⟩ => by obtain ⟨Av0, cv0, rfl⟩ := hv0.form; rw [h]; intro u hu; simp only [D2, D4, H4, R1] at hu; rcases hu with rfl | hu | rfl <;> first | rfl | exact a0p _ _ hu, fun hg ⟨v0, h, hv0⟩ => ⟨v0, h, hv0.mono hg⟩⟩
def a0i.opIs {G : Gh} {cs : List Value} {x : a0i} (h : Rp.Is G cs x) : ∃ v0, cs = (.int .i64 x.seq :: (x.dig.cells ++ (v0 :: []))) /\ Sl G v0 x.batch := h
def a0i.mkIs {G : Gh} {x : a0i} {v0 : Value} (hv0 : Sl G v0 x.batch) : Rp.Is G (.int .i64 x.seq :: (x.dig.cells ++ (v0 :: []))) x := ⟨_, rfl, hv0⟩
structure d7 where
  kind : Int
  sq : Int
  group : Int
  epoch : Int
  view : Int
  seq : Int
  dig : Dig
  batch : List p7
  answer : a0n
  stamp : Int
  node : Int
  change : b8
  changes : List b8
  picks : List a0i
  level : Int
  place : Int
  digests : List Dig
  data : List UInt8
  nodes : List Int
  deriving DecidableEq, Inhabited
instance : Rp d7 := ⟨58, fun G cs x => ∃ v0 v1 v2 v3 v4 v5 v6 v7 v8 v9 v10, cs = (.int .i64 x.kind :: (.int .i64 x.sq :: (.int .i64 x.group :: (.int .i64 x.epoch :: (.int .i64 x.view :: (.int .i64 x.seq :: (x.dig.cells ++ (v0 :: (.int .i64 x.answer.err :: (v1 :: (.int .i64 x.answer.epoch :: (v2 :: (.int .i64 x.stamp :: (.int .i64 x.node :: (.int .i64 x.change.node :: (.int .i64 x.change.view :: (.int .i64 x.change.low :: (v3 :: (v4 :: (v5 :: (v6 :: (v7 :: (.int .i64 x.level :: (.int .i64 x.place :: (v8 :: (v9 :: (v10 :: []))))))))))))))))))))))))))) /\ Sl G v0 x.batch /\ Sl G v1 x.answer.data /\ Sl G v2 x.answer.nodes /\ Sl G v3 x.change.mz /\ Sl G v4 x.change.p /\ Sl G v5 x.change.q /\ Sl G v6 x.changes /\ Sl G v7 x.picks /\ Sl G v8 x.digests /\ Sl G v9 x.data /\ Sl G v10 x.nodes, fun ⟨_, _, _, _, _, _, _, _, _, _, _, h, _⟩ => by rw [h]; simp, fun ⟨v0, v1, v2, v3, v4, v5, v6, v7, v8, v9, v10, h, hv0, hv1, hv2, hv3, hv4, hv5, hv6, hv7, hv8, hv9, hv10⟩ => by obtain ⟨Av0, cv0, rfl⟩ := hv0.form; obtain ⟨Av1, cv1, rfl⟩ := hv1.form; obtain ⟨Av2, cv2, rfl⟩ := hv2.form; obtain ⟨Av3, cv3, rfl⟩ := hv3.form; obtain ⟨Av4, cv4, rfl⟩ := hv4.form; obtain ⟨Av5, cv5, rfl⟩ := hv5.form; obtain ⟨Av6, cv6, rfl⟩ := hv6.form; obtain ⟨Av7, cv7, rfl⟩ := hv7.form; obtain ⟨Av8, cv8, rfl⟩ := hv8.form; obtain ⟨Av9, cv9, rfl⟩ := hv9.form; obtain ⟨Av10, cv10, rfl⟩ := hv10.form; rw [h]; intro u hu; simp only [D2, D4, H4, R1] at hu; rcases hu with rfl | rfl | rfl | rfl | rfl | rfl | hu | rfl | rfl | rfl | rfl | rfl | rfl | rfl | rfl | rfl | rfl | rfl | rfl | rfl | rfl | rfl | rfl | rfl | rfl | rfl | rfl <;> first | rfl | exact a0p _ _ hu, fun hg ⟨v0, v1, v2, v3, v4, v5, v6, v7, v8, v9, v10, h, hv0, hv1, hv2, hv3, hv4, hv5, hv6, hv7, hv8, hv9, hv10⟩ => ⟨v0, v1, v2, v3, v4, v5, v6, v7, v8, v9, v10, h, hv0.mono hg, hv1.mono hg, hv2.mono hg, hv3.mono hg, hv4.mono hg, hv5.mono hg, hv6.mono hg, hv7.mono hg, hv8.mono hg, hv9.mono hg, hv10.mono hg⟩⟩
def d7.opIs {G : Gh} {cs : List Value} {x : d7} (h : Rp.Is G cs x) : ∃ v0 v1 v2 v3 v4 v5 v6 v7 v8 v9 v10, cs = (.int .i64 x.kind :: (.int .i64 x.sq :: (.int .i64 x.group :: (.int .i64 x.epoch :: (.int .i64 x.view :: (.int .i64 x.seq :: (x.dig.cells ++ (v0 :: (.int .i64 x.answer.err :: (v1 :: (.int .i64 x.answer.epoch :: (v2 :: (.int .i64 x.stamp :: (.int .i64 x.node :: (.int .i64 x.change.node :: (.int .i64 x.change.view :: (.int .i64 x.change.low :: (v3 :: (v4 :: (v5 :: (v6 :: (v7 :: (.int .i64 x.level :: (.int .i64 x.place :: (v8 :: (v9 :: (v10 :: []))))))))))))))))))))))))))) /\ Sl G v0 x.batch /\ Sl G v1 x.answer.data /\ Sl G v2 x.answer.nodes /\ Sl G v3 x.change.mz /\ Sl G v4 x.change.p /\ Sl G v5 x.change.q /\ Sl G v6 x.changes /\ Sl G v7 x.picks /\ Sl G v8 x.digests /\ Sl G v9 x.data /\ Sl G v10 x.nodes := h
def d7.mkIs {G : Gh} {x : d7} {v0 v1 v2 v3 v4 v5 v6 v7 v8 v9 v10 : Value} (hv0 : Sl G v0 x.batch) (hv1 : Sl G v1 x.answer.data) (hv2 : Sl G v2 x.answer.nodes) (hv3 : Sl G v3 x.change.mz) (hv4 : Sl G v4 x.change.p) (hv5 : Sl G v5 x.change.q) (hv6 : Sl G v6 x.changes) (hv7 : Sl G v7 x.picks) (hv8 : Sl G v8 x.digests) (hv9 : Sl G v9 x.data) (hv10 : Sl G v10 x.nodes) : Rp.Is G (.int .i64 x.kind :: (.int .i64 x.sq :: (.int .i64 x.group :: (.int .i64 x.epoch :: (.int .i64 x.view :: (.int .i64 x.seq :: (x.dig.cells ++ (v0 :: (.int .i64 x.answer.err :: (v1 :: (.int .i64 x.answer.epoch :: (v2 :: (.int .i64 x.stamp :: (.int .i64 x.node :: (.int .i64 x.change.node :: (.int .i64 x.change.view :: (.int .i64 x.change.low :: (v3 :: (v4 :: (v5 :: (v6 :: (v7 :: (.int .i64 x.level :: (.int .i64 x.place :: (v8 :: (v9 :: (v10 :: []))))))))))))))))))))))))))) x := ⟨_, _, _, _, _, _, _, _, _, _, _, rfl, hv0, hv1, hv2, hv3, hv4, hv5, hv6, hv7, hv8, hv9, hv10⟩
structure u5 where
  change : b8
  dig : Dig
  deriving DecidableEq, Inhabited
instance : Rp u5 := ⟨38, fun G cs x => ∃ v0 v1 v2, cs = (.int .i64 x.change.node :: (.int .i64 x.change.view :: (.int .i64 x.change.low :: (v0 :: (v1 :: (v2 :: (x.dig.cells ++ []))))))) /\ Sl G v0 x.change.mz /\ Sl G v1 x.change.p /\ Sl G v2 x.change.q, fun ⟨_, _, _, h, _⟩ => by rw [h]; simp, fun ⟨v0, v1, v2, h, hv0, hv1, hv2⟩ => by obtain ⟨Av0, cv0, rfl⟩ := hv0.form; obtain ⟨Av1, cv1, rfl⟩ := hv1.form; obtain ⟨Av2, cv2, rfl⟩ := hv2.form; rw [h]; intro u hu; simp only [D2, D4, H4, R1] at hu; rcases hu with rfl | rfl | rfl | rfl | rfl | rfl | hu <;> first | rfl | exact a0p _ _ hu, fun hg ⟨v0, v1, v2, h, hv0, hv1, hv2⟩ => ⟨v0, v1, v2, h, hv0.mono hg, hv1.mono hg, hv2.mono hg⟩⟩
def u5.opIs {G : Gh} {cs : List Value} {x : u5} (h : Rp.Is G cs x) : ∃ v0 v1 v2, cs = (.int .i64 x.change.node :: (.int .i64 x.change.view :: (.int .i64 x.change.low :: (v0 :: (v1 :: (v2 :: (x.dig.cells ++ []))))))) /\ Sl G v0 x.change.mz /\ Sl G v1 x.change.p /\ Sl G v2 x.change.q := h
def u5.mkIs {G : Gh} {x : u5} {v0 v1 v2 : Value} (hv0 : Sl G v0 x.change.mz) (hv1 : Sl G v1 x.change.p) (hv2 : Sl G v2 x.change.q) : Rp.Is G (.int .i64 x.change.node :: (.int .i64 x.change.view :: (.int .i64 x.change.low :: (v0 :: (v1 :: (v2 :: (x.dig.cells ++ []))))))) x := ⟨_, _, _, rfl, hv0, hv1, hv2⟩
structure Ack where
  view : Int
  dig : Dig
  deriving DecidableEq, Inhabited
def Ack.cells (x : Ack) : List Value := (.int .i64 x.view :: (x.dig.cells ++ []))
@[simp] theorem Ack.length_cells (x : Ack) : x.cells.length = 33 := by simp [Ack.cells]
instance : Rp Ack := ⟨33, fun _ cs x => cs = x.cells, fun h => by rw [h]; exact Ack.length_cells _, fun h => by rw [h]; intro u hu; simp only [Ack.cells, D2, D4, H4, R1] at hu; rcases hu with rfl | hu <;> first | rfl | exact a0p _ _ hu, fun _ h => h⟩
structure x7 where
  sq : Int
  node : Int
  deriving DecidableEq, Inhabited
def x7.cells (x : x7) : List Value := [.int .i64 x.sq, .int .i64 x.node]
@[simp] theorem x7.length_cells (x : x7) : x.cells.length = 2 := by simp [x7.cells]
instance : Rp x7 := ⟨2, fun _ cs x => cs = x.cells, fun h => by rw [h]; exact x7.length_cells _, fun h => by rw [h]; intro u hu; simp only [x7.cells, D2, D4, H4, R1] at hu; rcases hu with rfl | rfl <;> first | rfl | exact a0p _ _ hu, fun _ h => h⟩
structure a0w where
  sq : Int
  node : Int
  view : Int
  dig : Dig
  deriving DecidableEq, Inhabited
def a0w.cells (x : a0w) : List Value := (.int .i64 x.sq :: (.int .i64 x.node :: (.int .i64 x.view :: (x.dig.cells ++ []))))
@[simp] theorem a0w.length_cells (x : a0w) : x.cells.length = 35 := by simp [a0w.cells]
instance : Rp a0w := ⟨35, fun _ cs x => cs = x.cells, fun h => by rw [h]; exact a0w.length_cells _, fun h => by rw [h]; intro u hu; simp only [a0w.cells, D2, D4, H4, R1] at hu; rcases hu with rfl | rfl | rfl | hu <;> first | rfl | exact a0p _ _ hu, fun _ h => h⟩
structure a7b where
  sq : Int
  node : Int
  view : Int
  acks : Bool
  b : UInt8
  deriving DecidableEq, Inhabited
def a7b.cells (x : a7b) : List Value := [.int .i64 x.sq, .int .i64 x.node, .int .i64 x.view, .bool x.acks, .int .u8 (x.b.toNat : Int)]
@[simp] theorem a7b.length_cells (x : a7b) : x.cells.length = 5 := by simp [a7b.cells]
instance : Rp a7b := ⟨5, fun _ cs x => cs = x.cells, fun h => by rw [h]; exact a7b.length_cells _, fun h => by rw [h]; intro u hu; simp only [a7b.cells, D2, D4, H4, R1] at hu; rcases hu with rfl | rfl | rfl | rfl | rfl <;> first | rfl | exact a0p _ _ hu, fun _ h => h⟩
structure Do where
  kind : Int
  note : d7
  change : b8
  deriving DecidableEq, Inhabited
instance : Rp Do := ⟨65, fun G cs x => ∃ v0 v1 v2 v3 v4 v5 v6 v7 v8 v9 v10 v11 v12 v13, cs = (.int .i64 x.kind :: (.int .i64 x.note.kind :: (.int .i64 x.note.sq :: (.int .i64 x.note.group :: (.int .i64 x.note.epoch :: (.int .i64 x.note.view :: (.int .i64 x.note.seq :: (x.note.dig.cells ++ (v0 :: (.int .i64 x.note.answer.err :: (v1 :: (.int .i64 x.note.answer.epoch :: (v2 :: (.int .i64 x.note.stamp :: (.int .i64 x.note.node :: (.int .i64 x.note.change.node :: (.int .i64 x.note.change.view :: (.int .i64 x.note.change.low :: (v3 :: (v4 :: (v5 :: (v6 :: (v7 :: (.int .i64 x.note.level :: (.int .i64 x.note.place :: (v8 :: (v9 :: (v10 :: (.int .i64 x.change.node :: (.int .i64 x.change.view :: (.int .i64 x.change.low :: (v11 :: (v12 :: (v13 :: [])))))))))))))))))))))))))))))))))) /\ Sl G v0 x.note.batch /\ Sl G v1 x.note.answer.data /\ Sl G v2 x.note.answer.nodes /\ Sl G v3 x.note.change.mz /\ Sl G v4 x.note.change.p /\ Sl G v5 x.note.change.q /\ Sl G v6 x.note.changes /\ Sl G v7 x.note.picks /\ Sl G v8 x.note.digests /\ Sl G v9 x.note.data /\ Sl G v10 x.note.nodes /\ Sl G v11 x.change.mz /\ Sl G v12 x.change.p /\ Sl G v13 x.change.q, fun ⟨_, _, _, _, _, _, _, _, _, _, _, _, _, _, h, _⟩ => by rw [h]; simp, fun ⟨v0, v1, v2, v3, v4, v5, v6, v7, v8, v9, v10, v11, v12, v13, h, hv0, hv1, hv2, hv3, hv4, hv5, hv6, hv7, hv8, hv9, hv10, hv11, hv12, hv13⟩ => by obtain ⟨Av0, cv0, rfl⟩ := hv0.form; obtain ⟨Av1, cv1, rfl⟩ := hv1.form; obtain ⟨Av2, cv2, rfl⟩ := hv2.form; obtain ⟨Av3, cv3, rfl⟩ := hv3.form; obtain ⟨Av4, cv4, rfl⟩ := hv4.form; obtain ⟨Av5, cv5, rfl⟩ := hv5.form; obtain ⟨Av6, cv6, rfl⟩ := hv6.form; obtain ⟨Av7, cv7, rfl⟩ := hv7.form; obtain ⟨Av8, cv8, rfl⟩ := hv8.form; obtain ⟨Av9, cv9, rfl⟩ := hv9.form; obtain ⟨Av10, cv10, rfl⟩ := hv10.form; obtain ⟨Av11, cv11, rfl⟩ := hv11.form; obtain ⟨Av12, cv12, rfl⟩ := hv12.form; obtain ⟨Av13, cv13, rfl⟩ := hv13.form; rw [h]; intro u hu; simp only [D2, D4, H4, R1] at hu; rcases hu with rfl | rfl | rfl | rfl | rfl | rfl | rfl | hu | rfl | rfl | rfl | rfl | rfl | rfl | rfl | rfl | rfl | rfl | rfl | rfl | rfl | rfl | rfl | rfl | rfl | rfl | rfl | rfl | rfl | rfl | rfl | rfl | rfl | rfl <;> first | rfl | exact a0p _ _ hu, fun hg ⟨v0, v1, v2, v3, v4, v5, v6, v7, v8, v9, v10, v11, v12, v13, h, hv0, hv1, hv2, hv3, hv4, hv5, hv6, hv7, hv8, hv9, hv10, hv11, hv12, hv13⟩ => ⟨v0, v1, v2, v3, v4, v5, v6, v7, v8, v9, v10, v11, v12, v13, h, hv0.mono hg, hv1.mono hg, hv2.mono hg, hv3.mono hg, hv4.mono hg, hv5.mono hg, hv6.mono hg, hv7.mono hg, hv8.mono hg, hv9.mono hg, hv10.mono hg, hv11.mono hg, hv12.mono hg, hv13.mono hg⟩⟩
def Do.opIs {G : Gh} {cs : List Value} {x : Do} (h : Rp.Is G cs x) : ∃ v0 v1 v2 v3 v4 v5 v6 v7 v8 v9 v10 v11 v12 v13, cs = (.int .i64 x.kind :: (.int .i64 x.note.kind :: (.int .i64 x.note.sq :: (.int .i64 x.note.group :: (.int .i64 x.note.epoch :: (.int .i64 x.note.view :: (.int .i64 x.note.seq :: (x.note.dig.cells ++ (v0 :: (.int .i64 x.note.answer.err :: (v1 :: (.int .i64 x.note.answer.epoch :: (v2 :: (.int .i64 x.note.stamp :: (.int .i64 x.note.node :: (.int .i64 x.note.change.node :: (.int .i64 x.note.change.view :: (.int .i64 x.note.change.low :: (v3 :: (v4 :: (v5 :: (v6 :: (v7 :: (.int .i64 x.note.level :: (.int .i64 x.note.place :: (v8 :: (v9 :: (v10 :: (.int .i64 x.change.node :: (.int .i64 x.change.view :: (.int .i64 x.change.low :: (v11 :: (v12 :: (v13 :: [])))))))))))))))))))))))))))))))))) /\ Sl G v0 x.note.batch /\ Sl G v1 x.note.answer.data /\ Sl G v2 x.note.answer.nodes /\ Sl G v3 x.note.change.mz /\ Sl G v4 x.note.change.p /\ Sl G v5 x.note.change.q /\ Sl G v6 x.note.changes /\ Sl G v7 x.note.picks /\ Sl G v8 x.note.digests /\ Sl G v9 x.note.data /\ Sl G v10 x.note.nodes /\ Sl G v11 x.change.mz /\ Sl G v12 x.change.p /\ Sl G v13 x.change.q := h
def Do.mkIs {G : Gh} {x : Do} {v0 v1 v2 v3 v4 v5 v6 v7 v8 v9 v10 v11 v12 v13 : Value} (hv0 : Sl G v0 x.note.batch) (hv1 : Sl G v1 x.note.answer.data) (hv2 : Sl G v2 x.note.answer.nodes) (hv3 : Sl G v3 x.note.change.mz) (hv4 : Sl G v4 x.note.change.p) (hv5 : Sl G v5 x.note.change.q) (hv6 : Sl G v6 x.note.changes) (hv7 : Sl G v7 x.note.picks) (hv8 : Sl G v8 x.note.digests) (hv9 : Sl G v9 x.note.data) (hv10 : Sl G v10 x.note.nodes) (hv11 : Sl G v11 x.change.mz) (hv12 : Sl G v12 x.change.p) (hv13 : Sl G v13 x.change.q) : Rp.Is G (.int .i64 x.kind :: (.int .i64 x.note.kind :: (.int .i64 x.note.sq :: (.int .i64 x.note.group :: (.int .i64 x.note.epoch :: (.int .i64 x.note.view :: (.int .i64 x.note.seq :: (x.note.dig.cells ++ (v0 :: (.int .i64 x.note.answer.err :: (v1 :: (.int .i64 x.note.answer.epoch :: (v2 :: (.int .i64 x.note.stamp :: (.int .i64 x.note.node :: (.int .i64 x.note.change.node :: (.int .i64 x.note.change.view :: (.int .i64 x.note.change.low :: (v3 :: (v4 :: (v5 :: (v6 :: (v7 :: (.int .i64 x.note.level :: (.int .i64 x.note.place :: (v8 :: (v9 :: (v10 :: (.int .i64 x.change.node :: (.int .i64 x.change.view :: (.int .i64 x.change.low :: (v11 :: (v12 :: (v13 :: [])))))))))))))))))))))))))))))))))) x := ⟨_, _, _, _, _, _, _, _, _, _, _, _, _, _, rfl, hv0, hv1, hv2, hv3, hv4, hv5, hv6, hv7, hv8, hv9, hv10, hv11, hv12, hv13⟩
abbrev ET : Nat -> Type
 | 0 => a0c
 | 1 => Mark
 | 2 => i6
 | 3 => b8
 | 4 => p7
 | 5 => a0n
 | 6 => a0i
 | 7 => d7
 | 8 => u5
 | 9 => Ack
 | 10 => x7
 | 11 => a0w
 | 12 => a7b
 | 13 => Do
 | 14 => AV .u32 8
 | 15 => AV .u8 64
 | 16 => AV .u32 64
 | 17 => AV .i64 8
 | 18 => AV .i64 3
 | 19 => AV .i64 2
 | _ => Bool
def edf : (n : Nat) -> ET n
 | 0 => (default : a0c)
 | 1 => (default : Mark)
 | 2 => (default : i6)
 | 3 => (default : b8)
 | 4 => (default : p7)
 | 5 => (default : a0n)
 | 6 => (default : a0i)
 | 7 => (default : d7)
 | 8 => (default : u5)
 | 9 => (default : Ack)
 | 10 => (default : x7)
 | 11 => (default : a0w)
 | 12 => (default : a7b)
 | 13 => (default : Do)
 | 14 => (default : AV .u32 8)
 | 15 => (default : AV .u8 64)
 | 16 => (default : AV .u32 64)
 | 17 => (default : AV .i64 8)
 | 18 => (default : AV .i64 3)
 | 19 => (default : AV .i64 2)
 | _ + 20 => (false : Bool)
@[reducible] def erp : (n : Nat) -> Rp (ET n)
 | 0 => inferInstanceAs (Rp a0c)
 | 1 => inferInstanceAs (Rp Mark)
 | 2 => inferInstanceAs (Rp i6)
 | 3 => inferInstanceAs (Rp b8)
 | 4 => inferInstanceAs (Rp p7)
 | 5 => inferInstanceAs (Rp a0n)
 | 6 => inferInstanceAs (Rp a0i)
 | 7 => inferInstanceAs (Rp d7)
 | 8 => inferInstanceAs (Rp u5)
 | 9 => inferInstanceAs (Rp Ack)
 | 10 => inferInstanceAs (Rp x7)
 | 11 => inferInstanceAs (Rp a0w)
 | 12 => inferInstanceAs (Rp a7b)
 | 13 => inferInstanceAs (Rp Do)
 | 14 => inferInstanceAs (Rp (AV .u32 8))
 | 15 => inferInstanceAs (Rp (AV .u8 64))
 | 16 => inferInstanceAs (Rp (AV .u32 64))
 | 17 => inferInstanceAs (Rp (AV .i64 8))
 | 18 => inferInstanceAs (Rp (AV .i64 3))
 | 19 => inferInstanceAs (Rp (AV .i64 2))
 | _ + 20 => inferInstanceAs (Rp Bool)
def edc : (n : Nat) -> DecidableEq (ET n)
 | 0 => inferInstanceAs (DecidableEq a0c)
 | 1 => inferInstanceAs (DecidableEq Mark)
 | 2 => inferInstanceAs (DecidableEq i6)
 | 3 => inferInstanceAs (DecidableEq b8)
 | 4 => inferInstanceAs (DecidableEq p7)
 | 5 => inferInstanceAs (DecidableEq a0n)
 | 6 => inferInstanceAs (DecidableEq a0i)
 | 7 => inferInstanceAs (DecidableEq d7)
 | 8 => inferInstanceAs (DecidableEq u5)
 | 9 => inferInstanceAs (DecidableEq Ack)
 | 10 => inferInstanceAs (DecidableEq x7)
 | 11 => inferInstanceAs (DecidableEq a0w)
 | 12 => inferInstanceAs (DecidableEq a7b)
 | 13 => inferInstanceAs (DecidableEq Do)
 | 14 => inferInstanceAs (DecidableEq (AV .u32 8))
 | 15 => inferInstanceAs (DecidableEq (AV .u8 64))
 | 16 => inferInstanceAs (DecidableEq (AV .u32 64))
 | 17 => inferInstanceAs (DecidableEq (AV .i64 8))
 | 18 => inferInstanceAs (DecidableEq (AV .i64 3))
 | 19 => inferInstanceAs (DecidableEq (AV .i64 2))
 | _ + 20 => inferInstanceAs (DecidableEq Bool)
def een : (n : Nat) -> ET n -> List Value
 | 1, x => Mark.cells x
 | 2, x => i6.cells x
 | 9, x => Ack.cells x
 | 10, x => x7.cells x
 | 11, x => a0w.cells x
 | 12, x => a7b.cells x
 | _, _ => []
abbrev D : DE := ⟨ET, edf, erp, edc, een⟩
def fl0 (x : a0c) : List (SV D) := [.i .i64 x.faults, .sl .int x.nodes]
def fo0 (x : a0c) (m : Mn D) (cs : List Value) (h : Rp.Is m.G cs x) : RC m (fl0 x) cs := by
 obtain ⟨v0, rfl, h0⟩ := a0c.opIs h
 exact ⟨[_], _, rfl, ⟨_, rfl, rfl⟩, ⟨[_], _, rfl, ⟨_, rfl, h0⟩, rfl⟩⟩
def sh0 (bs : List Bool) : List (SV D) -> Option a0c
 | [y0, y1] => (t7 y0).bind fun a0 => (gSl .int y1).bind fun a1 => some (⟨a0, a1⟩ : a0c)
 | _ => none
def so0 (x : a0c) (m : Mn D) (l : List (SV D)) (cs : List Value) (h : sh0 m.bs l = some x) (hc : RC m l cs) : Rp.Is m.G cs x := by
 unfold sh0 at h
 split at h
 ·obtain ⟨a0, h0, h⟩ := A5.1 h; obtain ⟨a1, h1, h⟩ := A5.1 h; cases h; obtain ⟨c0, r0, rfl, g0, hc⟩ := hc; obtain ⟨c1, r1, rfl, g1, hc⟩ := hc; have hc : _ = _ := hc; subst hc; obtain rfl := i9 h0 g0; obtain ⟨v1, rfl, s1⟩ := o7 h1 g1; exact a0c.mkIs (x := ⟨a0, a1⟩) s1
 ·cases h
def fl1 (x : Mark) : List (SV D) := [.i .i64 x.seq, .dig x.dig]
def fo1 (x : Mark) (m : Mn D) (cs : List Value) (h : Rp.Is m.G cs x) : RC m (fl1 x) cs := by
 have h : cs = _ := h
 subst h
 exact ⟨[_], _, rfl, ⟨_, rfl, rfl⟩, ⟨_, _, rfl, rfl, rfl⟩⟩
def sh1 (bs : List Bool) : List (SV D) -> Option Mark
 | [y0, y1] => (t7 y0).bind fun a0 => (c2b y1).bind fun a1 => some (⟨a0, a1⟩ : Mark)
 | _ => none
def so1 (x : Mark) (m : Mn D) (l : List (SV D)) (cs : List Value) (h : sh1 m.bs l = some x) (hc : RC m l cs) : Rp.Is m.G cs x := by
 unfold sh1 at h
 split at h
 ·obtain ⟨a0, h0, h⟩ := A5.1 h; obtain ⟨a1, h1, h⟩ := A5.1 h; cases h; obtain ⟨c0, r0, rfl, g0, hc⟩ := hc; obtain ⟨c1, r1, rfl, g1, hc⟩ := hc; have hc : _ = _ := hc; subst hc; obtain rfl := i9 h0 g0; obtain rfl := a6j h1 g1; exact rfl
 ·cases h
def fl2 (x : i6) : List (SV D) := [.i .i64 x.seq, .dig x.dig, .i .i64 x.view]
def fo2 (x : i6) (m : Mn D) (cs : List Value) (h : Rp.Is m.G cs x) : RC m (fl2 x) cs := by
 have h : cs = _ := h
 subst h
 exact ⟨[_], _, rfl, ⟨_, rfl, rfl⟩, ⟨_, _, rfl, rfl, ⟨[_], _, rfl, ⟨_, rfl, rfl⟩, rfl⟩⟩⟩
def sh2 (bs : List Bool) : List (SV D) -> Option i6
 | [y0, y1, y2] => (t7 y0).bind fun a0 => (c2b y1).bind fun a1 => (t7 y2).bind fun a2 => some (⟨a0, a1, a2⟩ : i6)
 | _ => none
def so2 (x : i6) (m : Mn D) (l : List (SV D)) (cs : List Value) (h : sh2 m.bs l = some x) (hc : RC m l cs) : Rp.Is m.G cs x := by
 unfold sh2 at h
 split at h
 ·obtain ⟨a0, h0, h⟩ := A5.1 h; obtain ⟨a1, h1, h⟩ := A5.1 h; obtain ⟨a2, h2, h⟩ := A5.1 h; cases h; obtain ⟨c0, r0, rfl, g0, hc⟩ := hc; obtain ⟨c1, r1, rfl, g1, hc⟩ := hc; obtain ⟨c2, r2, rfl, g2, hc⟩ := hc; have hc : _ = _ := hc; subst hc; obtain rfl := i9 h0 g0; obtain rfl := a6j h1 g1; obtain rfl := i9 h2 g2; exact rfl
 ·cases h
def fl3 (x : b8) : List (SV D) := [.i .i64 x.node, .i .i64 x.view, .i .i64 x.low, .sl (.st 1) x.mz, .sl (.st 2) x.p, .sl (.st 2) x.q]
def fo3 (x : b8) (m : Mn D) (cs : List Value) (h : Rp.Is m.G cs x) : RC m (fl3 x) cs := by
 obtain ⟨v0, v1, v2, rfl, h0, h1, h2⟩ := b8.opIs h
 exact ⟨[_], _, rfl, ⟨_, rfl, rfl⟩, ⟨[_], _, rfl, ⟨_, rfl, rfl⟩, ⟨[_], _, rfl, ⟨_, rfl, rfl⟩, ⟨[_], _, rfl, ⟨_, rfl, h0⟩, ⟨[_], _, rfl, ⟨_, rfl, h1⟩, ⟨[_], _, rfl, ⟨_, rfl, h2⟩, rfl⟩⟩⟩⟩⟩⟩
def sh3 (bs : List Bool) : List (SV D) -> Option b8
 | [y0, y1, y2, y3, y4, y5] => (t7 y0).bind fun a0 => (t7 y1).bind fun a1 => (t7 y2).bind fun a2 => (gSl (.st 1) y3).bind fun a3 => (gSl (.st 2) y4).bind fun a4 => (gSl (.st 2) y5).bind fun a5 => some (⟨a0, a1, a2, a3, a4, a5⟩ : b8)
 | _ => none
def so3 (x : b8) (m : Mn D) (l : List (SV D)) (cs : List Value) (h : sh3 m.bs l = some x) (hc : RC m l cs) : Rp.Is m.G cs x := by
 unfold sh3 at h
 split at h
 ·obtain ⟨a0, h0, h⟩ := A5.1 h; obtain ⟨a1, h1, h⟩ := A5.1 h; obtain ⟨a2, h2, h⟩ := A5.1 h; obtain ⟨a3, h3, h⟩ := A5.1 h; obtain ⟨a4, h4, h⟩ := A5.1 h; obtain ⟨a5, h5, h⟩ := A5.1 h; cases h; obtain ⟨c0, r0, rfl, g0, hc⟩ := hc; obtain ⟨c1, r1, rfl, g1, hc⟩ := hc; obtain ⟨c2, r2, rfl, g2, hc⟩ := hc; obtain ⟨c3, r3, rfl, g3, hc⟩ := hc; obtain ⟨c4, r4, rfl, g4, hc⟩ := hc; obtain ⟨c5, r5, rfl, g5, hc⟩ := hc; have hc : _ = _ := hc; subst hc; obtain rfl := i9 h0 g0; obtain rfl := i9 h1 g1; obtain rfl := i9 h2 g2; obtain ⟨v3, rfl, s3⟩ := o7 h3 g3; obtain ⟨v4, rfl, s4⟩ := o7 h4 g4; obtain ⟨v5, rfl, s5⟩ := o7 h5 g5; exact b8.mkIs (x := ⟨a0, a1, a2, a3, a4, a5⟩) s3 s4 s5
 ·cases h
def fl4 (x : p7) : List (SV D) := [.i .i64 x.client, .i .i64 x.stamp, .i .i64 x.group, .i .i64 x.epoch, .i .i64 x.kind, .i .i64 x.block, .sl .u8 x.data, .i .i64 x.old, .i .i64 x.nw, .sl .int x.next]
def fo4 (x : p7) (m : Mn D) (cs : List Value) (h : Rp.Is m.G cs x) : RC m (fl4 x) cs := by
 obtain ⟨v0, v1, rfl, h0, h1⟩ := p7.opIs h
 exact ⟨[_], _, rfl, ⟨_, rfl, rfl⟩, ⟨[_], _, rfl, ⟨_, rfl, rfl⟩, ⟨[_], _, rfl, ⟨_, rfl, rfl⟩, ⟨[_], _, rfl, ⟨_, rfl, rfl⟩, ⟨[_], _, rfl, ⟨_, rfl, rfl⟩, ⟨[_], _, rfl, ⟨_, rfl, rfl⟩, ⟨[_], _, rfl, ⟨_, rfl, h0⟩, ⟨[_], _, rfl, ⟨_, rfl, rfl⟩, ⟨[_], _, rfl, ⟨_, rfl, rfl⟩, ⟨[_], _, rfl, ⟨_, rfl, h1⟩, rfl⟩⟩⟩⟩⟩⟩⟩⟩⟩⟩
def sh4 (bs : List Bool) : List (SV D) -> Option p7
 | [y0, y1, y2, y3, y4, y5, y6, y7, y8, y9] => (t7 y0).bind fun a0 => (t7 y1).bind fun a1 => (t7 y2).bind fun a2 => (t7 y3).bind fun a3 => (t7 y4).bind fun a4 => (t7 y5).bind fun a5 => (gSl .u8 y6).bind fun a6 => (t7 y7).bind fun a7 => (t7 y8).bind fun a8 => (gSl .int y9).bind fun a9 => some (⟨a0, a1, a2, a3, a4, a5, a6, a7, a8, a9⟩ : p7)
 | _ => none
def so4 (x : p7) (m : Mn D) (l : List (SV D)) (cs : List Value) (h : sh4 m.bs l = some x) (hc : RC m l cs) : Rp.Is m.G cs x := by
 unfold sh4 at h
 split at h
 ·obtain ⟨a0, h0, h⟩ := A5.1 h; obtain ⟨a1, h1, h⟩ := A5.1 h; obtain ⟨a2, h2, h⟩ := A5.1 h; obtain ⟨a3, h3, h⟩ := A5.1 h; obtain ⟨a4, h4, h⟩ := A5.1 h; obtain ⟨a5, h5, h⟩ := A5.1 h; obtain ⟨a6, h6, h⟩ := A5.1 h; obtain ⟨a7, h7, h⟩ := A5.1 h; obtain ⟨a8, h8, h⟩ := A5.1 h; obtain ⟨a9, h9, h⟩ := A5.1 h; cases h; obtain ⟨c0, r0, rfl, g0, hc⟩ := hc; obtain ⟨c1, r1, rfl, g1, hc⟩ := hc; obtain ⟨c2, r2, rfl, g2, hc⟩ := hc; obtain ⟨c3, r3, rfl, g3, hc⟩ := hc; obtain ⟨c4, r4, rfl, g4, hc⟩ := hc; obtain ⟨c5, r5, rfl, g5, hc⟩ := hc; obtain ⟨c6, r6, rfl, g6, hc⟩ := hc; obtain ⟨c7, r7, rfl, g7, hc⟩ := hc; obtain ⟨c8, r8, rfl, g8, hc⟩ := hc; obtain ⟨c9, r9, rfl, g9, hc⟩ := hc; have hc : _ = _ := hc; subst hc; obtain rfl := i9 h0 g0; obtain rfl := i9 h1 g1; obtain rfl := i9 h2 g2; obtain rfl := i9 h3 g3; obtain rfl := i9 h4 g4; obtain rfl := i9 h5 g5; obtain ⟨v6, rfl, s6⟩ := o7 h6 g6; obtain rfl := i9 h7 g7; obtain rfl := i9 h8 g8; obtain ⟨v9, rfl, s9⟩ := o7 h9 g9; exact p7.mkIs (x := ⟨a0, a1, a2, a3, a4, a5, a6, a7, a8, a9⟩) s6 s9
 ·cases h
def fl5 (x : a0n) : List (SV D) := [.i .i64 x.err, .sl .u8 x.data, .i .i64 x.epoch, .sl .int x.nodes]
def fo5 (x : a0n) (m : Mn D) (cs : List Value) (h : Rp.Is m.G cs x) : RC m (fl5 x) cs := by
 obtain ⟨v0, v1, rfl, h0, h1⟩ := a0n.opIs h
 exact ⟨[_], _, rfl, ⟨_, rfl, rfl⟩, ⟨[_], _, rfl, ⟨_, rfl, h0⟩, ⟨[_], _, rfl, ⟨_, rfl, rfl⟩, ⟨[_], _, rfl, ⟨_, rfl, h1⟩, rfl⟩⟩⟩⟩
def sh5 (bs : List Bool) : List (SV D) -> Option a0n
 | [y0, y1, y2, y3] => (t7 y0).bind fun a0 => (gSl .u8 y1).bind fun a1 => (t7 y2).bind fun a2 => (gSl .int y3).bind fun a3 => some (⟨a0, a1, a2, a3⟩ : a0n)
 | _ => none
def so5 (x : a0n) (m : Mn D) (l : List (SV D)) (cs : List Value) (h : sh5 m.bs l = some x) (hc : RC m l cs) : Rp.Is m.G cs x := by
 unfold sh5 at h
 split at h
 ·obtain ⟨a0, h0, h⟩ := A5.1 h; obtain ⟨a1, h1, h⟩ := A5.1 h; obtain ⟨a2, h2, h⟩ := A5.1 h; obtain ⟨a3, h3, h⟩ := A5.1 h; cases h; obtain ⟨c0, r0, rfl, g0, hc⟩ := hc; obtain ⟨c1, r1, rfl, g1, hc⟩ := hc; obtain ⟨c2, r2, rfl, g2, hc⟩ := hc; obtain ⟨c3, r3, rfl, g3, hc⟩ := hc; have hc : _ = _ := hc; subst hc; obtain rfl := i9 h0 g0; obtain ⟨v1, rfl, s1⟩ := o7 h1 g1; obtain rfl := i9 h2 g2; obtain ⟨v3, rfl, s3⟩ := o7 h3 g3; exact a0n.mkIs (x := ⟨a0, a1, a2, a3⟩) s1 s3
 ·cases h
def fl6 (x : a0i) : List (SV D) := [.i .i64 x.seq, .dig x.dig, .sl (.st 4) x.batch]
def fo6 (x : a0i) (m : Mn D) (cs : List Value) (h : Rp.Is m.G cs x) : RC m (fl6 x) cs := by
 obtain ⟨v0, rfl, h0⟩ := a0i.opIs h
 exact ⟨[_], _, rfl, ⟨_, rfl, rfl⟩, ⟨_, _, rfl, rfl, ⟨[_], _, rfl, ⟨_, rfl, h0⟩, rfl⟩⟩⟩
def sh6 (bs : List Bool) : List (SV D) -> Option a0i
 | [y0, y1, y2] => (t7 y0).bind fun a0 => (c2b y1).bind fun a1 => (gSl (.st 4) y2).bind fun a2 => some (⟨a0, a1, a2⟩ : a0i)
 | _ => none
def so6 (x : a0i) (m : Mn D) (l : List (SV D)) (cs : List Value) (h : sh6 m.bs l = some x) (hc : RC m l cs) : Rp.Is m.G cs x := by
 unfold sh6 at h
 split at h
 ·obtain ⟨a0, h0, h⟩ := A5.1 h; obtain ⟨a1, h1, h⟩ := A5.1 h; obtain ⟨a2, h2, h⟩ := A5.1 h; cases h; obtain ⟨c0, r0, rfl, g0, hc⟩ := hc; obtain ⟨c1, r1, rfl, g1, hc⟩ := hc; obtain ⟨c2, r2, rfl, g2, hc⟩ := hc; have hc : _ = _ := hc; subst hc; obtain rfl := i9 h0 g0; obtain rfl := a6j h1 g1; obtain ⟨v2, rfl, s2⟩ := o7 h2 g2; exact a0i.mkIs (x := ⟨a0, a1, a2⟩) s2
 ·cases h
def fl7 (x : d7) : List (SV D) := [.i .i64 x.kind, .i .i64 x.sq, .i .i64 x.group, .i .i64 x.epoch, .i .i64 x.view, .i .i64 x.seq, .dig x.dig, .sl (.st 4) x.batch, .i .i64 x.answer.err, .sl .u8 x.answer.data, .i .i64 x.answer.epoch, .sl .int x.answer.nodes, .i .i64 x.stamp, .i .i64 x.node, .i .i64 x.change.node, .i .i64 x.change.view, .i .i64 x.change.low, .sl (.st 1) x.change.mz, .sl (.st 2) x.change.p, .sl (.st 2) x.change.q, .sl (.st 3) x.changes, .sl (.st 6) x.picks, .i .i64 x.level, .i .i64 x.place, .sl .dig x.digests, .sl .u8 x.data, .sl .int x.nodes]
def fo7 (x : d7) (m : Mn D) (cs : List Value) (h : Rp.Is m.G cs x) : RC m (fl7 x) cs := by
 obtain ⟨v0, v1, v2, v3, v4, v5, v6, v7, v8, v9, v10, rfl, h0, h1, h2, h3, h4, h5, h6, h7, h8, h9, h10⟩ := d7.opIs h
 exact ⟨[_], _, rfl, ⟨_, rfl, rfl⟩, ⟨[_], _, rfl, ⟨_, rfl, rfl⟩, ⟨[_], _, rfl, ⟨_, rfl, rfl⟩, ⟨[_], _, rfl, ⟨_, rfl, rfl⟩, ⟨[_], _, rfl, ⟨_, rfl, rfl⟩, ⟨[_], _, rfl, ⟨_, rfl, rfl⟩, ⟨_, _, rfl, rfl, ⟨[_], _, rfl, ⟨_, rfl, h0⟩, ⟨[_], _, rfl, ⟨_, rfl, rfl⟩, ⟨[_], _, rfl, ⟨_, rfl, h1⟩, ⟨[_], _, rfl, ⟨_, rfl, rfl⟩, ⟨[_], _, rfl, ⟨_, rfl, h2⟩, ⟨[_], _, rfl, ⟨_, rfl, rfl⟩, ⟨[_], _, rfl, ⟨_, rfl, rfl⟩, ⟨[_], _, rfl, ⟨_, rfl, rfl⟩, ⟨[_], _, rfl, ⟨_, rfl, rfl⟩, ⟨[_], _, rfl, ⟨_, rfl, rfl⟩, ⟨[_], _, rfl, ⟨_, rfl, h3⟩, ⟨[_], _, rfl, ⟨_, rfl, h4⟩, ⟨[_], _, rfl, ⟨_, rfl, h5⟩, ⟨[_], _, rfl, ⟨_, rfl, h6⟩, ⟨[_], _, rfl, ⟨_, rfl, h7⟩, ⟨[_], _, rfl, ⟨_, rfl, rfl⟩, ⟨[_], _, rfl, ⟨_, rfl, rfl⟩, ⟨[_], _, rfl, ⟨_, rfl, h8⟩, ⟨[_], _, rfl, ⟨_, rfl, h9⟩, ⟨[_], _, rfl, ⟨_, rfl, h10⟩, rfl⟩⟩⟩⟩⟩⟩⟩⟩⟩⟩⟩⟩⟩⟩⟩⟩⟩⟩⟩⟩⟩⟩⟩⟩⟩⟩⟩
def sh7 (bs : List Bool) : List (SV D) -> Option d7
 | [y0, y1, y2, y3, y4, y5, y6, y7, y8, y9, y10, y11, y12, y13, y14, y15, y16, y17, y18, y19, y20, y21, y22, y23, y24, y25, y26] => (t7 y0).bind fun a0 => (t7 y1).bind fun a1 => (t7 y2).bind fun a2 => (t7 y3).bind fun a3 => (t7 y4).bind fun a4 => (t7 y5).bind fun a5 => (c2b y6).bind fun a6 => (gSl (.st 4) y7).bind fun a7 => (t7 y8).bind fun a8 => (gSl .u8 y9).bind fun a9 => (t7 y10).bind fun a10 => (gSl .int y11).bind fun a11 => (t7 y12).bind fun a12 => (t7 y13).bind fun a13 => (t7 y14).bind fun a14 => (t7 y15).bind fun a15 => (t7 y16).bind fun a16 => (gSl (.st 1) y17).bind fun a17 => (gSl (.st 2) y18).bind fun a18 => (gSl (.st 2) y19).bind fun a19 => (gSl (.st 3) y20).bind fun a20 => (gSl (.st 6) y21).bind fun a21 => (t7 y22).bind fun a22 => (t7 y23).bind fun a23 => (gSl .dig y24).bind fun a24 => (gSl .u8 y25).bind fun a25 => (gSl .int y26).bind fun a26 => some (⟨a0, a1, a2, a3, a4, a5, a6, a7, ⟨a8, a9, a10, a11⟩, a12, a13, ⟨a14, a15, a16, a17, a18, a19⟩, a20, a21, a22, a23, a24, a25, a26⟩ : d7)
 | _ => none
def so7 (x : d7) (m : Mn D) (l : List (SV D)) (cs : List Value) (h : sh7 m.bs l = some x) (hc : RC m l cs) : Rp.Is m.G cs x := by
 unfold sh7 at h
 split at h
 ·obtain ⟨a0, h0, h⟩ := A5.1 h; obtain ⟨a1, h1, h⟩ := A5.1 h; obtain ⟨a2, h2, h⟩ := A5.1 h; obtain ⟨a3, h3, h⟩ := A5.1 h; obtain ⟨a4, h4, h⟩ := A5.1 h; obtain ⟨a5, h5, h⟩ := A5.1 h; obtain ⟨a6, h6, h⟩ := A5.1 h; obtain ⟨a7, h7, h⟩ := A5.1 h; obtain ⟨a8, h8, h⟩ := A5.1 h; obtain ⟨a9, h9, h⟩ := A5.1 h; obtain ⟨a10, h10, h⟩ := A5.1 h; obtain ⟨a11, h11, h⟩ := A5.1 h; obtain ⟨a12, h12, h⟩ := A5.1 h; obtain ⟨a13, h13, h⟩ := A5.1 h; obtain ⟨a14, h14, h⟩ := A5.1 h; obtain ⟨a15, h15, h⟩ := A5.1 h; obtain ⟨a16, h16, h⟩ := A5.1 h; obtain ⟨a17, h17, h⟩ := A5.1 h; obtain ⟨a18, h18, h⟩ := A5.1 h; obtain ⟨a19, h19, h⟩ := A5.1 h; obtain ⟨a20, h20, h⟩ := A5.1 h; obtain ⟨a21, h21, h⟩ := A5.1 h; obtain ⟨a22, h22, h⟩ := A5.1 h; obtain ⟨a23, h23, h⟩ := A5.1 h; obtain ⟨a24, h24, h⟩ := A5.1 h; obtain ⟨a25, h25, h⟩ := A5.1 h; obtain ⟨a26, h26, h⟩ := A5.1 h; cases h; obtain ⟨c0, r0, rfl, g0, hc⟩ := hc; obtain ⟨c1, r1, rfl, g1, hc⟩ := hc; obtain ⟨c2, r2, rfl, g2, hc⟩ := hc; obtain ⟨c3, r3, rfl, g3, hc⟩ := hc; obtain ⟨c4, r4, rfl, g4, hc⟩ := hc; obtain ⟨c5, r5, rfl, g5, hc⟩ := hc; obtain ⟨c6, r6, rfl, g6, hc⟩ := hc; obtain ⟨c7, r7, rfl, g7, hc⟩ := hc; obtain ⟨c8, r8, rfl, g8, hc⟩ := hc; obtain ⟨c9, r9, rfl, g9, hc⟩ := hc; obtain ⟨c10, r10, rfl, g10, hc⟩ := hc; obtain ⟨c11, r11, rfl, g11, hc⟩ := hc; obtain ⟨c12, r12, rfl, g12, hc⟩ := hc; obtain ⟨c13, r13, rfl, g13, hc⟩ := hc; obtain ⟨c14, r14, rfl, g14, hc⟩ := hc; obtain ⟨c15, r15, rfl, g15, hc⟩ := hc; obtain ⟨c16, r16, rfl, g16, hc⟩ := hc; obtain ⟨c17, r17, rfl, g17, hc⟩ := hc; obtain ⟨c18, r18, rfl, g18, hc⟩ := hc; obtain ⟨c19, r19, rfl, g19, hc⟩ := hc; obtain ⟨c20, r20, rfl, g20, hc⟩ := hc; obtain ⟨c21, r21, rfl, g21, hc⟩ := hc; obtain ⟨c22, r22, rfl, g22, hc⟩ := hc; obtain ⟨c23, r23, rfl, g23, hc⟩ := hc; obtain ⟨c24, r24, rfl, g24, hc⟩ := hc; obtain ⟨c25, r25, rfl, g25, hc⟩ := hc; obtain ⟨c26, r26, rfl, g26, hc⟩ := hc; have hc : _ = _ := hc; subst hc; obtain rfl := i9 h0 g0; obtain rfl := i9 h1 g1; obtain rfl := i9 h2 g2; obtain rfl := i9 h3 g3; obtain rfl := i9 h4 g4; obtain rfl := i9 h5 g5; obtain rfl := a6j h6 g6; obtain ⟨v7, rfl, s7⟩ := o7 h7 g7; obtain rfl := i9 h8 g8; obtain ⟨v9, rfl, s9⟩ := o7 h9 g9; obtain rfl := i9 h10 g10; obtain ⟨v11, rfl, s11⟩ := o7 h11 g11; obtain rfl := i9 h12 g12; obtain rfl := i9 h13 g13; obtain rfl := i9 h14 g14; obtain rfl := i9 h15 g15; obtain rfl := i9 h16 g16; obtain ⟨v17, rfl, s17⟩ := o7 h17 g17; obtain ⟨v18, rfl, s18⟩ := o7 h18 g18; obtain ⟨v19, rfl, s19⟩ := o7 h19 g19; obtain ⟨v20, rfl, s20⟩ := o7 h20 g20; obtain ⟨v21, rfl, s21⟩ := o7 h21 g21; obtain rfl := i9 h22 g22; obtain rfl := i9 h23 g23; obtain ⟨v24, rfl, s24⟩ := o7 h24 g24; obtain ⟨v25, rfl, s25⟩ := o7 h25 g25; obtain ⟨v26, rfl, s26⟩ := o7 h26 g26; exact d7.mkIs (x := ⟨a0, a1, a2, a3, a4, a5, a6, a7, ⟨a8, a9, a10, a11⟩, a12, a13, ⟨a14, a15, a16, a17, a18, a19⟩, a20, a21, a22, a23, a24, a25, a26⟩) s7 s9 s11 s17 s18 s19 s20 s21 s24 s25 s26
 ·cases h
def fl8 (x : u5) : List (SV D) := [.i .i64 x.change.node, .i .i64 x.change.view, .i .i64 x.change.low, .sl (.st 1) x.change.mz, .sl (.st 2) x.change.p, .sl (.st 2) x.change.q, .dig x.dig]
def fo8 (x : u5) (m : Mn D) (cs : List Value) (h : Rp.Is m.G cs x) : RC m (fl8 x) cs := by
 obtain ⟨v0, v1, v2, rfl, h0, h1, h2⟩ := u5.opIs h
 exact ⟨[_], _, rfl, ⟨_, rfl, rfl⟩, ⟨[_], _, rfl, ⟨_, rfl, rfl⟩, ⟨[_], _, rfl, ⟨_, rfl, rfl⟩, ⟨[_], _, rfl, ⟨_, rfl, h0⟩, ⟨[_], _, rfl, ⟨_, rfl, h1⟩, ⟨[_], _, rfl, ⟨_, rfl, h2⟩, ⟨_, _, rfl, rfl, rfl⟩⟩⟩⟩⟩⟩⟩
def sh8 (bs : List Bool) : List (SV D) -> Option u5
 | [y0, y1, y2, y3, y4, y5, y6] => (t7 y0).bind fun a0 => (t7 y1).bind fun a1 => (t7 y2).bind fun a2 => (gSl (.st 1) y3).bind fun a3 => (gSl (.st 2) y4).bind fun a4 => (gSl (.st 2) y5).bind fun a5 => (c2b y6).bind fun a6 => some (⟨⟨a0, a1, a2, a3, a4, a5⟩, a6⟩ : u5)
 | _ => none
def so8 (x : u5) (m : Mn D) (l : List (SV D)) (cs : List Value) (h : sh8 m.bs l = some x) (hc : RC m l cs) : Rp.Is m.G cs x := by
 unfold sh8 at h
 split at h
 ·obtain ⟨a0, h0, h⟩ := A5.1 h; obtain ⟨a1, h1, h⟩ := A5.1 h; obtain ⟨a2, h2, h⟩ := A5.1 h; obtain ⟨a3, h3, h⟩ := A5.1 h; obtain ⟨a4, h4, h⟩ := A5.1 h; obtain ⟨a5, h5, h⟩ := A5.1 h; obtain ⟨a6, h6, h⟩ := A5.1 h; cases h; obtain ⟨c0, r0, rfl, g0, hc⟩ := hc; obtain ⟨c1, r1, rfl, g1, hc⟩ := hc; obtain ⟨c2, r2, rfl, g2, hc⟩ := hc; obtain ⟨c3, r3, rfl, g3, hc⟩ := hc; obtain ⟨c4, r4, rfl, g4, hc⟩ := hc; obtain ⟨c5, r5, rfl, g5, hc⟩ := hc; obtain ⟨c6, r6, rfl, g6, hc⟩ := hc; have hc : _ = _ := hc; subst hc; obtain rfl := i9 h0 g0; obtain rfl := i9 h1 g1; obtain rfl := i9 h2 g2; obtain ⟨v3, rfl, s3⟩ := o7 h3 g3; obtain ⟨v4, rfl, s4⟩ := o7 h4 g4; obtain ⟨v5, rfl, s5⟩ := o7 h5 g5; obtain rfl := a6j h6 g6; exact u5.mkIs (x := ⟨⟨a0, a1, a2, a3, a4, a5⟩, a6⟩) s3 s4 s5
 ·cases h
def fl9 (x : Ack) : List (SV D) := [.i .i64 x.view, .dig x.dig]
def fo9 (x : Ack) (m : Mn D) (cs : List Value) (h : Rp.Is m.G cs x) : RC m (fl9 x) cs := by
 have h : cs = _ := h
 subst h
 exact ⟨[_], _, rfl, ⟨_, rfl, rfl⟩, ⟨_, _, rfl, rfl, rfl⟩⟩
def sh9 (bs : List Bool) : List (SV D) -> Option Ack
 | [y0, y1] => (t7 y0).bind fun a0 => (c2b y1).bind fun a1 => some (⟨a0, a1⟩ : Ack)
 | _ => none
def so9 (x : Ack) (m : Mn D) (l : List (SV D)) (cs : List Value) (h : sh9 m.bs l = some x) (hc : RC m l cs) : Rp.Is m.G cs x := by
 unfold sh9 at h
 split at h
 ·obtain ⟨a0, h0, h⟩ := A5.1 h; obtain ⟨a1, h1, h⟩ := A5.1 h; cases h; obtain ⟨c0, r0, rfl, g0, hc⟩ := hc; obtain ⟨c1, r1, rfl, g1, hc⟩ := hc; have hc : _ = _ := hc; subst hc; obtain rfl := i9 h0 g0; obtain rfl := a6j h1 g1; exact rfl
 ·cases h
def f5v (x : x7) : List (SV D) := [.i .i64 x.sq, .i .i64 x.node]
def g2w (x : x7) (m : Mn D) (cs : List Value) (h : Rp.Is m.G cs x) : RC m (f5v x) cs := by
 have h : cs = _ := h
 subst h
 exact ⟨[_], _, rfl, ⟨_, rfl, rfl⟩, ⟨[_], _, rfl, ⟨_, rfl, rfl⟩, rfl⟩⟩
def f5w (bs : List Bool) : List (SV D) -> Option x7
 | [y0, y1] => (t7 y0).bind fun a0 => (t7 y1).bind fun a1 => some (⟨a0, a1⟩ : x7)
 | _ => none
def g7a (x : x7) (m : Mn D) (l : List (SV D)) (cs : List Value) (h : f5w m.bs l = some x) (hc : RC m l cs) : Rp.Is m.G cs x := by
 unfold f5w at h
 split at h
 ·obtain ⟨a0, h0, h⟩ := A5.1 h; obtain ⟨a1, h1, h⟩ := A5.1 h; cases h; obtain ⟨c0, r0, rfl, g0, hc⟩ := hc; obtain ⟨c1, r1, rfl, g1, hc⟩ := hc; have hc : _ = _ := hc; subst hc; obtain rfl := i9 h0 g0; obtain rfl := i9 h1 g1; exact rfl
 ·cases h
def g2x (x : a0w) : List (SV D) := [.i .i64 x.sq, .i .i64 x.node, .i .i64 x.view, .dig x.dig]
def g7b (x : a0w) (m : Mn D) (cs : List Value) (h : Rp.Is m.G cs x) : RC m (g2x x) cs := by
 have h : cs = _ := h
 subst h
 exact ⟨[_], _, rfl, ⟨_, rfl, rfl⟩, ⟨[_], _, rfl, ⟨_, rfl, rfl⟩, ⟨[_], _, rfl, ⟨_, rfl, rfl⟩, ⟨_, _, rfl, rfl, rfl⟩⟩⟩⟩
def f5x (bs : List Bool) : List (SV D) -> Option a0w
 | [y0, y1, y2, y3] => (t7 y0).bind fun a0 => (t7 y1).bind fun a1 => (t7 y2).bind fun a2 => (c2b y3).bind fun a3 => some (⟨a0, a1, a2, a3⟩ : a0w)
 | _ => none
def g7c (x : a0w) (m : Mn D) (l : List (SV D)) (cs : List Value) (h : f5x m.bs l = some x) (hc : RC m l cs) : Rp.Is m.G cs x := by
 unfold f5x at h
 split at h
 ·obtain ⟨a0, h0, h⟩ := A5.1 h; obtain ⟨a1, h1, h⟩ := A5.1 h; obtain ⟨a2, h2, h⟩ := A5.1 h; obtain ⟨a3, h3, h⟩ := A5.1 h; cases h; obtain ⟨c0, r0, rfl, g0, hc⟩ := hc; obtain ⟨c1, r1, rfl, g1, hc⟩ := hc; obtain ⟨c2, r2, rfl, g2, hc⟩ := hc; obtain ⟨c3, r3, rfl, g3, hc⟩ := hc; have hc : _ = _ := hc; subst hc; obtain rfl := i9 h0 g0; obtain rfl := i9 h1 g1; obtain rfl := i9 h2 g2; obtain rfl := a6j h3 g3; exact rfl
 ·cases h
def g2y (x : a7b) : List (SV D) := [.i .i64 x.sq, .i .i64 x.node, .i .i64 x.view, .b x.acks, .u8 x.b]
def g7d (x : a7b) (m : Mn D) (cs : List Value) (h : Rp.Is m.G cs x) : RC m (g2y x) cs := by
 have h : cs = _ := h
 subst h
 exact ⟨[_], _, rfl, ⟨_, rfl, rfl⟩, ⟨[_], _, rfl, ⟨_, rfl, rfl⟩, ⟨[_], _, rfl, ⟨_, rfl, rfl⟩, ⟨[_], _, rfl, ⟨_, rfl, rfl⟩, ⟨[_], _, rfl, ⟨_, rfl, rfl⟩, rfl⟩⟩⟩⟩⟩
def f5y (bs : List Bool) : List (SV D) -> Option a7b
 | [y0, y1, y2, y3, y4] => (t7 y0).bind fun a0 => (t7 y1).bind fun a1 => (t7 y2).bind fun a2 => (asB bs y3).bind fun a3 => (gU8 y4).bind fun a4 => some (⟨a0, a1, a2, a3, a4⟩ : a7b)
 | _ => none
def g7e (x : a7b) (m : Mn D) (l : List (SV D)) (cs : List Value) (h : f5y m.bs l = some x) (hc : RC m l cs) : Rp.Is m.G cs x := by
 unfold f5y at h
 split at h
 ·obtain ⟨a0, h0, h⟩ := A5.1 h; obtain ⟨a1, h1, h⟩ := A5.1 h; obtain ⟨a2, h2, h⟩ := A5.1 h; obtain ⟨a3, h3, h⟩ := A5.1 h; obtain ⟨a4, h4, h⟩ := A5.1 h; cases h; obtain ⟨c0, r0, rfl, g0, hc⟩ := hc; obtain ⟨c1, r1, rfl, g1, hc⟩ := hc; obtain ⟨c2, r2, rfl, g2, hc⟩ := hc; obtain ⟨c3, r3, rfl, g3, hc⟩ := hc; obtain ⟨c4, r4, rfl, g4, hc⟩ := hc; have hc : _ = _ := hc; subst hc; obtain rfl := i9 h0 g0; obtain rfl := i9 h1 g1; obtain rfl := i9 h2 g2; obtain rfl := e0h h3 g3; obtain rfl := f4t h4 g4; exact rfl
 ·cases h
def g2z (x : Do) : List (SV D) := [.i .i64 x.kind, .i .i64 x.note.kind, .i .i64 x.note.sq, .i .i64 x.note.group, .i .i64 x.note.epoch, .i .i64 x.note.view, .i .i64 x.note.seq, .dig x.note.dig, .sl (.st 4) x.note.batch, .i .i64 x.note.answer.err, .sl .u8 x.note.answer.data, .i .i64 x.note.answer.epoch, .sl .int x.note.answer.nodes, .i .i64 x.note.stamp, .i .i64 x.note.node, .i .i64 x.note.change.node, .i .i64 x.note.change.view, .i .i64 x.note.change.low, .sl (.st 1) x.note.change.mz, .sl (.st 2) x.note.change.p, .sl (.st 2) x.note.change.q, .sl (.st 3) x.note.changes, .sl (.st 6) x.note.picks, .i .i64 x.note.level, .i .i64 x.note.place, .sl .dig x.note.digests, .sl .u8 x.note.data, .sl .int x.note.nodes, .i .i64 x.change.node, .i .i64 x.change.view, .i .i64 x.change.low, .sl (.st 1) x.change.mz, .sl (.st 2) x.change.p, .sl (.st 2) x.change.q]
def g7f (x : Do) (m : Mn D) (cs : List Value) (h : Rp.Is m.G cs x) : RC m (g2z x) cs := by
 obtain ⟨v0, v1, v2, v3, v4, v5, v6, v7, v8, v9, v10, v11, v12, v13, rfl, h0, h1, h2, h3, h4, h5, h6, h7, h8, h9, h10, h11, h12, h13⟩ := Do.opIs h
 exact ⟨[_], _, rfl, ⟨_, rfl, rfl⟩, ⟨[_], _, rfl, ⟨_, rfl, rfl⟩, ⟨[_], _, rfl, ⟨_, rfl, rfl⟩, ⟨[_], _, rfl, ⟨_, rfl, rfl⟩, ⟨[_], _, rfl, ⟨_, rfl, rfl⟩, ⟨[_], _, rfl, ⟨_, rfl, rfl⟩, ⟨[_], _, rfl, ⟨_, rfl, rfl⟩, ⟨_, _, rfl, rfl, ⟨[_], _, rfl, ⟨_, rfl, h0⟩, ⟨[_], _, rfl, ⟨_, rfl, rfl⟩, ⟨[_], _, rfl, ⟨_, rfl, h1⟩, ⟨[_], _, rfl, ⟨_, rfl, rfl⟩, ⟨[_], _, rfl, ⟨_, rfl, h2⟩, ⟨[_], _, rfl, ⟨_, rfl, rfl⟩, ⟨[_], _, rfl, ⟨_, rfl, rfl⟩, ⟨[_], _, rfl, ⟨_, rfl, rfl⟩, ⟨[_], _, rfl, ⟨_, rfl, rfl⟩, ⟨[_], _, rfl, ⟨_, rfl, rfl⟩, ⟨[_], _, rfl, ⟨_, rfl, h3⟩, ⟨[_], _, rfl, ⟨_, rfl, h4⟩, ⟨[_], _, rfl, ⟨_, rfl, h5⟩, ⟨[_], _, rfl, ⟨_, rfl, h6⟩, ⟨[_], _, rfl, ⟨_, rfl, h7⟩, ⟨[_], _, rfl, ⟨_, rfl, rfl⟩, ⟨[_], _, rfl, ⟨_, rfl, rfl⟩, ⟨[_], _, rfl, ⟨_, rfl, h8⟩, ⟨[_], _, rfl, ⟨_, rfl, h9⟩, ⟨[_], _, rfl, ⟨_, rfl, h10⟩, ⟨[_], _, rfl, ⟨_, rfl, rfl⟩, ⟨[_], _, rfl, ⟨_, rfl, rfl⟩, ⟨[_], _, rfl, ⟨_, rfl, rfl⟩, ⟨[_], _, rfl, ⟨_, rfl, h11⟩, ⟨[_], _, rfl, ⟨_, rfl, h12⟩, ⟨[_], _, rfl, ⟨_, rfl, h13⟩, rfl⟩⟩⟩⟩⟩⟩⟩⟩⟩⟩⟩⟩⟩⟩⟩⟩⟩⟩⟩⟩⟩⟩⟩⟩⟩⟩⟩⟩⟩⟩⟩⟩⟩⟩
def f5z (bs : List Bool) : List (SV D) -> Option Do
 | y0 :: y1 :: y2 :: y3 :: y4 :: y5 :: y6 :: y7 :: y8 :: y9 :: y10 :: y11 :: y12 :: y13 :: y14 :: y15 :: y16 :: y17 :: y18 :: y19 :: y20 :: y21 :: y22 :: y23 :: y24 :: y25 :: y26 :: y27 :: y28 :: y29 :: y30 :: y31 :: y32 :: y33 :: [] => (t7 y0).bind fun a0 => (t7 y1).bind fun a1 => (t7 y2).bind fun a2 => (t7 y3).bind fun a3 => (t7 y4).bind fun a4 => (t7 y5).bind fun a5 => (t7 y6).bind fun a6 => (c2b y7).bind fun a7 => (gSl (.st 4) y8).bind fun a8 => (t7 y9).bind fun a9 => (gSl .u8 y10).bind fun a10 => (t7 y11).bind fun a11 => (gSl .int y12).bind fun a12 => (t7 y13).bind fun a13 => (t7 y14).bind fun a14 => (t7 y15).bind fun a15 => (t7 y16).bind fun a16 => (t7 y17).bind fun a17 => (gSl (.st 1) y18).bind fun a18 => (gSl (.st 2) y19).bind fun a19 => (gSl (.st 2) y20).bind fun a20 => (gSl (.st 3) y21).bind fun a21 => (gSl (.st 6) y22).bind fun a22 => (t7 y23).bind fun a23 => (t7 y24).bind fun a24 => (gSl .dig y25).bind fun a25 => (gSl .u8 y26).bind fun a26 => (gSl .int y27).bind fun a27 => (t7 y28).bind fun a28 => (t7 y29).bind fun a29 => (t7 y30).bind fun a30 => (gSl (.st 1) y31).bind fun a31 => (gSl (.st 2) y32).bind fun a32 => (gSl (.st 2) y33).bind fun a33 => some (⟨a0, ⟨a1, a2, a3, a4, a5, a6, a7, a8, ⟨a9, a10, a11, a12⟩, a13, a14, ⟨a15, a16, a17, a18, a19, a20⟩, a21, a22, a23, a24, a25, a26, a27⟩, ⟨a28, a29, a30, a31, a32, a33⟩⟩ : Do)
 | _ => none
def g7g (x : Do) (m : Mn D) (l : List (SV D)) (cs : List Value) (h : f5z m.bs l = some x) (hc : RC m l cs) : Rp.Is m.G cs x := by
 unfold f5z at h
 split at h
 ·obtain ⟨a0, h0, h⟩ := A5.1 h; obtain ⟨a1, h1, h⟩ := A5.1 h; obtain ⟨a2, h2, h⟩ := A5.1 h; obtain ⟨a3, h3, h⟩ := A5.1 h; obtain ⟨a4, h4, h⟩ := A5.1 h; obtain ⟨a5, h5, h⟩ := A5.1 h; obtain ⟨a6, h6, h⟩ := A5.1 h; obtain ⟨a7, h7, h⟩ := A5.1 h; obtain ⟨a8, h8, h⟩ := A5.1 h; obtain ⟨a9, h9, h⟩ := A5.1 h; obtain ⟨a10, h10, h⟩ := A5.1 h; obtain ⟨a11, h11, h⟩ := A5.1 h; obtain ⟨a12, h12, h⟩ := A5.1 h; obtain ⟨a13, h13, h⟩ := A5.1 h; obtain ⟨a14, h14, h⟩ := A5.1 h; obtain ⟨a15, h15, h⟩ := A5.1 h; obtain ⟨a16, h16, h⟩ := A5.1 h; obtain ⟨a17, h17, h⟩ := A5.1 h; obtain ⟨a18, h18, h⟩ := A5.1 h; obtain ⟨a19, h19, h⟩ := A5.1 h; obtain ⟨a20, h20, h⟩ := A5.1 h; obtain ⟨a21, h21, h⟩ := A5.1 h; obtain ⟨a22, h22, h⟩ := A5.1 h; obtain ⟨a23, h23, h⟩ := A5.1 h; obtain ⟨a24, h24, h⟩ := A5.1 h; obtain ⟨a25, h25, h⟩ := A5.1 h; obtain ⟨a26, h26, h⟩ := A5.1 h; obtain ⟨a27, h27, h⟩ := A5.1 h; obtain ⟨a28, h28, h⟩ := A5.1 h; obtain ⟨a29, h29, h⟩ := A5.1 h; obtain ⟨a30, h30, h⟩ := A5.1 h; obtain ⟨a31, h31, h⟩ := A5.1 h; obtain ⟨a32, h32, h⟩ := A5.1 h; obtain ⟨a33, h33, h⟩ := A5.1 h; cases h; obtain ⟨c0, r0, rfl, g0, hc⟩ := hc; obtain ⟨c1, r1, rfl, g1, hc⟩ := hc; obtain ⟨c2, r2, rfl, g2, hc⟩ := hc; obtain ⟨c3, r3, rfl, g3, hc⟩ := hc; obtain ⟨c4, r4, rfl, g4, hc⟩ := hc; obtain ⟨c5, r5, rfl, g5, hc⟩ := hc; obtain ⟨c6, r6, rfl, g6, hc⟩ := hc; obtain ⟨c7, r7, rfl, g7, hc⟩ := hc; obtain ⟨c8, r8, rfl, g8, hc⟩ := hc; obtain ⟨c9, r9, rfl, g9, hc⟩ := hc; obtain ⟨c10, r10, rfl, g10, hc⟩ := hc; obtain ⟨c11, r11, rfl, g11, hc⟩ := hc; obtain ⟨c12, r12, rfl, g12, hc⟩ := hc; obtain ⟨c13, r13, rfl, g13, hc⟩ := hc; obtain ⟨c14, r14, rfl, g14, hc⟩ := hc; obtain ⟨c15, r15, rfl, g15, hc⟩ := hc; obtain ⟨c16, r16, rfl, g16, hc⟩ := hc; obtain ⟨c17, r17, rfl, g17, hc⟩ := hc; obtain ⟨c18, r18, rfl, g18, hc⟩ := hc; obtain ⟨c19, r19, rfl, g19, hc⟩ := hc; obtain ⟨c20, r20, rfl, g20, hc⟩ := hc; obtain ⟨c21, r21, rfl, g21, hc⟩ := hc; obtain ⟨c22, r22, rfl, g22, hc⟩ := hc; obtain ⟨c23, r23, rfl, g23, hc⟩ := hc; obtain ⟨c24, r24, rfl, g24, hc⟩ := hc; obtain ⟨c25, r25, rfl, g25, hc⟩ := hc; obtain ⟨c26, r26, rfl, g26, hc⟩ := hc; obtain ⟨c27, r27, rfl, g27, hc⟩ := hc; obtain ⟨c28, r28, rfl, g28, hc⟩ := hc; obtain ⟨c29, r29, rfl, g29, hc⟩ := hc; obtain ⟨c30, r30, rfl, g30, hc⟩ := hc; obtain ⟨c31, r31, rfl, g31, hc⟩ := hc; obtain ⟨c32, r32, rfl, g32, hc⟩ := hc; obtain ⟨c33, r33, rfl, g33, hc⟩ := hc; have hc : _ = _ := hc; subst hc; obtain rfl := i9 h0 g0; obtain rfl := i9 h1 g1; obtain rfl := i9 h2 g2; obtain rfl := i9 h3 g3; obtain rfl := i9 h4 g4; obtain rfl := i9 h5 g5; obtain rfl := i9 h6 g6; obtain rfl := a6j h7 g7; obtain ⟨v8, rfl, s8⟩ := o7 h8 g8; obtain rfl := i9 h9 g9; obtain ⟨v10, rfl, s10⟩ := o7 h10 g10; obtain rfl := i9 h11 g11; obtain ⟨v12, rfl, s12⟩ := o7 h12 g12; obtain rfl := i9 h13 g13; obtain rfl := i9 h14 g14; obtain rfl := i9 h15 g15; obtain rfl := i9 h16 g16; obtain rfl := i9 h17 g17; obtain ⟨v18, rfl, s18⟩ := o7 h18 g18; obtain ⟨v19, rfl, s19⟩ := o7 h19 g19; obtain ⟨v20, rfl, s20⟩ := o7 h20 g20; obtain ⟨v21, rfl, s21⟩ := o7 h21 g21; obtain ⟨v22, rfl, s22⟩ := o7 h22 g22; obtain rfl := i9 h23 g23; obtain rfl := i9 h24 g24; obtain ⟨v25, rfl, s25⟩ := o7 h25 g25; obtain ⟨v26, rfl, s26⟩ := o7 h26 g26; obtain ⟨v27, rfl, s27⟩ := o7 h27 g27; obtain rfl := i9 h28 g28; obtain rfl := i9 h29 g29; obtain rfl := i9 h30 g30; obtain ⟨v31, rfl, s31⟩ := o7 h31 g31; obtain ⟨v32, rfl, s32⟩ := o7 h32 g32; obtain ⟨v33, rfl, s33⟩ := o7 h33 g33; exact Do.mkIs (x := ⟨a0, ⟨a1, a2, a3, a4, a5, a6, a7, a8, ⟨a9, a10, a11, a12⟩, a13, a14, ⟨a15, a16, a17, a18, a19, a20⟩, a21, a22, a23, a24, a25, a26, a27⟩, ⟨a28, a29, a30, a31, a32, a33⟩⟩) s8 s10 s12 s18 s19 s20 s21 s22 s25 s26 s27 s31 s32 s33
 ·cases h
def efl : (n : Nat) -> ET n -> List (SV D)
 | 0, x => fl0 x
 | 1, x => fl1 x
 | 2, x => fl2 x
 | 3, x => fl3 x
 | 4, x => fl4 x
 | 5, x => fl5 x
 | 6, x => fl6 x
 | 7, x => fl7 x
 | 8, x => fl8 x
 | 9, x => fl9 x
 | 10, x => f5v x
 | 11, x => g2x x
 | 12, x => g2y x
 | 13, x => g2z x
 | 14, x => flA (k := .u32) (n := 8) x
 | 15, x => flA (k := .u8) (n := 64) x
 | 16, x => flA (k := .u32) (n := 64) x
 | 17, x => flA (k := .i64) (n := 8) x
 | 18, x => flA (k := .i64) (n := 3) x
 | 19, x => flA (k := .i64) (n := 2) x
 | _ + 20, x => [.b x]
def esh : (n : Nat) -> List Bool -> List (SV D) -> Option (ET n)
 | 0, bs, l => sh0 bs l
 | 1, bs, l => sh1 bs l
 | 2, bs, l => sh2 bs l
 | 3, bs, l => sh3 bs l
 | 4, bs, l => sh4 bs l
 | 5, bs, l => sh5 bs l
 | 6, bs, l => sh6 bs l
 | 7, bs, l => sh7 bs l
 | 8, bs, l => sh8 bs l
 | 9, bs, l => sh9 bs l
 | 10, bs, l => f5w bs l
 | 11, bs, l => f5x bs l
 | 12, bs, l => f5y bs l
 | 13, bs, l => f5z bs l
 | 14, bs, l => shA .u32 8 bs l
 | 15, bs, l => shA .u8 64 bs l
 | 16, bs, l => shA .u32 64 bs l
 | 17, bs, l => shA .i64 8 bs l
 | 18, bs, l => shA .i64 3 bs l
 | 19, bs, l => shA .i64 2 bs l
 | _ + 20, _, _ => none
def EF : DF D := ⟨efl, fun n x m cs h => match n, x, h with
 | 0, x, h => fo0 x m cs h
 | 1, x, h => fo1 x m cs h
 | 2, x, h => fo2 x m cs h
 | 3, x, h => fo3 x m cs h
 | 4, x, h => fo4 x m cs h
 | 5, x, h => fo5 x m cs h
 | 6, x, h => fo6 x m cs h
 | 7, x, h => fo7 x m cs h
 | 8, x, h => fo8 x m cs h
 | 9, x, h => fo9 x m cs h
 | 10, x, h => g2w x m cs h
 | 11, x, h => g7b x m cs h
 | 12, x, h => g7d x m cs h
 | 13, x, h => g7f x m cs h
 | 14, x, h => foA (k := .u32) (n := 8) x m cs h
 | 15, x, h => foA (k := .u8) (n := 64) x m cs h
 | 16, x, h => foA (k := .u32) (n := 64) x m cs h
 | 17, x, h => foA (k := .i64) (n := 8) x m cs h
 | 18, x, h => foA (k := .i64) (n := 3) x m cs h
 | 19, x, h => foA (k := .i64) (n := 2) x m cs h
 | _ + 20, x, h => RC.single rfl (show L m (.b x) (.bool x) from rfl) |> fun q => by have h : cs = _ := h; subst h; exact q, esh, fun n x m l cs h hc => match n, x, h with
 | 0, x, h => so0 x m l cs h hc
 | 1, x, h => so1 x m l cs h hc
 | 2, x, h => so2 x m l cs h hc
 | 3, x, h => so3 x m l cs h hc
 | 4, x, h => so4 x m l cs h hc
 | 5, x, h => so5 x m l cs h hc
 | 6, x, h => so6 x m l cs h hc
 | 7, x, h => so7 x m l cs h hc
 | 8, x, h => so8 x m l cs h hc
 | 9, x, h => so9 x m l cs h hc
 | 10, x, h => g7a x m l cs h hc
 | 11, x, h => g7c x m l cs h hc
 | 12, x, h => g7e x m l cs h hc
 | 13, x, h => g7g x m l cs h hc
 | 14, x, h => soA (k := .u32) (n := 8) x m l cs h hc
 | 15, x, h => soA (k := .u8) (n := 64) x m l cs h hc
 | 16, x, h => soA (k := .u32) (n := 64) x m l cs h hc
 | 17, x, h => soA (k := .i64) (n := 8) x m l cs h hc
 | 18, x, h => soA (k := .i64) (n := 3) x m l cs h hc
 | 19, x, h => soA (k := .i64) (n := 2) x m l cs h hc
 | _ + 20, _, h => by cases h⟩
def tyT (n : Nat) : Option Ty := (bif Nat.blt n 111 then (bif Nat.blt n 41 then (bif Nat.blt n 9 then (bif Nat.blt n 4 then (bif Nat.beq n 3 then some .int else none) else (bif Nat.blt n 5 then (bif Nat.beq n 4 then some .bool else none) else (bif Nat.beq n 5 then some .u8 else none))) else (bif Nat.blt n 35 then (bif Nat.blt n 33 then (bif Nat.beq n 9 then some .str else none) else (bif Nat.beq n 33 then some .dig else none)) else (bif Nat.blt n 37 then (bif Nat.beq n 35 then some (.sl .u8) else none) else (bif Nat.beq n 37 then some (.st 5) else none)))) else (bif Nat.blt n 57 then (bif Nat.blt n 46 then (bif Nat.beq n 41 then some (.st 3) else none) else (bif Nat.blt n 54 then (bif Nat.beq n 46 then some (.st 7) else none) else (bif Nat.beq n 54 then some (.st 18) else none))) else (bif Nat.blt n 73 then (bif Nat.blt n 72 then (bif Nat.beq n 57 then some (.st 12) else none) else (bif Nat.beq n 72 then some (.st 0) else none)) else (bif Nat.blt n 86 then (bif Nat.beq n 73 then some (.st 19) else none) else (bif Nat.beq n 86 then some (.st 13) else none))))) else (bif Nat.blt n 173 then (bif Nat.blt n 153 then (bif Nat.blt n 116 then (bif Nat.beq n 111 then some (.st 8) else none) else (bif Nat.blt n 118 then (bif Nat.beq n 116 then some (.st 1) else none) else (bif Nat.beq n 118 then some (.st 2) else none))) else (bif Nat.blt n 169 then (bif Nat.blt n 155 then (bif Nat.beq n 153 then some (.st 10) else none) else (bif Nat.beq n 155 then some (.st 9) else none)) else (bif Nat.blt n 172 then (bif Nat.beq n 169 then some (.st 6) else none) else (bif Nat.beq n 172 then some (.ik .u32) else none)))) else (bif Nat.blt n 211 then (bif Nat.blt n 175 then (bif Nat.beq n 173 then some (.st 14) else none) else (bif Nat.blt n 196 then (bif Nat.beq n 175 then some (.st 15) else none) else (bif Nat.beq n 196 then some (.ik .u64) else none))) else (bif Nat.blt n 217 then (bif Nat.blt n 214 then (bif Nat.beq n 211 then some (.st 4) else none) else (bif Nat.beq n 214 then some (.st 11) else none)) else (bif Nat.blt n 301 then (bif Nat.beq n 217 then some (.st 16) else none) else (bif Nat.beq n 301 then some (.st 17) else none))))))
def zrT (n : Nat) : Option (List (SV D)) := (bif Nat.blt n 116 then (bif Nat.blt n 54 then (bif Nat.blt n 33 then (bif Nat.blt n 9 then (bif Nat.blt n 4 then (bif Nat.beq n 3 then some [.i .i64 0] else none) else (bif Nat.beq n 4 then some [.lit false] else none)) else (bif Nat.blt n 22 then (bif Nat.beq n 9 then some [.str []] else none) else (bif Nat.blt n 29 then (bif Nat.beq n 22 then some [.nils] else none) else (bif Nat.beq n 29 then some [.i .i64 0] else none)))) else (bif Nat.blt n 37 then (bif Nat.blt n 35 then (bif Nat.beq n 33 then some [.dig Dig.zero] else none) else (bif Nat.beq n 35 then some [.nils] else none)) else (bif Nat.blt n 41 then (bif Nat.beq n 37 then some [.i .i64 0, .nils, .i .i64 0, .nils] else none) else (bif Nat.blt n 46 then (bif Nat.beq n 41 then some [.i .i64 0, .i .i64 0, .i .i64 0, .nils, .nils, .nils] else none) else (bif Nat.beq n 46 then some [.i .i64 0, .i .i64 0, .i .i64 0, .i .i64 0, .i .i64 0, .i .i64 0, .dig Dig.zero, .nils, .i .i64 0, .nils, .i .i64 0, .nils, .i .i64 0, .i .i64 0, .i .i64 0, .i .i64 0, .i .i64 0, .nils, .nils, .nils, .nils, .nils, .i .i64 0, .i .i64 0, .nils, .nils, .nils] else none))))) else (bif Nat.blt n 86 then (bif Nat.blt n 72 then (bif Nat.blt n 57 then (bif Nat.beq n 54 then some [.vec .i64 3 (replicate 3 0)] else none) else (bif Nat.beq n 57 then some [.i .i64 0, .i .i64 0, .i .i64 0, .lit false, .u8 0] else none)) else (bif Nat.blt n 73 then (bif Nat.beq n 72 then some [.i .i64 0, .nils] else none) else (bif Nat.blt n 83 then (bif Nat.beq n 73 then some [.vec .i64 2 (replicate 2 0)] else none) else (bif Nat.beq n 83 then some [.nilp, .nilp] else none)))) else (bif Nat.blt n 93 then (bif Nat.blt n 90 then (bif Nat.beq n 86 then some [.i .i64 0, .i .i64 0, .i .i64 0, .i .i64 0, .i .i64 0, .i .i64 0, .i .i64 0, .dig Dig.zero, .nils, .i .i64 0, .nils, .i .i64 0, .nils, .i .i64 0, .i .i64 0, .i .i64 0, .i .i64 0, .i .i64 0, .nils, .nils, .nils, .nils, .nils, .i .i64 0, .i .i64 0, .nils, .nils, .nils, .i .i64 0, .i .i64 0, .i .i64 0, .nils, .nils, .nils] else none) else (bif Nat.beq n 90 then some [.nilm] else none)) else (bif Nat.blt n 107 then (bif Nat.beq n 93 then some [.nilp, .i .i64 0, .nils, .i .i64 0, .i .i64 0, .i .i64 0, .nilm, .nilm] else none) else (bif Nat.blt n 111 then (bif Nat.beq n 107 then some [.nilm, .nilm, .i .i64 0] else none) else (bif Nat.beq n 111 then some [.i .i64 0, .i .i64 0, .i .i64 0, .nils, .nils, .nils, .dig Dig.zero] else none)))))) else (bif Nat.blt n 204 then (bif Nat.blt n 155 then (bif Nat.blt n 140 then (bif Nat.blt n 118 then (bif Nat.beq n 116 then some [.i .i64 0, .dig Dig.zero] else none) else (bif Nat.beq n 118 then some [.i .i64 0, .dig Dig.zero, .i .i64 0] else none)) else (bif Nat.blt n 143 then (bif Nat.beq n 140 then some [.nilp, .i .i64 0, .nils, .i .i64 0, .i .i64 0, .i .i64 0, .nils, .nils] else none) else (bif Nat.blt n 153 then (bif Nat.beq n 143 then some [.nils, .i .i64 0] else none) else (bif Nat.beq n 153 then some [.i .i64 0, .i .i64 0] else none)))) else (bif Nat.blt n 173 then (bif Nat.blt n 169 then (bif Nat.beq n 155 then some [.i .i64 0, .dig Dig.zero] else none) else (bif Nat.beq n 169 then some [.i .i64 0, .dig Dig.zero, .nils] else none)) else (bif Nat.blt n 175 then (bif Nat.beq n 173 then some [.vec .u32 8 (replicate 8 0)] else none) else (bif Nat.blt n 184 then (bif Nat.beq n 175 then some [.vec .u8 64 (replicate 64 0)] else none) else (bif Nat.beq n 184 then some [.nils] else none))))) else (bif Nat.blt n 244 then (bif Nat.blt n 214 then (bif Nat.blt n 211 then (bif Nat.beq n 204 then some [.nilp] else none) else (bif Nat.beq n 211 then some [.i .i64 0, .i .i64 0, .i .i64 0, .i .i64 0, .i .i64 0, .i .i64 0, .nils, .i .i64 0, .i .i64 0, .nils] else none)) else (bif Nat.blt n 217 then (bif Nat.beq n 214 then some [.i .i64 0, .i .i64 0, .i .i64 0, .dig Dig.zero] else none) else (bif Nat.blt n 225 then (bif Nat.beq n 217 then some [.vec .u32 64 (replicate 64 0)] else none) else (bif Nat.beq n 225 then some [.nils, .lit false] else none)))) else (bif Nat.blt n 270 then (bif Nat.blt n 261 then (bif Nat.beq n 244 then some [.i .u64 0] else none) else (bif Nat.beq n 261 then some [.lit false, .i .u32 0, .i .i32 0, .i .u32 0, .vec .u32 64 (replicate 64 0), .vec .u32 8 (replicate 8 0), .vec .u8 64 (replicate 64 0), .i .i64 0, .i .i64 0] else none)) else (bif Nat.blt n 301 then (bif Nat.beq n 270 then some [.nilp, .nilp, .nilp, .nilp] else none) else (bif Nat.blt n 360 then (bif Nat.beq n 301 then some [.vec .i64 8 (replicate 8 0)] else none) else (bif Nat.beq n 360 then some [.nils, .i .i64 0] else none)))))))
def g3a : a9j Tp 116 (Ty.enc D (.st 1)) := d4z (fl := fl1) (cells := Mark.cells) (fun m x => fo1 x m _ rfl) (fun x => by kernel_rfl) (fun x y => ⟨((x.seq == y.seq) && (decide (x.dig = y.dig) && true)), by kernel_rfl, by obtain ⟨a0, a1⟩ := x; obtain ⟨b0, b1⟩ := y; rw [J9]; simp⟩)
 (fun x v hv => by simp only [Mark.cells, D2, D4, H4, R1] at hv; rcases hv with rfl | hv <;> first | rfl | exact b5o _ _ hv)
 (fun x y h => by obtain ⟨a0, a1⟩ := x; obtain ⟨b0, b1⟩ := y; simp only [Mark.cells, K7, Value.int.injEq, Z9, M0, D6] at h; obtain ⟨rfl, h⟩ := h; rw [c3l h]) (by kernel_rfl)
def g3b : a9j Tp 153 (Ty.enc D (.st 10)) := d4z (fl := f5v) (cells := x7.cells) (fun m x => g2w x m _ rfl) (fun x => by kernel_rfl) (fun x y => ⟨((x.sq == y.sq) && ((x.node == y.node) && true)), by kernel_rfl, by obtain ⟨a0, a1⟩ := x; obtain ⟨b0, b1⟩ := y; rw [J9]; simp⟩)
 (fun x v hv => by simp only [x7.cells, D2, D4, H4, R1] at hv; rcases hv with rfl | rfl <;> first | rfl | exact b5o _ _ hv)
 (fun x y h => by obtain ⟨a0, a1⟩ := x; obtain ⟨b0, b1⟩ := y; simp only [x7.cells, K7, Value.int.injEq, Z9, M0, D6] at h; obtain ⟨rfl, rfl⟩ := h; rfl) (by kernel_rfl)
def kyT : Nat -> Option Ty
 | 3 => some .int
 | 9 => some .str
 | 33 => some .dig
 | 116 => some (.st 1)
 | 153 => some (.st 10)
 | _ => none
def f6a (t : Nat) (k : Ty) (h : kyT t = some k) : a9j Tp t (k.enc D) /\ ∀ (G : Gh) (x : k.den D) (v : Value), IsV G k x v ↔ v = k.enc D x := by
 unfold kyT at h
 split at h
 ·obtain rfl := (I9 h).symm; exact ⟨d9t (by kernel_rfl), fun G x v => Iff.rfl⟩
 ·obtain rfl := (I9 h).symm; exact ⟨e2u (by kernel_rfl), fun G x v => Iff.rfl⟩
 ·obtain rfl := (I9 h).symm; exact ⟨e2t (by kernel_rfl), fun G x v => Iff.rfl⟩
 ·obtain rfl := (I9 h).symm; exact ⟨g3a, fun G x v => ⟨fun ⟨cs, h1, h2⟩ => by have h2 : cs = _ := h2; rw [h1, h2]; rfl, fun h => ⟨_, h, rfl⟩⟩⟩
 ·obtain rfl := (I9 h).symm; exact ⟨g3b, fun G x v => ⟨fun ⟨cs, h1, h2⟩ => by have h2 : cs = _ := h2; rw [h1, h2]; rfl, fun h => ⟨_, h, rfl⟩⟩⟩
 ·cases h
def exT : Nat -> Option XK
 | 137 => some (.addT .i64)
 | 233 => some .cmp
 | 246 => some .add64
 | _ => none
def f6b (f : Nat) (k : XK) (h : exT f = some k) : XOk Tp f k := by
 unfold exT at h
 split at h
 ·obtain rfl := (I9 h).symm; exact e2k .i64 Tryz.func137 (by kernel_rfl) (by kernel_rfl) (by kernel_rfl) (by kernel_rfl)
 ·obtain rfl := (I9 h).symm; exact e8w Tryz.func233 (by kernel_rfl) (by kernel_rfl) (by kernel_rfl) (by kernel_rfl)
 ·obtain rfl := (I9 h).symm; exact d8g Tryz.func246 (by kernel_rfl) (by kernel_rfl) (by kernel_rfl) (by kernel_rfl)
 ·cases h
def Z0 : ZF Tp D := ZF.of Tp tyT zrT kyT f6a exT f6b
end
end Go.Proofs.YtpbcabanpppfoaaGreat
namespace Go.Proofs
open Go.RowKit Go.Maps Go.Sort Go.Shelf
noncomputable section
def Tryz.sortedA_ren : Go.Shelf.Ren := ⟨fun | 6 => 53 | 8 => 93 | 9 => 45 | 11 => 143 | 13 => 87 | 12 => 86 | 23 => 130 | 24 => 131 | 14 => 122 | 15 => 123 | 16 => 124 | 17 => 125 | 18 => 126 | 19 => 127 | 20 => 118 | 21 => 128 | 22 => 129 | 25 => 171 | 26 => 172 | 27 => 173 | 28 => 174 | 29 => 175 | 30 => 164 | 31 => 207 | n => n, fun | 26 => 3 | 28 => 129 | 24 => 22 | 0 => 0 | 3 => 3 | 37 => 158 | 48 => 172 | 50 => 196 | 4 => 4 | 40 => 189 | 39 => 188 | 45 => 49 | 5 => 5 | 9 => 9 | 51 => 244 | 55 => 233 | 57 => 293 | 58 => 294 | 33 => 162 | n => n, fun | n => n⟩
def Tryz.sortedA : Go.Proofs.SlLaysZI.n6 Tryz.prog Tryz.sortedA_ren where
 mixed := by kernel_rfl
 f6 := ⟨"slices.Sorted[int]", by decide, Tryz.func53.trans (congrArg some (by kernel_rfl))⟩
 f8 := ⟨"slices.Collect[int]", by decide, Tryz.func93.trans (congrArg some (by kernel_rfl))⟩
 f11 := ⟨"slices.AppendSeq[[]int,int]", by decide, Tryz.func143.trans (congrArg some (by kernel_rfl))⟩
 t0 := Tryz.underlying0
 a0 := Tryz.isAgg0
 z0 := Tryz.sizeOf0
 v0 := Tryz.zeroValue0
 t24 := Tryz.underlying22
 a24 := Tryz.isAgg22
 z24 := Tryz.sizeOf22
 v24 := Tryz.zeroValue22
 t26 := Tryz.underlying3
 a26 := Tryz.isAgg3
 z26 := Tryz.sizeOf3
 v26 := Tryz.zeroValue3
 t28 := Tryz.underlying129
 a28 := Tryz.isAgg129
 z28 := Tryz.sizeOf129
 v28 := Tryz.zeroValue129
 i26 := by kernel_rfl
def Tryz.sortA_ren : Go.Shelf.Ren := ⟨fun | 5 => 45 | 8 => 87 | 7 => 86 | 19 => 130 | 20 => 131 | 10 => 122 | 11 => 123 | 12 => 124 | 13 => 125 | 14 => 126 | 15 => 127 | 16 => 118 | 17 => 128 | 18 => 129 | 30 => 171 | 31 => 172 | 32 => 173 | 33 => 174 | 34 => 175 | 35 => 164 | 40 => 207 | n => n, fun | 23 => 22 | 25 => 3 | 3 => 3 | 32 => 158 | 22 => 22 | 0 => 0 | 44 => 172 | 46 => 196 | 4 => 4 | 36 => 189 | 35 => 188 | 41 => 49 | 5 => 5 | 9 => 9 | 53 => 244 | 57 => 233 | 63 => 293 | 64 => 294 | n => n, fun | n => n⟩
def Tryz.sortA : Go.Proofs.SlLaysM.n5 Tryz.prog Tryz.sortA_ren where
 mixed := by kernel_rfl
 f5 := ⟨"slices.Sort[[]int,int]", by decide, Tryz.func45.trans (congrArg some (by kernel_rfl))⟩
 f7 := ⟨"slices.pdqsortOrdered[int]", by decide, Tryz.func86.trans (congrArg some (by kernel_rfl))⟩
 f8 := Tryz.func87.trans (congrArg some (by kernel_rfl))
 f10 := ⟨"slices.insertionSortOrdered[int]", by decide, Tryz.func122.trans (congrArg some (by kernel_rfl))⟩
 f11 := ⟨"slices.heapSortOrdered[int]", by decide, Tryz.func123.trans (congrArg some (by kernel_rfl))⟩
 f12 := ⟨"slices.breakPatternsOrdered[int]", by decide, Tryz.func124.trans (congrArg some (by kernel_rfl))⟩
 f13 := ⟨"slices.choosePivotOrdered[int]", by decide, Tryz.func125.trans (congrArg some (by kernel_rfl))⟩
 f14 := ⟨"slices.reverseRangeOrdered[int]", by decide, Tryz.func126.trans (congrArg some (by kernel_rfl))⟩
 f15 := ⟨"slices.partialInsertionSortOrdered[int]", by decide, Tryz.func127.trans (congrArg some (by kernel_rfl))⟩
 f16 := ⟨"cmp.Less[int]", by decide, Tryz.func118.trans (congrArg some (by kernel_rfl))⟩
 f17 := ⟨"slices.partitionEqualOrdered[int]", by decide, Tryz.func128.trans (congrArg some (by kernel_rfl))⟩
 f18 := ⟨"slices.partitionOrdered[int]", by decide, Tryz.func129.trans (congrArg some (by kernel_rfl))⟩
 f19 := Tryz.func130.trans (congrArg some (by kernel_rfl))
 f20 := Tryz.func131.trans (congrArg some (by kernel_rfl))
 f30 := ⟨"slices.siftDownOrdered[int]", by decide, Tryz.func171.trans (congrArg some (by kernel_rfl))⟩
 f31 := Tryz.func172.trans (congrArg some (by kernel_rfl))
 f32 := Tryz.func173.trans (congrArg some (by kernel_rfl))
 f33 := ⟨"slices.medianAdjacentOrdered[int]", by decide, Tryz.func174.trans (congrArg some (by kernel_rfl))⟩
 f34 := ⟨"slices.medianOrdered[int]", by decide, Tryz.func175.trans (congrArg some (by kernel_rfl))⟩
 f35 := ⟨"cmp.isNaN[int]", by decide, Tryz.func164.trans (congrArg some (by kernel_rfl))⟩
 f40 := ⟨"slices.order2Ordered[int]", by decide, Tryz.func207.trans (congrArg some (by kernel_rfl))⟩
 t0 := Tryz.underlying0
 a0 := Tryz.isAgg0
 z0 := Tryz.sizeOf0
 v0 := Tryz.zeroValue0
 t3 := Tryz.underlying3
 a3 := Tryz.isAgg3
 z3 := Tryz.sizeOf3
 v3 := Tryz.zeroValue3
 t4 := Tryz.underlying4
 a4 := Tryz.isAgg4
 z4 := Tryz.sizeOf4
 v4 := Tryz.zeroValue4
 t5 := Tryz.underlying5
 a5 := Tryz.isAgg5
 z5 := Tryz.sizeOf5
 v5 := Tryz.zeroValue5
 t9 := Tryz.underlying9
 a9 := Tryz.isAgg9
 z9 := Tryz.sizeOf9
 v9 := Tryz.zeroValue9
 t22 := Tryz.underlying22
 a22 := Tryz.isAgg22
 z22 := Tryz.sizeOf22
 v22 := Tryz.zeroValue22
 t23 := Tryz.underlying22
 a23 := Tryz.isAgg22
 z23 := Tryz.sizeOf22
 v23 := Tryz.zeroValue22
 t25 := Tryz.underlying3
 a25 := Tryz.isAgg3
 z25 := Tryz.sizeOf3
 v25 := Tryz.zeroValue3
 t32 := Tryz.underlying158
 a32 := Tryz.isAgg158
 z32 := Tryz.sizeOf158
 v32 := Tryz.zeroValue158
 t35 := Tryz.underlying188
 a35 := Tryz.isAgg188
 z35 := Tryz.sizeOf188
 v35 := Tryz.zeroValue188
 t36 := Tryz.underlying189
 a36 := Tryz.isAgg189
 z36 := Tryz.sizeOf189
 v36 := Tryz.zeroValue189
 t41 := Tryz.underlying49
 a41 := Tryz.isAgg49
 z41 := Tryz.sizeOf49
 v41 := Tryz.zeroValue49
 t44 := Tryz.underlying172
 a44 := Tryz.isAgg172
 z44 := Tryz.sizeOf172
 v44 := Tryz.zeroValue172
 t46 := Tryz.underlying196
 a46 := Tryz.isAgg196
 z46 := Tryz.sizeOf196
 v46 := Tryz.zeroValue196
 t53 := Tryz.underlying244
 a53 := Tryz.isAgg244
 z53 := Tryz.sizeOf244
 v53 := Tryz.zeroValue244
 t57 := Tryz.underlying233
 a57 := Tryz.isAgg233
 z57 := Tryz.sizeOf233
 v57 := Tryz.zeroValue233
 t63 := Tryz.underlying293
 a63 := Tryz.isAgg293
 z63 := Tryz.sizeOf293
 v63 := Tryz.zeroValue293
 t64 := Tryz.underlying294
 a64 := Tryz.isAgg294
 z64 := Tryz.sizeOf294
 v64 := Tryz.zeroValue294
def Tryz.keysA_ren : Go.Shelf.Ren := ⟨fun | 7 => 54 | 10 => 94 | n => n, fun | 23 => 90 | 26 => 3 | 3 => 111 | 28 => 129 | 0 => 0 | 27 => 128 | 33 => 162 | 4 => 4 | n => n, fun | n => n⟩
def Tryz.keysA : Go.Proofs.SlLaysZI.n7 Tryz.prog Tryz.keysA_ren where
 mixed := by kernel_rfl
 f7 := ⟨"maps.Keys[map[int]bastide/change.said,int,bastide/change.said]", by decide, Tryz.func54.trans (congrArg some (by kernel_rfl))⟩
 f10 := ⟨"maps.Keys[map[int]bastide/change.said,int,bastide/change.said]$1", by decide, Tryz.func94.trans (congrArg some (by kernel_rfl))⟩
 t0 := Tryz.underlying0
 a0 := Tryz.isAgg0
 z0 := Tryz.sizeOf0
 v0 := Tryz.zeroValue0
 t4 := Tryz.underlying4
 a4 := Tryz.isAgg4
 z4 := Tryz.sizeOf4
 v4 := Tryz.zeroValue4
 t23 := Tryz.underlying90
 a23 := Tryz.isAgg90
 z23 := Tryz.sizeOf90
 v23 := Tryz.zeroValue90
 t26 := Tryz.underlying3
 a26 := Tryz.isAgg3
 z26 := Tryz.sizeOf3
 v26 := Tryz.zeroValue3
 t27 := Tryz.underlying128
 a27 := Tryz.isAgg128
 z27 := Tryz.sizeOf128
 v27 := Tryz.zeroValue128
 t28 := Tryz.underlying129
 a28 := Tryz.isAgg129
 z28 := Tryz.sizeOf129
 v28 := Tryz.zeroValue129
 t33 := Tryz.underlying162
 a33 := Tryz.isAgg162
 z33 := Tryz.sizeOf162
 v33 := Tryz.zeroValue162
def Tryz.sortsA (m : Nat) : AnyZI.SortsIn Tryz.prog Tryz.sortedA_ren Fence.wide m :=
  ⟨fun blk off cap ss W hH hblk hsz => callsIn_wide.2 (AnyM.slices_Sort_int Tryz.sortA blk off cap ss W hH hblk hsz),
   fun p cap W => callsIn_wide.2 (AnyM.slices_Sort_int_none Tryz.sortA p cap W)⟩
end
end Go.Proofs
namespace Go.Proofs.YtpbcabanpppfoaaGreat
open Go Go.Gx Go.Vz Go.RowKit Go.Maps Go.Sort Go.Shelf
open Go.IntKind (wrap)
open List (flatMap getD length take replicate)
noncomputable section
set_option maxRecDepth 20000 in
def a9t : d4x Tryz.prog 53 94 3 where
 ty := Tryz.underlying3
 run := by
  intro bb b nn D0 R w hc hb hown hmax hbytes; refine (callsIn_wide (n := 5)).1 ?_; have hseq : SeqGives Fence.wide 2 Tryz.prog 94 #[.pointer (some ⟨bb, 0, none⟩)] encZ (fun ss => ss.Perm (intKeys D0)) (Maps.size D0) w :=
   AnyZI.keys_gives (ρ := Tryz.keysA_ren) { Tryz.keysA with } Fence.wide _ trivial rfl (by omega) bb b nn D0 _ hb hc hown
  have cS := AnyZI.sorted_in Tryz.sortedA Fence.wide 5 trivial trivial trivial trivial rfl (by omega) (Tryz.sortsA _) (enters_of Tryz.func45 (by kernel_rfl) rfl) 94 #[.pointer (some ⟨bb, 0, none⟩)] trivial (enters_of Tryz.func94 (by kernel_rfl) rfl) _ _ hmax hbytes w hseq; change CallsIn _ _ Tryz.prog 53 _ _ _ at cS; refine cS.mono ?_; rintro e w' ⟨v, ss, rfl, hS, hrow, hnil, hbl⟩; exact ⟨v, ss, rfl, hS, hrow, hbl⟩
end
end Go.Proofs.YtpbcabanpppfoaaGreat
namespace Go.Proofs.YtpbcabanpppfoaaGreat
open Go Go.Gx Go.Vz
open Go.IntKind (wrap)
open List (flatMap getD length take replicate)
set_option maxRecDepth 100000
noncomputable section
def H0 {α : Type} : α -> Nat -> Nat -> Option (Hint D) := fun _ _ _ => none
def K0 : n3 EF Tp noC noO := n3.nil EF
abbrev iv (a : Int) : SV D := .i .i64 a
def d8i {α : Type} {d : α} {k : Nat} {l : List α} (h : k < l.length) : l.drop k = l.getD k d :: l.drop (k + 1) := by
 rw [G9 h, B3, B2 h]; rfl
def c0c (n : Int) : Bool := bif decide (1 <= n) then decide (n <= 28) else false
def a9u : Con D := { ts := [.int], rt := [.bool], ret := fun a => (c0c a.1, ()) }
def e9h : a9u.ok Tp 97 := Con.prove EF Z0 K0 (H := H0) (n := 0) fun (a : HL D a9u.ts) (_ : a9u.holds a) =>
  br_ (fun h1 : decide (1 <= a.1) = true => (by simp only [a9u, c0c, h1, B5] : some (decide (a.1 <= 28), ()) = some (a9u.ret a)))
   (fun h1 : decide (1 <= a.1) = false => (by simp only [a9u, c0c, h1, B8] : some (false, ()) = some (a9u.ret a)))
def a1c : Int -> List Int -> Bool
 | _, [] => true
 | l, x :: r => bif decide (x <= l) || !c0c x then false else a1c x r
def a0j (c : a0c) : Int := bif decide (c.faults < 0) then 110 else bif decide (2 < c.faults) then 110 else bif ((c.nodes.length : Int) != wrap .i64 (wrap .i64 (3 * c.faults) + 1)) then 110 else bif a1c 0 c.nodes then 0 else 110
abbrev Γ1 := i5 noC 97 a9u
def K1 : n3 EF Tp Γ1 noO := K0.c e9h
def u9 : Con D := { ts := [.st 0], rt := [.int], ret := fun a => (a0j a.1, ()) }
def b8d (c : a0c) : LH D := ⟨Nat × Int, [27, 3], fun i => [.i .i64 (i.1 : Nat), .i .i64 i.2], fun i => a1c i.2 (c.nodes.drop i.1) = a1c 0 c.nodes, fun i => c.nodes.length - i.1, [], fun _ => [], [], fun _ => []⟩
def a9v : u9.ok Tp 59 := Con.prove (c := u9) EF Z0 K1 (H := fun a _ i => match i with | 5 => some (.inv (b8d a.1)) | _ => none) (n := 0) fun (a : HL D u9.ts) (_ : u9.holds a) =>
 br_ (fun h1 : decide (a.1.faults < 0) = true => (by simp only [u9, a0j, h1, B5] : some (110, ()) = some (u9.ret a)))
 (fun h1 : decide (a.1.faults < 0) = false => br_ (fun h2 : decide (2 < a.1.faults) = true => (by simp only [u9, a0j, h1, h2, B5, B8] : some (110, ()) = some (u9.ret a)))
 (fun h2 : decide (2 < a.1.faults) = false => brL fun hl : a.1.nodes.length <= d4 =>
 br_ (fun h3 : (((a.1.nodes.length : Nat) : Int) != wrap .i64 (wrap .i64 (3 * a.1.faults) + 1)) = true => (by simp only [u9, a0j, h1, h2, h3, B5, B8] : some (110, ()) = some (u9.ret a)))
 (fun h3 : (((a.1.nodes.length : Nat) : Int) != wrap .i64 (wrap .i64 (3 * a.1.faults) + 1)) = false => brL fun _ : a.1.nodes.length <= d4 =>
 And.intro (⟨(0, 0), rfl, rfl, rfl, rfl⟩ : Ent (b8d a.1) [iv 0, iv 0] [] [])
 fun (i : Nat × Int) (hI : (b8d a.1).inv i) =>
 br_ (fun h4 : decide ((i.1 : Int) < (a.1.nodes.length : Int)) = true =>
  have h4' : i.1 < a.1.nodes.length := by simpa using h4
  have hI : (bif decide (a.1.nodes.getD i.1 0 <= i.2) || !c0c (a.1.nodes.getD i.1 0) then false else a1c (a.1.nodes.getD i.1 0) (a.1.nodes.drop (i.1 + 1))) = a1c 0 a.1.nodes := by
   have hI : a1c i.2 (a.1.nodes.drop i.1) = a1c 0 a.1.nodes := hI
   rwa [d8i (d := 0) h4'] at hI
  bN (decide (0 <= (i.1 : Int)) && decide ((i.1 : Int) < (a.1.nodes.length : Int))) (by simpa using h4')
  (br_ (fun h5 : decide (a.1.nodes.getD i.1 0 <= i.2) = true => (by rw [h5] at hI; simp only [Bool.true_or, B5] at hI; simp only [u9, a0j, h1, h2, h3, <- hI, B8] : some (110, ()) = some (u9.ret a)))
  (fun h5 : decide (a.1.nodes.getD i.1 0 <= i.2) = false =>
  br_ (fun h6 : (!c0c (a.1.nodes.getD i.1 0)) = true => (by rw [h5, h6] at hI; simp only [Bool.false_or, B5] at hI; simp only [u9, a0j, h1, h2, h3, <- hI, B8] : some (110, ()) = some (u9.ret a)))
  (fun h6 : (!c0c (a.1.nodes.getD i.1 0)) = false =>
   (⟨(i.1 + 1, a.1.nodes.getD i.1 0), by rw [n4 h4' hl]; rfl, rfl, rfl, by rw [h5, h6] at hI; exact hI, by show _ - (i.1 + 1) < _ - i.1; omega⟩ : Rnd (b8d a.1) i [iv (wrap .i64 ((i.1 : Nat) + 1)), iv (a.1.nodes.getD i.1 0)] [] [])))))
 (fun h4 : decide ((i.1 : Int) < (a.1.nodes.length : Int)) = false => (by
   have hI : a1c i.2 (a.1.nodes.drop i.1) = a1c 0 a.1.nodes := hI; rw [I8 (by simpa using h4)] at hI; simp only [u9, a0j, h1, h2, h3, <- hI, a1c, B5, B8] : some (0, ()) = some (u9.ret a))))))
def f6c {i j : Nat} (h : i + j <= 2 * d4) : wrap .i64 (a6d .u64 (wrap .u64 (wrap .i64 ((i : Int) + (j : Int)))) 1) = (((i + j) / 2 : Nat) : Int) := by
 unfold d4 at h
 have e1 : wrap .i64 ((i : Int) + (j : Int)) = ((i + j : Nat) : Int) := by rw [<- Z7]; exact n9 (by omega)
 rw [e1, c4w (by omega)]
 have e2 : a6d .u64 ((i + j : Nat) : Int) 1 = (((i + j) / 2 : Nat) : Int) := by
  show ((i + j : Nat) : Int).fdiv (2 ^ 1) = _; rw [Int.fdiv_eq_ediv_of_nonneg _ (by omega)]; omega
 rw [e2]; exact n9 (by omega)
def a9w : Con D := { ts := [.int, .int], rt := [.bool], ret := fun a => (decide (a.1 < a.2.1), ()) }
def e9i : a9w.ok Tp 118 := Con.prove (c := a9w) EF Z0 K0 (H := H0) (n := 2) fun (a : HL D a9w.ts) (_ : a9w.holds a) =>
  bq (a.1 != a.1) (fun h1 => bq (!a.2.1 != a.2.1) (fun _ => (by simp at h1 : some (true, ()) = some (a9w.ret a))) (fun _ => (rfl : some (decide (a.1 < a.2.1), ()) = some (a9w.ret a)))) (fun _ => (rfl : some (decide (a.1 < a.2.1), ()) = some (a9w.ret a)))
def b5p (xs : List Int) (t : Int) : Nat -> Nat -> Nat -> Nat
 | 0, i, _ => i
 | f + 1, i, j => bif decide (i < j) then (bif decide (xs.getD ((i + j) / 2) 0 < t) then b5p xs t f ((i + j) / 2 + 1) j else b5p xs t f i ((i + j) / 2)) else i
def bsI (xs : List Int) (t : Int) : Nat := b5p xs t xs.length 0 xs.length
def bsF (xs : List Int) (t : Int) : Bool := decide (bsI xs t < xs.length) && (xs.getD (bsI xs t) 0 == t)
def d8j (xs : List Int) (t : Int) (f i j : Nat) (h : ¬ i < j) : b5p xs t f i j = i := by
 cases f with
 | zero => rfl
 | succ f => simp [b5p, h]
abbrev Γl := i5 Γ1 118 a9w
def Kl : n3 EF Tp Γl noO := K1.c e9i
def b7m : Con D := { ts := [.sl .int, .int], rt := [.int, .bool], ret := fun a => ((bsI a.1 a.2.1 : Nat), bsF a.1 a.2.1, ()) }
def e3g (xs : List Int) (t : Int) : LH D := ⟨Nat × Nat × Nat, [7, 8], fun i => [.i .i64 (i.2.1 : Nat), .i .i64 (i.2.2 : Nat)], fun i => i.2.1 <= i.2.2 /\ i.2.2 <= xs.length /\ i.2.2 <= i.2.1 + i.1 /\ b5p xs t i.1 i.2.1 i.2.2 = bsI xs t, fun i => i.1, [], fun _ => [], [], fun _ => []⟩
def g3c : b7m.ok Tp 82 := Con.prove (c := b7m) EF Z0 Kl (H := fun a _ i => match i with | 3 => some (.inv (e3g a.1 a.2.1)) | _ => none) (n := 4) fun (a : HL D b7m.ts) (_ : b7m.holds a) =>
  brL fun hl : length a.1 <= d4 =>
  And.intro (⟨(a.1.length, 0, a.1.length), rfl, rfl, rfl, ⟨Nat.zero_le _, Nat.le_refl _, by simp, rfl⟩⟩ : Ent (e3g a.1 a.2.1) [iv 0, iv (a.1.length : Nat)] [] [])
  fun (i : Nat × Nat × Nat) (hI : (e3g a.1 a.2.1).inv i) =>
  br_ (fun h3 : decide ((i.2.1 : Int) < (i.2.2 : Int)) = true =>
    have h3' : i.2.1 < i.2.2 := by simpa using h3
    have hm := f6c (i := i.2.1) (j := i.2.2) (by have := hI.1; have := hI.2.1; omega)
    have hlt : (i.2.1 + i.2.2) / 2 < a.1.length := by have := hI.2.1; omega
    have hst : ∃ f, i.1 = f + 1 /\ (bif decide (a.1.getD ((i.2.1 + i.2.2) / 2) 0 < a.2.1) then b5p a.1 a.2.1 f ((i.2.1 + i.2.2) / 2 + 1) i.2.2 else b5p a.1 a.2.1 f i.2.1 ((i.2.1 + i.2.2) / 2)) = bsI a.1 a.2.1 := by
      obtain ⟨k1, k2, k3, k4⟩ := hI; cases hf : i.1 with
      | zero => omega
      | succ f => rw [hf] at k4; exact ⟨f, rfl, by simpa [b5p, h3'] using k4⟩
    (bN (iX (wrap .i64 (a6d .u64 (wrap .u64 (wrap .i64 ((i.2.1 : Int) + (i.2.2 : Int)))) 1)) (a.1.length : Int)) (by rw [hm]; simp; omega) (
    br_ (fun h4 : decide (a.1.getD (Int.toNat (wrap .i64 (a6d .u64 (wrap .u64 (wrap .i64 ((i.2.1 : Int) + (i.2.2 : Int)))) 1))) 0 < a.2.1) = true =>
      (by
        obtain ⟨f, hf, hb⟩ := hst; rw [hm] at h4; rw [show a.1.getD ((i.2.1 + i.2.2) / 2) 0 = a.1.getD (Int.toNat (((i.2.1 + i.2.2) / 2 : Nat) : Int)) 0 from rfl, h4] at hb; exact ⟨(f, (i.2.1 + i.2.2) / 2 + 1, i.2.2), by rw [hm, n4 hlt hl]; rfl, rfl, rfl, ⟨by show (i.2.1 + i.2.2) / 2 + 1 <= i.2.2; omega, hI.2.1, by show i.2.2 <= (i.2.1 + i.2.2) / 2 + 1 + f; have : i.2.2 <= i.2.1 + i.1 := hI.2.2.1; omega, hb⟩, by show f < i.1; omega⟩ : Rnd (e3g a.1 a.2.1) i [iv (wrap .i64 (wrap .i64 (a6d .u64 (wrap .u64 (wrap .i64 ((i.2.1 : Int) + (i.2.2 : Int)))) 1) + 1)), iv (i.2.2 : Nat)] [] []))
    (fun h4 : decide (a.1.getD (Int.toNat (wrap .i64 (a6d .u64 (wrap .u64 (wrap .i64 ((i.2.1 : Int) + (i.2.2 : Int)))) 1))) 0 < a.2.1) = false =>
      (by
        obtain ⟨f, hf, hb⟩ := hst; rw [hm] at h4; rw [show a.1.getD ((i.2.1 + i.2.2) / 2) 0 = a.1.getD (Int.toNat (((i.2.1 + i.2.2) / 2 : Nat) : Int)) 0 from rfl, h4] at hb; exact ⟨(f, i.2.1, (i.2.1 + i.2.2) / 2), by rw [hm]; rfl, rfl, rfl, ⟨by show i.2.1 <= (i.2.1 + i.2.2) / 2; omega, by show (i.2.1 + i.2.2) / 2 <= a.1.length; omega, by show (i.2.1 + i.2.2) / 2 <= i.2.1 + f; have : i.2.2 <= i.2.1 + i.1 := hI.2.2.1; omega, hb⟩, by show f < i.1; omega⟩ : Rnd (e3g a.1 a.2.1) i [iv (i.2.1 : Nat), iv (wrap .i64 (a6d .u64 (wrap .u64 (wrap .i64 ((i.2.1 : Int) + (i.2.2 : Int)))) 1))] [] [])))))
  (fun h3 : decide ((i.2.1 : Int) < (i.2.2 : Int)) = false =>
    have hb : i.2.1 = bsI a.1 a.2.1 := by rw [<- hI.2.2.2]; exact (d8j _ _ _ _ _ (by simpa using h3)).symm
    br_ (fun h4 : decide ((i.2.1 : Int) < (a.1.length : Int)) = true =>
      have h4' : i.2.1 < a.1.length := by simpa using h4
      bN (iX (i.2.1 : Int) (a.1.length : Int)) (by simp; omega) (
      br_ (fun h5 : (a.1.getD (Int.toNat (i.2.1 : Int)) 0 == a.2.1) = true =>
        (by
          have h5 : (a.1.getD i.2.1 0 == a.2.1) = true := h5; rw [hb] at h5 h4'; simp only [b7m, bsF, hb, h5, h4', decide_true, Bool.true_and] : some ((i.2.1 : Int), true, ()) = some (b7m.ret a)))
      (fun h5 : (a.1.getD (Int.toNat (i.2.1 : Int)) 0 == a.2.1) = false =>
        bN (iX (i.2.1 : Int) (a.1.length : Int)) (by simp; omega) (
        bq (a.1.getD (Int.toNat (i.2.1 : Int)) 0 != a.1.getD (Int.toNat (i.2.1 : Int)) 0) (fun h6 => (by simp at h6 : some ((i.2.1 : Int), a.2.1 != a.2.1, ()) = some (b7m.ret a))) fun _ =>
        (by
          have h5 : (a.1.getD i.2.1 0 == a.2.1) = false := h5; rw [hb] at h5; simp only [b7m, bsF, hb, h5, Bool.and_false] : some ((i.2.1 : Int), false, ()) = some (b7m.ret a))))))
    (fun h4 : decide ((i.2.1 : Int) < (a.1.length : Int)) = false =>
      (by
        have h4' : ¬ i.2.1 < a.1.length := by simpa using h4
        rw [hb] at h4'; simp only [b7m, bsF, hb, h4', decide_false, Bool.false_and] : some ((i.2.1 : Int), false, ()) = some (b7m.ret a))))
abbrev Γ2 := i5 (i5 Γl 59 u9) 82 b7m
def K2 : n3 EF Tp Γ2 noO := (Kl.c a9v).c g3c
end
end Go.Proofs.YtpbcabanpppfoaaGreat
