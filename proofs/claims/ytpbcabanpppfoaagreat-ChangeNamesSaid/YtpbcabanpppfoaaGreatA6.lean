/- A part of the proof. No condition. -/
import Derived.Test.YtpbcabanpppfoaaGreatA5
import Derived.Scope
import Derived.Control
set_option linter.all false
namespace Go.Vz
open Go Go.Gx
variable {E : DE} {P : Program}
def f2l (s : St E) : OwP -> Option (SV E)
 | .sl t => s.sl.get t
 | .bx id i => match o6 s.hp id with | some (_, .box _ c) => c[i]? | _ => none
def f5j (s : St E) (p : OwP) (t : Ty) (e : Nat) : Option (St E) := match f2l s p with
 | some (.own _) => some s
 | some .nils => match p with
  | .sl k => bif Nat.blt k 4000 then some ((s.new (.arr t e [])).put (some k) (some (.own s.n))) else none
  | .bx id i => match o6 (s.new (.arr t e [])).hp id with
   | some (_, .box T c) => match c[i]? with
    | some .nils => some ((s.new (.arr t e [])).turn id (.box T (c.set i (.own s.n))))
    | _ => none
   | _ => none
 | _ => none
def nrm (s : St E) : List (OwP × Ty × Nat) -> Option (St E)
 | [] => some s
 | (p, t, e) :: r => match f5j s p t e with | some s' => nrm s' r | none => none
def e1u (s : St E) : List (OwP × Ty × Nat) -> Option (List Nat)
 | [] => some []
 | (p, _, _) :: r => match f2l s p, e1u s r with | some (.own q), some l => some (q :: l) | _, _ => none
def a4m (s : St E) : List Nat -> Option (List (Nat × Nat × HB E))
 | [] => some []
 | q :: r => match o6 s.hp q, a4m s r with | some (k, x), some l => some ((q, k, x) :: l) | _, _ => none
def c3e (n0 : Nat) (s : St E) (qs : List Nat) : List (Nat × Nat × HB E) -> Option (List (HB E))
 | [] => some []
 | (_, _, x) :: r => match c5p n0 s qs x, c3e n0 s qs r with | some y, some l => some (y :: l) | _, _ => none
def hld (s : St E) (qs : List Nat) : List Nat -> Option (List (SV E))
 | [] => some []
 | k :: r => match s.sl.get k with
  | some y => match loc qs (res s.bs (rsv s.hp y)), hld s qs r with | some z, some l => some (z :: l) | _, _ => none
  | none => none
structure LD (E : DE) where
  qs : List Nat
  oe : List (Nat × Nat × HB E)
  he : List (Nat × Nat × HB E)
  vs : List (SV E)
  os : List (HB E)
  bs : List (HB E)
def c8u (n0 : Nat) (s : St E) (h : LH E) : Option (LD E) := match e1u s h.ow with
 | some qs => match a4m s qs, a4m s h.hk, hld s qs h.ks with
  | some oe, some he, some vs => match c3e n0 s qs oe, c3e n0 s qs he with
   | some os, some bs => some ⟨qs, oe, he, vs, os, bs⟩
   | _, _ => none
  | _, _, _ => none
 | none => none
def inN (l : List Nat) (x : Nat) : Bool := l.any (Nat.beq x)
def frm (s : St E) (qs hk : List Nat) : List (Nat × Nat × HB E) := s.hp.filter fun x => !(inN qs x.1) && !(inN hk x.1)
def c8v (b : Nat) : List (HB E) -> List (Nat × Nat × HB E)
 | [] => []
 | x :: r => (b, b, x) :: c8v (b + 1) r
def hkE (b : Nat) : List Nat -> List (HB E) -> List (Nat × Nat × HB E)
 | k :: ks, x :: r => (k, b, x) :: hkE (b + 1) ks r
 | _, _ => []
def St.clear (s : St E) (l : List Nat) : St E := { s with sl := l.foldl (fun p t => p.put 12 t none) s.sl }
def St.puts (s : St E) (l : List (Nat × SV E)) : St E := { s with sl := l.foldl (fun p x => p.put 12 x.1 (some x.2)) s.sl }
def d8e : List Nat -> List (SV E) -> List (Nat × SV E)
 | k :: r, x :: l => (k, x) :: d8e r l
 | _, _ => []
def a8u (l : List Nat) : Bool := l.all fun t => Nat.blt t 4000
def head (s : St E) (qs : List Nat) (h : LH E) (wr : List Nat) (i : h.ι) : St E :=
 { ((s.clear wr).puts (d8e h.ks ((h.sl i).map (glo s.n)))) with
  hp := c8v s.n ((h.ox i).map (b9j s.n)) ++ (hkE (s.n + qs.length) h.hk ((h.hc i).map (b9j s.n)) ++ frm s qs h.hk), n := s.n + (qs.length + h.hk.length) }
def b7k : List Nat -> Bool
 | [] => true
 | x :: r => !(inN r x) && b7k r
def b1v (f : List (Nat × Nat × HB E)) (s : St E) (qs hk : List Nat) : Bool :=
 f.all (fun x => s.hp.any fun y => Nat.beq x.1 y.1 && Nat.beq x.2.1 y.2.1) && b7k (qs ++ (hk ++ f.map (·.1)))
def e8o {l : List Nat} {x : Nat} : inN l x = true ↔ x ∈ l := by
 unfold inN
 constructor
 ·intro h; obtain ⟨y, hy, h2⟩ := V9.1 h; have := A8 h2; rw [this]; exact hy
 ·intro h; exact V9.2 ⟨x, h, T9 x⟩
def b3o : ∀ {l : List Nat}, b7k l = true -> l.Nodup
 | [], _ => U0
 | x :: r, h => by
  simp only [b7k, A7, K4] at h; rw [L5]; exact ⟨fun hm => (by rw [e8o.2 hm] at h; cases h.1), b3o h.2⟩
def b9k {h : List (Nat × Nat × HB E)} {id k : Nat} {x : HB E} (hg : o6 h id = some (k, x)) : (id, k, x) ∈ h := by
 induction h with
 | nil => cases hg
 | cons y r ih =>
  obtain ⟨k', j, z⟩ := y; unfold o6 at hg; cases hb : Nat.beq k' id with
  | true =>
   rw [hb] at hg; simp only [B5, A3, I4] at hg; obtain ⟨rfl, rfl⟩ := hg; rw [A8 hb]; exact E7
  | false => rw [hb] at hg; exact D7 _ (ih hg)
def a2h {s : St E} : ∀ {ids : List Nat} {l : List (Nat × Nat × HB E)}, a4m s ids = some l -> l.map (·.1) = ids /\ ∀ x ∈ l, x ∈ s.hp
 | [], l, h => by simp only [a4m, A3] at h; subst h; exact ⟨rfl, fun x hx => by cases hx⟩
 | q :: r, l, h => by
  simp only [a4m] at h; split at h
  ·rename_i k x l' hg hr; cases h; obtain ⟨h1, h2⟩ := a2h hr; refine ⟨by simp [h1], fun y hy => ?_⟩; rcases D2.1 hy with rfl | hy
   ·exact b9k hg
   ·exact h2 y hy
  ·cases h
def b9l {n0 : Nat} {s : St E} {qs : List Nat} : ∀ {l : List (Nat × Nat × HB E)} {os : List (HB E)}, c3e n0 s qs l = some os -> os.length = l.length /\ ∀ (j : Nat) (x : Nat × Nat × HB E), l[j]? = some x -> ∃ y, os[j]? = some y /\ c5p n0 s qs x.2.2 = some y
 | [], os, h => by simp only [c3e, A3] at h; subst h; exact ⟨rfl, fun j x hx => by simp at hx⟩
 | (a, b, x) :: r, os, h => by
  simp only [c3e] at h; split at h
  ·rename_i y l hy hr; cases h; obtain ⟨h1, h2⟩ := b9l hr; refine ⟨by simp [h1], fun j z hz => ?_⟩; cases j with
   | zero => simp at hz; subst hz; exact ⟨y, rfl, hy⟩
   | succ j => simpa using h2 j z (by simpa using hz)
  ·cases h
def b9m {s : St E} : ∀ {ow : List (OwP × Ty × Nat)} {qs : List Nat}, e1u s ow = some qs -> qs.length = ow.length
 | [], qs, h => by simp only [e1u, A3] at h; subst h; rfl
 | (p, _, _) :: r, qs, h => by
  simp only [e1u] at h; split at h
  ·rename_i hr; cases h; simp [b9m hr]
  ·cases h
def e1v {s : St E} {qs : List Nat} : ∀ {ks : List Nat} {l : List (SV E)}, hld s qs ks = some l -> ∀ {t : Nat} {x : SV E} {b : Nat}, (t, x) ∈ d8e ks (l.map (glo b)) -> ∃ y z, s.sl.get t = some y /\ loc qs (res s.bs (rsv s.hp y)) = some z /\ x = glo b z
 | [], _, _, t, x, b, hx => by cases hx
 | k :: r, l, h, t, x, b, hx => by
  simp only [hld] at h; split at h
  ·rename_i y hy; split at h
   ·rename_i z l' hz hr; cases h; simp only [C9, d8e, D2, I4] at hx; rcases hx with ⟨rfl, rfl⟩ | hx
    ·exact ⟨y, z, hy, hz, rfl⟩
    ·exact e1v hr hx
   ·cases h
  ·cases h
def d4s : ∀ {ks : List Nat} {l : List (SV E)} {t : Nat} {x : SV E}, (t, x) ∈ d8e ks l -> t ∈ ks
 | [], _, _, _, h => by cases h
 | _ :: _, [], _, _, h => by cases h
 | k :: r, z :: l, t, x, h => by
  simp only [d8e, D2, I4] at h; rcases h with ⟨rfl, _⟩ | h
  ·exact E7
  ·exact D7 _ (d4s h)
def c3f : ∀ (l : List Nat) (p : PT (SV E)) (t : Nat) (x : SV E), a8u l = true -> (l.foldl (fun p t => p.put 12 t none) p).get t = some x -> t ∉ l /\ p.get t = some x
 | [], p, t, x, _, h => ⟨H4, h⟩
 | a :: l, p, t, x, hs, h => by
  simp only [a8u, N6, A7] at hs; have ha : a < 4000 := C2 hs.1; obtain ⟨h1, h2⟩ := c3f l _ t x hs.2 h; rw [PT.get_put _ _ _ _ _ (by omega)] at h2; by_cases hta : t = a
  ·rw [F8 hta] at h2; cases h2
  ·rw [F7 hta] at h2; exact ⟨fun hm => (D2.1 hm).elim hta h1, h2⟩
def c8w : ∀ (l : List (Nat × SV E)) (p : PT (SV E)) (t : Nat) (x : SV E), (∀ y ∈ l, y.1 < 4000) -> (l.foldl (fun p x => p.put 12 x.1 (some x.2)) p).get t = some x -> (t, x) ∈ l ∨ p.get t = some x
 | [], p, t, x, _, h => .inr h
 | a :: l, p, t, x, hs, h => by
  have ha := hs a E7; rcases c8w l _ t x (fun y hy => hs y (D7 _ hy)) h with h1 | h1
  ·exact .inl (D7 _ h1)
  ·rw [PT.get_put _ _ _ _ _ (by omega)] at h1; by_cases hta : t = a.1
   ·rw [F8 hta] at h1; simp only [A3] at h1; exact .inl (by rw [hta, <- h1]; exact E7)
   ·rw [F7 hta] at h1; exact .inr h1
def Mn.hd (m m' : Mn E) (nu : List Value) (cs : List (HB E)) (vr : List Nat) : Mn E :=
  { G := m'.G, ν := fun i => if i < m.n then m'.ν i else nu.getD (i - m.n) undef, n := m.n + cs.length, bs := m.bs
    C := fun i => if i < m.n then m'.C i else cs.getD (i - m.n) (.box 0 [])
    R := fun i => if i < m.n then m'.R i else m'.R (vr.getD (i - m.n) 0)
    O := fun i => if i < m.n then m'.O i else m'.O (vr.getD (i - m.n) 0) }
section
variable {m m' : Mn E} {nu : List Value} {cs : List (HB E)} {vr : List Nat}
def Mn.hd_up (u : Up m m') : Up m (m.hd m' nu cs vr) :=
  ⟨u.g, R7 _ _, fun i hi => (F8 hi).trans (u.ν i hi), B9 _, fun _ _ => rfl, fun i hi => (F8 hi).trans (u.c i hi), fun i hi => (F8 hi).trans (u.r i hi), fun i hi => (F8 hi).trans (u.o i hi)⟩
def g6x {j : Nat} {v : Value} (h : nu[j]? = some v) : (m.hd m' nu cs vr).ν (m.n + j) = v := by
 show (if m.n + j < m.n then _ else nu.getD (m.n + j - m.n) undef) = v
 rw [F7 (by omega), I2, B3, h]; rfl
def g2k {j : Nat} {x : HB E} (h : cs[j]? = some x) : (m.hd m' nu cs vr).C (m.n + j) = x := by
  show (if m.n + j < m.n then _ else cs.getD (m.n + j - m.n) _) = x; rw [F7 (by omega), I2, B3, h]; rfl
def g2l {j k : Nat} (h : vr[j]? = some k) : (m.hd m' nu cs vr).R (m.n + j) = m'.R k := by
  show (if m.n + j < m.n then _ else m'.R (vr.getD (m.n + j - m.n) 0)) = _; rw [F7 (by omega), I2, B3, h]; rfl
def g2m {j k : Nat} (h : vr[j]? = some k) : (m.hd m' nu cs vr).O (m.n + j) = m'.O k := by
  show (if m.n + j < m.n then _ else m'.O (vr.getD (m.n + j - m.n) 0)) = _; rw [F7 (by omega), I2, B3, h]; rfl
end
def b5k {β : Type} {f g : Nat -> List β} : ∀ {oe : List (Nat × Nat × HB E)} {xs : List (HB E)} {b : Nat}, xs.length = oe.length -> (∀ j x, oe[j]? = some x -> f (b + j) = g x.2.1) -> (c8v b xs).flatMap (fun x => f x.2.1) = oe.flatMap (fun x => g x.2.1)
 | [], [], _, _, _ => rfl
 | [], _ :: _, _, h, _ => by simp at h
 | _ :: _, [], _, h, _ => by simp at h
 | o :: oe, x :: xs, b, h, hf => by
  simp only [c8v, L7]; rw [b5k (b := b + 1) (oe := oe) (by simpa using h) fun j y hy => by rw [I6, Q6 1 j]; exact hf (j + 1) y (by simpa using hy), show f b = g o.2.1 from hf 0 o rfl]
def a5r {β : Type} {f g : Nat -> List β} : ∀ {he : List (Nat × Nat × HB E)} {ks : List Nat} {xs : List (HB E)} {b : Nat}, xs.length = he.length -> ks.length = he.length -> (∀ j x, he[j]? = some x -> f (b + j) = g x.2.1) -> (hkE b ks xs).flatMap (fun x => f x.2.1) = he.flatMap (fun x => g x.2.1)
 | [], [], [], _, _, _, _ => rfl
 | [], _ :: _, _, _, _, h, _ => by simp at h
 | [], _, _ :: _, _, h, _, _ => by simp at h
 | _ :: _, [], _, _, _, h, _ => by simp at h
 | _ :: _, _, [], _, h, _, _ => by simp at h
 | o :: he, k :: ks, x :: xs, b, h, h', hf => by
  simp only [hkE, L7]; rw [a5r (b := b + 1) (he := he) (by simpa using h) (by simpa using h') fun j y hy => by rw [I6, Q6 1 j]; exact hf (j + 1) y (by simpa using hy), show f b = g o.2.1 from hf 0 o rfl]
def c8x : ∀ {xs : List (HB E)} {b : Nat} {x : Nat × Nat × HB E}, x ∈ c8v b xs -> ∃ j y, xs[j]? = some y /\ x = (b + j, b + j, y)
 | [], _, _, h => by cases h
 | y :: r, b, x, h => by
  rcases D2.1 h with rfl | h
  ·exact ⟨0, y, rfl, rfl⟩
  ·obtain ⟨j, z, h1, h2⟩ := c8x h; exact ⟨j + 1, z, by simpa using h1, by rw [h2, I6, Q6 1 j]⟩
def b8a : ∀ {ks : List Nat} {xs : List (HB E)} {b : Nat} {x : Nat × Nat × HB E}, x ∈ hkE b ks xs -> ∃ j id y, ks[j]? = some id /\ xs[j]? = some y /\ x = (id, b + j, y)
 | [], _, _, _, h => by cases h
 | _ :: _, [], _, _, h => by cases h
 | k :: ks, y :: r, b, x, h => by
  rcases D2.1 h with rfl | h
  ·exact ⟨0, k, y, rfl, rfl, rfl⟩
  ·obtain ⟨j, id, z, h0, h1, h2⟩ := b8a h; exact ⟨j + 1, id, z, by simpa using h0, by simpa using h1, by rw [h2, I6, Q6 1 j]⟩
section
variable {w0 w w' : World} {G0 : Gh} {s0 s1 : St E} {m m' : Mn E} {e e' : Env}
def List.flatMap_congr_ {α β : Type} {f g : α -> List β} : ∀ {l : List α}, (∀ x ∈ l, f x = g x) -> l.flatMap f = l.flatMap g
 | [], _ => rfl
 | x :: r, h => by rw [L7, L7, h x E7, List.flatMap_congr_ fun y hy => h y (D7 _ hy)]
def Cx.gcast {G G' : Gh} {M : Mu} (h : Cx w0 G0 G w M) (e : G' = G) : Cx w0 G0 G' w M := e ▸ h
def Bxs.gcast {G G' : Gh} {M : Mu} {n : Nat} {bl : List Bx} (h : Bxs G w n bl M) (e : G' = G) : Bxs G' w n bl M := e ▸ h
def HB1.loc {n0 b : Nat} (hn0 : n0 <= b) {qs : List Nat} {m2 : Mn E} (n : Nm m2 m' b qs) (r : RelH w0 G0 s1 m' w') {x y : HB E} {v : Value} {bs : List Bx} {os : List (Nat × Obj)} (h : c5p n0 s1 qs x = some y) (hx : HB1 m' x v bs os) : HB1 m2 (b9j b y) v bs os := by
 obtain ⟨_, _, _, _, hH⟩ := r.bx
 cases x with
 | box T c =>
  simp only [c5p] at h; split at h
  ·rename_i k hk; cases h; obtain ⟨b', cs, h1, h2, h3, h4⟩ := hx; have h5 := (RC.rsv hH h4).res; rw [O1, r.bs] at h5; exact ⟨b', cs, h1, h2, h3, RC.locN hn0 n hk h5⟩
  ·cases h
 | arr t el xs =>
  simp only [c5p, A3] at h; subst h; obtain ⟨o, h1, h2, h3, h4⟩ := hx; exact ⟨o, h1, h2, h3.mono n.g, h4⟩
 | map k v xs =>
  simp only [c5p, A3] at h; subst h; obtain ⟨b', o, h1, h2, h3, h4⟩ := hx; exact ⟨b', o, h1, h2, h3, h4.mono n.g⟩
 | itr mid ver kt k left =>
  simp only [c5p] at h; cases hc : Nat.blt mid n0 && Nat.blt ver n0 with
  | false => rw [hc] at h; cases h
  | true =>
   rw [hc] at h; simp only [B5, A3] at h; subst h; rw [A7] at hc; have c1 : mid < b := C3 (C2 hc.1) hn0; have c2 : ver < b := C3 (C2 hc.2) hn0; obtain ⟨r', it, b', o, h1, h2, h3, h4, h5, h6, h7, h8⟩ := hx; exact ⟨r', it, b', o, h1, h2, h3, C3 c1 n.l.1, C3 c2 n.l.1, (n.l.2 _ c1).1.trans h6, (n.l.2 _ c2).2.trans h7, h8⟩
 | cur mid ver kt k x left =>
  simp only [c5p] at h; cases hc : Nat.blt mid n0 && Nat.blt ver n0 with
  | false => rw [hc] at h; cases h
  | true =>
   rw [hc] at h; simp only [B5, A3] at h; subst h; rw [A7] at hc; have c1 : mid < b := C3 (C2 hc.1) hn0; have c2 : ver < b := C3 (C2 hc.2) hn0; obtain ⟨r', it, b', o, h1, h2, h3, h4, h5, h6, h7, h8, _⟩ := hx; exact ⟨r', it, b', o, h1, h2, h3, C3 c1 n.l.1, C3 c2 n.l.1, (n.l.2 _ c1).1.trans h6, (n.l.2 _ c2).2.trans h7, h8⟩
 | _ => simp [c5p] at h
def c5q {h : LH E} {qs0 : List Nat} {d : LD E} {wr : List Nat} {i : h.ι} (r0 : Rel w0 G0 s0 m e w) (u : Up m m') (r1 : Rel w0 G0 s1 m' e' w') (he : ∀ t, t ∉ wr -> e' t = e t) (hd : c8u s0.n s1 h = some d) (hq0 : qs0.length = h.ow.length)
    (hf : b1v (frm s0 qs0 h.hk) s1 d.qs h.hk = true) (hv : d.vs = h.sl i) (ho : d.os = h.ox i) (hb : d.bs = h.hc i) (hs : a8u wr = true) (hks : a8u h.ks = true) (hh0 : ∀ id ∈ h.hk, id < m.n) :
    ∃ m2 : Mn E, m2.G = m'.G /\ Up m m2 /\ Rel w0 G0 (head s0 qs0 h wr i) m2 e' w' := by
  unfold c8u at hd; split at hd
  · rename_i qs hqs; split at hd
    · rename_i oe hE vs hoe hhe hvs; split at hd
      · rename_i os bs hos hbs; simp only [A3] at hd; subst hd; simp only at hv ho hb hf; subst hv ho hb; have hql := b9m hqs; obtain ⟨oe1, oe2⟩ := a2h hoe; obtain ⟨he1, he2⟩ := a2h hhe; obtain ⟨os1, os2⟩ := b9l hos; obtain ⟨bs1, bs2⟩ := b9l hbs; have loe : oe.length = qs.length := by rw [<- oe1, C5]
        have lhe : hE.length = h.hk.length := by rw [<- he1, C5]
        obtain ⟨bl1, L1, hC1, hB1, hH1⟩ := r1.bx; obtain ⟨eb, eL, hE1⟩ := HR.iff.1 hH1; obtain ⟨_, _, _, _, hH0⟩ := r0.bx; obtain ⟨_, _, hE0⟩ := HR.iff.1 hH0; have hn := r0.n; unfold b1v at hf; rw [A7] at hf; have hfr : ∀ x ∈ frm s0 qs0 h.hk, x ∈ s1.hp := fun x hx => by
          have h1 := J6.1 hf.1 x hx; rw [V9] at h1; obtain ⟨y, hy, h2⟩ := h1; rw [A7] at h2; have e1 := A8 h2.1; have e2 := A8 h2.2; have k0 := hE0 x (H9.1 hx).1; have k1 := hE1 y hy; have e3 : x.2.2 = y.2.2 := by
            have := u.c _ k0.2.1; rw [k0.2.2.1, e2, k1.2.2.1] at this; exact this.symm
          have : x = y := by
            obtain ⟨a, b, c⟩ := x; obtain ⟨a', b', c'⟩ := y; simp only at e1 e2 e3; rw [e1, e2, e3]
          rw [this]; exact hy
        obtain ⟨rest, hperm⟩ := a7o (f := fun x : Nat × Nat × HB E => x.1) (a := oe ++ (hE ++ frm s0 qs0 h.hk)) (b := s1.hp)
          (by rw [F5, F5, oe1, he1]; exact b3o hf.2)
          (fun x hx => by
            rcases D4.1 hx with hx | hx
            · exact oe2 x hx
            · rcases D4.1 hx with hx | hx
              · exact he2 x hx
              · exact hfr x hx)
        have p1 := a1p (fun x => m'.R x.2.1) hperm; have p2 := a1p (fun x => m'.O x.2.1) hperm; rw [E3] at p1 p2; obtain ⟨hC2, hB2⟩ := a4z hC1 hB1 (by rw [eb]; exact p1) (by rw [eL]; exact p2); refine ⟨m.hd m' (qs.map m'.ν) ((h.ox i ++ h.hc i).map (b9j m.n)) (oe.map (·.2.1) ++ hE.map (·.2.1)), rfl, Mn.hd_up u, ?_⟩; generalize hm2 : m.hd m' (qs.map m'.ν) ((h.ox i ++ h.hc i).map (b9j m.n)) (oe.map (·.2.1) ++ hE.map (·.2.1)) = m2; have u2 : Up m m2 := by rw [<- hm2]; exact Mn.hd_up u
        have hnm : Nm m2 m' m.n qs := ⟨fun b o hbo => by rw [<- hm2]; exact hbo, fun j q hj => by
          have hlt := (C8.1 hj).1; rw [<- hm2]; refine ⟨?_, g6x (by simp [hj])⟩; show m.n + j < m.n + ((h.ox i ++ h.hc i).map (b9j m.n)).length; simp only [C5, B7]; omega, by
          rw [<- hm2]; exact ⟨R7 _ _, fun i hi => ⟨F8 hi, F8 hi⟩⟩⟩
        have hRo : ∀ j x, oe[j]? = some x -> m2.R (m.n + j) = m'.R x.2.1 /\ m2.O (m.n + j) = m'.O x.2.1 := fun j x hj => by
          have hlt := (C8.1 hj).1; have : (oe.map (·.2.1) ++ hE.map (·.2.1))[j]? = some x.2.1 := by rw [F4 (by simpa using hlt)]; simp [hj]
          rw [<- hm2]; exact ⟨g2l this, g2m this⟩
        have hRh : ∀ j x, hE[j]? = some x -> m2.R (m.n + qs.length + j) = m'.R x.2.1 /\ m2.O (m.n + qs.length + j) = m'.O x.2.1 := fun j x hj => by
          have : (oe.map (·.2.1) ++ hE.map (·.2.1))[qs.length + j]? = some x.2.1 := by rw [G7 (by simp [loe])]; simp [hj, loe]
          rw [<- hm2, I6]; exact ⟨g2l this, g2m this⟩
        have hCo : ∀ j y, (h.ox i)[j]? = some y -> m2.C (m.n + j) = b9j m.n y := fun j y hj => by
          have hlt := (C8.1 hj).1; rw [<- hm2]; refine g2k ?_; rw [F5, F4 (by simpa using hlt)]; simp [hj]
        have hCh : ∀ j y, (h.hc i)[j]? = some y -> m2.C (m.n + qs.length + j) = b9j m.n y := fun j y hj => by
          rw [<- hm2, I6]; refine g2k ?_; rw [F5, G7 (by simp [os1, loe])]; simp [hj, os1, loe]
        have hm2n : m2.n = m.n + (qs.length + h.hk.length) := by
          rw [<- hm2]; show m.n + ((h.ox i ++ h.hc i).map (b9j m.n)).length = _; simp only [C5, B7, os1, bs1, loe, lhe]
        refine ⟨⟨⟨_, _, Cx.gcast hC2 (by rw [<- hm2]; rfl), Bxs.gcast hB2 (by rw [<- hm2]; rfl), HR.iff.2 ⟨?_, ?_, fun x hx => ?_⟩⟩, ?_, ?_⟩, fun t x ht => ?_⟩
        · show _ = List.flatMap _ (c8v s0.n _ ++ (hkE _ _ _ ++ frm s0 qs0 h.hk)); rw [E3, E3, E3, E3, <- hn, hq0, <- hql]
          congr 1
          · exact (b5k (by simp [os1]) fun j x hj => (hRo j x hj).1).symm
          · congr 1
            · exact (a5r (by simp [bs1]) (by simp [lhe]) fun j x hj => (hRh j x hj).1).symm
            · exact List.flatMap_congr_ fun x hx => by rw [u2.r _ (hE0 x (H9.1 hx).1).2.1, u.r _ (hE0 x (H9.1 hx).1).2.1]
        · show _ = List.flatMap _ (c8v s0.n _ ++ (hkE _ _ _ ++ frm s0 qs0 h.hk)); rw [E3, E3, E3, E3, <- hn, hq0, <- hql]
          congr 1
          · exact (b5k (by simp [os1]) fun j x hj => (hRo j x hj).2).symm
          · congr 1
            · exact (a5r (by simp [bs1]) (by simp [lhe]) fun j x hj => (hRh j x hj).2).symm
            · exact List.flatMap_congr_ fun x hx => by rw [u2.o _ (hE0 x (H9.1 hx).1).2.1, u.o _ (hE0 x (H9.1 hx).1).2.1]
        · have hx : x ∈ c8v s0.n ((h.ox i).map (b9j s0.n)) ++ (hkE (s0.n + qs0.length) h.hk ((h.hc i).map (b9j s0.n)) ++ frm s0 qs0 h.hk) := hx; rw [<- hn, hq0, <- hql] at hx; rcases D4.1 hx with hx | hx
          · obtain ⟨j, y, h1, rfl⟩ := c8x hx; rw [C7] at h1; obtain ⟨y', h2, rfl⟩ := D8.1 h1; have hlt := (C8.1 h2).1; have hlt2 : j < oe.length := by omega
            obtain ⟨y2, h3, h4⟩ := os2 j oe[j] (B2 hlt2); rw [h2] at h3; simp only [A3] at h3; subst h3; have hqj : qs[j]? = some oe[j].1 := by rw [<- oe1, C7, B2 hlt2]; rfl
            obtain ⟨n1, n2⟩ := hnm.q j _ hqj; have hk := hE1 _ (oe2 _ (M6 hlt2)); obtain ⟨q1, q2⟩ := hRo j _ (B2 hlt2); exact ⟨n1, n1, hCo j _ h2, by simp only []; rw [n2, q1, q2]; exact HB1.loc (Y9 hn.symm) hnm r1.toRelH h4 hk.2.2.2⟩
          · rcases D4.1 hx with hx | hx
            · obtain ⟨j, id, y, h0, h1, rfl⟩ := b8a hx; rw [C7] at h1; obtain ⟨y', h2, rfl⟩ := D8.1 h1; have hlt := (C8.1 h2).1; have hlt2 : j < hE.length := by omega
              obtain ⟨y2, h3, h4⟩ := bs2 j hE[j] (B2 hlt2); rw [h2] at h3; simp only [A3] at h3; subst h3; have hid : id = hE[j].1 := by
                have : h.hk[j]? = some hE[j].1 := by rw [<- he1, C7, B2 hlt2]; rfl
                rw [h0] at this; exact I9 this
              have hk := hE1 _ (he2 _ (M6 hlt2)); obtain ⟨q1, q2⟩ := hRh j _ (B2 hlt2); have hidlt : id < m.n := hh0 id (I1 h0); refine ⟨C3 hidlt u2.n, ?_, hCh j _ h2, ?_⟩
              · simp only []; omega
              · simp only []; rw [q1, q2, u2.ν _ hidlt, <- u.ν _ hidlt, hid]; exact HB1.loc (Y9 hn.symm) hnm r1.toRelH h4 hk.2.2.2
            · exact (hE0 x (H9.1 hx).1).up u2
        · rw [hm2n, hn]; show _ = s0.n + (qs0.length + h.hk.length); rw [hq0, <- hql]
        · rw [<- hm2]; exact r0.bs
        · rcases c8w _ _ _ _ (fun x hx => C2 (J6.1 hks _ (d4s (t := x.1) (x := x.2) hx))) ht with h1 | h1
          · obtain ⟨y, z, h2, h3, rfl⟩ := e1v hvs h1; obtain ⟨v, h4, h5⟩ := r1.sl t y h2; refine ⟨v, h4, ?_⟩; have h6 := (RV.rsv hH1 h5).res; rw [r1.bs] at h6; rw [<- hn]; exact RV.loc hnm h3 h6
          · obtain ⟨h2, h3⟩ := c3f _ _ _ _ hs h1; obtain ⟨v, h4, h5⟩ := r0.sl t x h3; exact ⟨v, by rw [he t h2]; exact h4, h5.up u2⟩
      · cases hd
    · cases hd
  · cases hd
end
variable {E : DE} {P : Program} (F : DF E) (Z : ZF P E)
inductive Hint (E : DE) where
  | unr (n : Nat)
  | inv (h : LH E)
  | joi (h : LH E)
  | sure (q : Bool)
  | dep (f : St E -> Hint E)
def Hint.at_ (s : St E) : Option (Hint E) -> Option (Hint E)
 | some (.dep f) => some (f s)
 | h => h
def slV (s : St E) (t : Nat) : SV E := match s.sl.get t with | some x => x | none => .undef
def slI (s : St E) (t : Nat) : Int := match slV s t with | .i _ n => n | _ => 0
def hpC (s : St E) (id off : Nat) : SV E := match o6 s.hp id with
 | some (_, .box _ c) => match a0u off c with | some (x :: _) => x | _ => .undef
 | _ => .undef
def owH (s : St E) (t : Nat) : HB E := match slV s t with | .own id => (match o6 s.hp id with | some (_, x) => x | none => .oth) | _ => .oth
def owI (s : St E) (t : Nat) : List Int := match owH s t with | .arr (.ik _) _ xs => xs | .arr .int _ xs => xs | _ => []
def x9 : Code -> List Nat
 | .region _ ops _ => a1j ops.toList
 | .seq a b => x9 a ++ x9 b
 | .cond _ a b => x9 a ++ x9 b
 | .block _ a => x9 a
 | .loop a => x9 a
 | .scope a => x9 a
 | _ => []
def rid : Code -> Nat
 | .region i _ _ => i
 | .seq a _ => rid a
 | .block _ a => rid a
 | _ => 0
inductive Ent (h : LH E) (vs : List (SV E)) (os bs : List (HB E)) : Prop where
  | mk (i : h.ι) (hv : vs = h.sl i) (ho : os = h.ox i) (hb : bs = h.hc i) (hi : h.inv i)
inductive Rnd (h : LH E) (i : h.ι) (vs : List (SV E)) (os bs : List (HB E)) : Prop where
  | mk (j : h.ι) (hv : vs = h.sl j) (ho : os = h.ox j) (hb : bs = h.hc j) (hi : h.inv j) (hm : h.mu j < h.mu i)
def n4 {k n : Nat} (h : k < n) (hn : n <= d4) : IntKind.wrap .i64 ((k : Int) + 1) = ((k + 1 : Nat) : Int) := by
 unfold d4 at hn; rw [IntWalk.i64_in _ (by omega)]; omega
def g2n (s0 : St E) (qs : List Nat) (h : LH E) (i : h.ι) (s' : St E) : Prop := match nrm s' h.ow with
 | some s1 => match c8u s0.n s1 h with
  | some d => cond (b1v (frm s0 qs h.hk) s1 d.qs h.hk) (Rnd h i d.vs d.os d.bs) False
  | none => False
 | none => False
def f5k (body : St E -> (St E -> Prop) -> Prop) : Nat -> St E -> Prop
 | 0, _ => False
 | n + 1, s => body s (fun s' => f5k body n s')
def f5l (s : St E) (x : SV E) (q : Bool) (K : St E -> Prop) : Prop := match x with
 | .lit p => Pre (p = q) /\ K s
 | .b p => Pre (p = q) /\ K s
 | .bv id => match s.bs[id]? with
  | some p => Pre (p = q) /\ K (s.setb id q)
  | none => False
 | _ => False
def e8p (s0 : St E) (qs : List Nat) (h : LH E) (s' : St E) : Prop := match nrm s' h.ow with
 | some s1 => match c8u s0.n s1 h with
  | some d => cond (b1v (frm s0 qs h.hk) s1 d.qs h.hk) (Ent h d.vs d.os d.bs) False
  | none => False
 | none => False
def vc (H : Nat -> Option (Hint E)) (call : j7 E) (N : Nat) (R : St E -> Prop) : Code -> St E -> (St E -> Prop) -> (Nat -> St E -> Prop) -> Prop
 | .skip, s, K, _ => K s
 | .region _ ops draw, s, K, _ => cond draw (cond (P.follows .mixedOrders && (b1u (e1d ops.toList []) 0 ops.toList && Region.noSelect ops)) (vcD F Z call N ops.toList (e1d ops.toList []) ops.toList.length 0 [] s K) False) (vcL F Z call N ops ops.toList s K)
 | .seq a b, s, K, X => vc H call N R a s (fun s => vc H call N R b s K X) X
 | .cond c a b, s, K, X => match Hint.at_ s (H (rid a)) with
  | some (.joi h) => match nrm s h.ow with
   | some s0 => match c8u s0.n s0 h with
    | some d => match opd s0 c with
     | some x => cond (a8u (x9 a ++ x9 b) && (a8u h.ks && b1v (frm s0 d.qs h.hk) s0 d.qs h.hk))
       (ask s0 x (fun s => vc H call N R a s (e8p s0 d.qs h) X) (fun s => vc H call N R b s (e8p s0 d.qs h) X) /\
        ∀ i, h.inv i -> K (head s0 d.qs h (x9 a ++ x9 b) i)) False
     | none => False
    | none => False
   | none => False
  | some (.sure q) => match opd s c with
   | some x => f5l s x q fun s => cond q (vc H call N R a s K X) (vc H call N R b s K X)
   | none => False
  | _ => match opd s c with
   | some x => ask s x (fun s => vc H call N R a s K X) (fun s => vc H call N R b s K X)
   | none => False
 | .block i a, s, K, X => vc H call N R a s K (fun j s => cond (Nat.beq j i) (K s) (X j s))
 | .exit i, s, _, X => X i s
 | .ret, s, _, _ => R s
 | .scope a, s, K, X => vc H call N R a s K X
 | .label _, s, K, _ => K s
 | .loop a, s, _, X => match Hint.at_ s (H (rid a)) with
  | some (.inv h) => match nrm s h.ow with
   | some s0 => match c8u s0.n s0 h with
    | some d => cond (a8u (x9 a) && (a8u h.ks && b1v (frm s0 d.qs h.hk) s0 d.qs h.hk)) (Ent h d.vs d.os d.bs /\
      ∀ i, h.inv i -> vc H call N R a (head s0 d.qs h (x9 a) i) (g2n s0 d.qs h i) X) False
    | none => False
   | none => False
  | some (.unr n) => f5k (fun s K => vc H call N R a s K X) n s
  | _ => No (rid a)
 | _, _, _, _ => False
variable {F Z} {w0 : World} {G0 : Gh}
structure Out (w0 : World) (G0 : Gh) (Q : Exit -> Act -> World -> Prop) (N : Nat) (m : Mn E) (e : Env) (wr : List Nat) (K R : St E -> Prop) (X : Nat -> St E -> Prop) : Prop where
  k : ∀ s' m' e' w', Up m m' -> Rel w0 G0 s' m' e' w' -> (∀ t, t ∉ wr -> e' t = e t) -> K s' -> ∀ a, Fr N a e' -> Q .normal a w'
  x : ∀ i s' m' e' w', Up m m' -> Rel w0 G0 s' m' e' w' -> (∀ t, t ∉ wr -> e' t = e t) -> X i s' -> ∀ a, Fr N a e' -> Q (.exit i) a w'
  r : ∀ s' m' e' w', Up m m' -> Rel w0 G0 s' m' e' w' -> R s' -> ∀ a, Fr N a e' -> Q .ret a w'
def RC.setNil {m : Mn E} {n : Nat} (h : L m (.own n) (.slice none 0 0)) : ∀ {c : List (SV E)} {i : Nat} {cs : List Value}, RC m c cs -> c[i]? = some .nils -> RC m (c.set i (.own n)) cs
 | [], _, _, _, hi => by simp at hi
 | a :: c, 0, cs, ⟨c1, c2, e, h1, h2⟩, hi => by
  simp only [E0, A3] at hi; subst hi; obtain ⟨v, rfl, hv⟩ := h1; have hv : v = _ := hv; subst hv; exact ⟨_, c2, e, ⟨_, rfl, h⟩, h2⟩
 | a :: c, i + 1, cs, ⟨c1, c2, e, h1, h2⟩, hi => ⟨c1, c2, e, h1, RC.setNil h h2 (by simpa using hi)⟩
section
variable {s s' : St E} {m : Mn E} {e : Env} {w : World}
def e8q (r : Rel w0 G0 s m e w) {p : OwP} {t : Ty} {el : Nat} (h : f5j s p t el = some s') : ∃ m', Up m m' /\ Rel w0 G0 s' m' e w := by
 unfold f5j at h
 split at h
 ·cases h; exact ⟨m, Up.refl m, r⟩
 ·rename_i ho; obtain ⟨bl, Lo, hC, hB, hT⟩ := r.toRelH.new; obtain ⟨u, r1⟩ := hT m.G w (.arr t el []) (.slice none 0 0) [] [] (GLe.refl _) hC hB ⟨none, rfl, rfl, Ow.nil_ _ _, C0 _⟩; have hn : ∀ v, v = Value.slice none 0 0 -> L ((m.g m.G).add (.slice none 0 0) (.arr t el []) [] []) (SV.own s.n : SV E) v := fun v hv => by
   subst hv; have : ((m.g m.G).add (.slice none 0 0) (.arr t el []) [] []).ν s.n = .slice none 0 0 := by rw [<- r.n]; exact Mn.add_ν
   exact ⟨by simp [Mn.add, Mn.g, r.n], this.symm, none, 0, 0, this⟩
  split at h
  ·rename_i k; cases hk : Nat.blt k 4000 with
   | false => rw [hk] at h; cases h
   | true =>
    rw [hk] at h; simp only [B5, A3] at h; subst h; have hlt : k + 1 < 2 ^ 12 := by have : k < 4000 := C2 hk; omega
    refine ⟨_, u, ⟨⟨r1.bx, r1.n, r1.bs⟩, fun q y hq => ?_⟩⟩; simp only [St.put] at hq; rw [PT.get_put _ _ _ _ _ hlt] at hq; by_cases hqk : q = k
    ·subst hqk; rw [F8 rfl] at hq; cases hq; obtain ⟨v, h1, h2⟩ := r.sl _ _ (show s.sl.get q = some .nils from ho); exact ⟨v, h1, hn v h2⟩
    ·rw [F7 hqk] at hq; obtain ⟨v, h1, h2⟩ := r.sl q y hq; exact ⟨v, h1, h2.up u⟩
  ·rename_i id i; split at h
   ·rename_i k T c hg; split at h
    ·rename_i hc; cases h; obtain ⟨_, _, _, ⟨b, cs, e1, e2, e3, e4⟩, _⟩ := r1.wd hg; obtain ⟨p, q, A, B, hC2, hB2, hT2⟩ := r1.turn hg; rw [e1, e2] at hB2; rw [e2] at hC2; obtain ⟨u2, r2⟩ := hT2 _ w (.box T (c.set i (.own s.n))) [(b, T, cs)] [] (GLe.refl _) hC2 hB2 ⟨b, cs, rfl, rfl, e3, RC.setNil (hn _ rfl) e4 hc⟩; exact ⟨_, u.trans u2, r.mem (u.trans u2) r2 rfl⟩
    ·cases h
   ·cases h
 ·cases h
def b9n : ∀ {l : List (OwP × Ty × Nat)} {s s' : St E} {m : Mn E}, Rel w0 G0 s m e w -> nrm s l = some s' -> ∃ m', Up m m' /\ Rel w0 G0 s' m' e w
 | [], s, s', m, r, h => by simp only [nrm, A3] at h; subst h; exact ⟨m, Up.refl m, r⟩
 | (p, t, el) :: l, s, s', m, r, h => by
  simp only [nrm] at h; split at h
  ·rename_i h1; obtain ⟨m1, u1, r1⟩ := e8q r h1; obtain ⟨m2, u2, r2⟩ := b9n r1 h; exact ⟨m2, u1.trans u2, r2⟩
  ·cases h
end
def e8r {s : St E} {m : Mn E} {e : Env} {w : World} (r : Rel w0 G0 s m e w) {x : SV E} {v : Value} {q : Bool} {K : St E -> Prop} (hv : RV m x v) (h : f5l s x q K) : ∃ s', v = .bool q /\ Rel w0 G0 s' m e w /\ K s' := by
 unfold f5l at h
 split at h
 ·obtain ⟨⟨rfl⟩, h⟩ := h; exact ⟨s, d6 rfl hv, r, h⟩
 ·obtain ⟨⟨rfl⟩, h⟩ := h; exact ⟨s, d6 rfl hv, r, h⟩
 ·rename_i id; split at h
  ·rename_i p hp; obtain ⟨⟨rfl⟩, h⟩ := h; obtain ⟨_, hv⟩ := d6 rfl hv; have hm : m.b id = p := by unfold Mn.b; rw [r.bs, hp]; rfl
   rw [hm] at hv; exact ⟨s.setb id p, hv, r.setb hp, h⟩
  ·exact h.elim
 ·exact h.elim
def d4t {n0 : Nat} {s : St E} {h : LH E} {d : LD E} (hd : c8u n0 s h = some d) : d.qs.length = h.ow.length /\ ∀ id ∈ h.hk, ∃ x ∈ s.hp, x.1 = id := by
 unfold c8u at hd
 split at hd
 ·rename_i qs hqs; split at hd
  ·rename_i oe hE vs hoe hhe hvs; split at hd
   ·cases hd; obtain ⟨h1, h2⟩ := a2h hhe; refine ⟨b9m hqs, fun id hid => ?_⟩; rw [<- h1] at hid; obtain ⟨x, hx, hxi⟩ := E1.1 hid; exact ⟨x, h2 x hx, hxi⟩
   ·cases hd
  ·cases hd
 ·cases hd
def g2o {H : Nat -> Option (Hint E)} {call : j7 E} {N : Nat} {R : St E -> Prop} (hcall : a9q P w0 G0 call) : ∀ (c : Code) {s : St E} {m : Mn E} {e : Env} {w : World} {Q : Exit -> Act -> World -> Prop} {K : St E -> Prop} {X : Nat -> St E -> Prop},
  Rel w0 G0 s m e w -> vc F Z H call N R c s K X -> Out w0 G0 Q N m e (x9 c) K R X -> WC P Q N c e w := by
 intro c
 induction c with
 | skip => intro s m e w Q K X r h o; exact f4i (o.k s m e w (Up.refl m) r (fun _ _ => rfl) h)
 | region i ops draw =>
  intro s m e w Q K X r h o; cases draw with
  | true =>
   unfold vc at h; simp only [B5] at h; cases hg : P.follows .mixedOrders && (b1u (e1d ops.toList []) 0 ops.toList && Region.noSelect ops) with
   | false => rw [hg] at h; exact h.elim
   | true =>
    rw [hg] at h; simp only [A7] at hg; obtain ⟨g1, g2, g3⟩ := hg; obtain ⟨bl, L, hC, hB, hH⟩ := r.bx; have := e8a (P := P) (l := ops.toList) (Q := Q) (N := N) (e := e) (id := i) ops.toList.length (e1d ops.toList []) g1 g2 g3 rfl hC hB fun w' hC' hB' =>
     d1z hcall (m0 := m) (e0 := e) (C := K) (fun s' m' e' w' u r' he hK => o.k s' m' e' w' u r' he hK) _ 0 [] [] s m e w' (Up.refl m) ⟨⟨⟨bl, L, hC', hB', hH⟩, r.n, r.bs⟩, r.sl⟩ (fun _ _ => rfl) (fun p hp => by cases hp) h
    exact this
  | false =>
   refine d9l (l := ops.toList) (c5o hcall _ r h fun s' m' e' w' u r' he hK => g1e (o.k s' m' e' w' u r' he hK))
 | seq a b iha ihb =>
  intro s m e w Q K X r h o; refine g1f (iha r h ⟨fun s' m' e' w' u r' he hK => ?_, fun i s' m' e' w' u r' he hX => ?_, fun s' m' e' w' u r' hR => ?_⟩)
  ·refine f4h (ihb r' hK ⟨fun s2 m2 e2 w2 u2 r2 he2 h2 => o.k s2 m2 e2 w2 (u.trans u2) r2 (fun t ht => (he2 t fun h => ht (L8 _ h)).trans (he t fun h => ht (J7 _ h))) h2,
    fun i s2 m2 e2 w2 u2 r2 he2 h2 => o.x i s2 m2 e2 w2 (u.trans u2) r2 (fun t ht => (he2 t fun h => ht (L8 _ h)).trans (he t fun h => ht (J7 _ h))) h2,
    fun s2 m2 e2 w2 u2 r2 h2 => o.r s2 m2 e2 w2 (u.trans u2) r2 h2⟩)
  ·exact o.x i s' m' e' w' u r' (fun t ht => he t fun h => ht (J7 _ h)) hX
  ·exact o.r s' m' e' w' u r' hR
 | cond c a b iha ihb =>
  intro s m e w Q K X r h o; unfold vc at h; split at h
  ·rename_i hh _; split at h
   ·rename_i s0 hs0; split at h
    ·rename_i d hd; split at h
     ·rename_i x hx; cases hsm : a8u (x9 a ++ x9 b) && (a8u hh.ks && b1v (frm s0 d.qs hh.hk) s0 d.qs hh.hk) with
      | false => rw [hsm] at h; exact h.elim
      | true =>
       rw [hsm] at h; obtain ⟨h, hnext⟩ := h; rw [A7, A7] at hsm; obtain ⟨hsmall, hks, hf0⟩ := hsm; obtain ⟨m0, u0, r0⟩ := b9n r hs0; obtain ⟨hq0, hh0⟩ := d4t hd; obtain ⟨_, _, _, _, hH0⟩ := r0.bx; have hE0 := (HR.iff.1 hH0).2.2; have hhk : ∀ id ∈ hh.hk, id < m0.n := fun id hid => by obtain ⟨x, hx, rfl⟩ := hh0 id hid; exact (hE0 x hx).1
       have next : ∀ s2 m2 e2 w2, Up m0 m2 -> Rel w0 G0 s2 m2 e2 w2 -> (∀ t, t ∉ x9 a ++ x9 b -> e2 t = e t) -> e8p s0 d.qs hh s2 -> ∀ a, Fr N a e2 -> Q .normal a w2 := fun s2 m2 e2 w2 u2 r2 he2 hK => by
        unfold e8p at hK; split at hK
        ·rename_i s3 hs3; split at hK
         ·rename_i d' hd'; cases hf : b1v (frm s0 d.qs hh.hk) s3 d'.qs hh.hk with
          | false => rw [hf] at hK; exact hK.elim
          | true =>
           rw [hf] at hK; obtain ⟨i', f', l', b', v'⟩ := hK; obtain ⟨m3, u3, r3⟩ := b9n r2 hs3; obtain ⟨m4, g4, u4, r4⟩ := c5q (i := i') (wr := x9 a ++ x9 b) r0 (u2.trans u3) r3 he2 hd' hq0 hf f' l' b' hsmall hks hhk; exact o.k _ m4 e2 w2 (u0.trans u4) r4 he2 (hnext i' v')
         ·exact hK.elim
        ·exact hK.elim
       obtain ⟨v, h1, h2⟩ := d8 r0 hx; obtain ⟨q, s', hv, r', h'⟩ := b5g r0 h2 h; subst hv; cases q with
       | true => exact c4r h1 (iha r' h' ⟨fun s2 m2 e2 w2 u2 r2 he2 hK => next s2 m2 e2 w2 u2 r2 (fun t ht => he2 t fun h => ht (J7 _ h)) hK, fun i s2 m2 e2 w2 u2 r2 he2 => o.x i s2 m2 e2 w2 (u0.trans u2) r2 fun t ht => he2 t fun h => ht (J7 _ h), fun s2 m2 e2 w2 u2 => o.r s2 m2 e2 w2 (u0.trans u2)⟩)
       | false => exact c4s h1 (ihb r' h' ⟨fun s2 m2 e2 w2 u2 r2 he2 hK => next s2 m2 e2 w2 u2 r2 (fun t ht => he2 t fun h => ht (L8 _ h)) hK, fun i s2 m2 e2 w2 u2 r2 he2 => o.x i s2 m2 e2 w2 (u0.trans u2) r2 fun t ht => he2 t fun h => ht (L8 _ h), fun s2 m2 e2 w2 u2 => o.r s2 m2 e2 w2 (u0.trans u2)⟩)
     ·exact h.elim
    ·exact h.elim
   ·exact h.elim
  ·rename_i q _; split at h
   ·rename_i x hx; obtain ⟨v, h1, h2⟩ := d8 r hx; obtain ⟨s', hv, r', h'⟩ := e8r r h2 h; subst hv; cases q with
    | true => exact c4r h1 (iha r' h' ⟨fun s2 m2 e2 w2 u2 r2 he2 => o.k s2 m2 e2 w2 u2 r2 fun t ht => he2 t fun h => ht (J7 _ h), fun i s2 m2 e2 w2 u2 r2 he2 => o.x i s2 m2 e2 w2 u2 r2 fun t ht => he2 t fun h => ht (J7 _ h), o.r⟩)
    | false => exact c4s h1 (ihb r' h' ⟨fun s2 m2 e2 w2 u2 r2 he2 => o.k s2 m2 e2 w2 u2 r2 fun t ht => he2 t fun h => ht (L8 _ h), fun i s2 m2 e2 w2 u2 r2 he2 => o.x i s2 m2 e2 w2 u2 r2 fun t ht => he2 t fun h => ht (L8 _ h), o.r⟩)
   ·exact h.elim
  split at h
  ·rename_i x hx; obtain ⟨v, h1, h2⟩ := d8 r hx; obtain ⟨q, s', hv, r', h'⟩ := b5g r h2 h; subst hv; cases q with
   | true => exact c4r h1 (iha r' h' ⟨fun s2 m2 e2 w2 u2 r2 he2 => o.k s2 m2 e2 w2 u2 r2 fun t ht => he2 t fun h => ht (J7 _ h), fun i s2 m2 e2 w2 u2 r2 he2 => o.x i s2 m2 e2 w2 u2 r2 fun t ht => he2 t fun h => ht (J7 _ h), o.r⟩)
   | false => exact c4s h1 (ihb r' h' ⟨fun s2 m2 e2 w2 u2 r2 he2 => o.k s2 m2 e2 w2 u2 r2 fun t ht => he2 t fun h => ht (L8 _ h), fun i s2 m2 e2 w2 u2 r2 he2 => o.x i s2 m2 e2 w2 u2 r2 fun t ht => he2 t fun h => ht (L8 _ h), o.r⟩)
  ·exact h.elim
 | block i a iha =>
  intro s m e w Q K X r h o; refine e7r (iha r h ⟨fun s' m' e' w' u r' he hK => ?_, fun j s' m' e' w' u r' he hX => ?_, fun s' m' e' w' u r' hR => ?_⟩)
  ·exact o.k s' m' e' w' u r' he hK
  ·intro a ha; cases hb : Nat.beq j i with
   | true =>
    rw [hb] at hX; have := A8 hb; subst this; have := o.k s' m' e' w' u r' he hX a ha; simpa [Exit.inBlock] using this
   | false =>
    rw [hb] at hX; have hne : j ≠ i := fun h => by rw [h, T9] at hb; cases hb
    have := o.x j s' m' e' w' u r' he hX a ha; simpa [Exit.inBlock, hne] using this
  ·exact o.r s' m' e' w' u r' hR
 | exit i => intro s m e w Q K X r h o; exact f4j (o.x i s m e w (Up.refl m) r (fun _ _ => rfl) h)
 | ret => intro s m e w Q K X r h o; exact g1g (o.r s m e w (Up.refl m) r h)
 | loop a iha =>
  intro s m e w Q K X r h o; unfold vc at h; split at h
  ·rename_i hh _; split at h
   ·rename_i s0 hs0; split at h
    ·rename_i d hd; cases hsm : a8u (x9 a) && (a8u hh.ks && b1v (frm s0 d.qs hh.hk) s0 d.qs hh.hk) with
     | false => rw [hsm] at h; exact h.elim
     | true =>
      rw [hsm] at h; obtain ⟨⟨i0, f0, l0, b0, v0⟩, hstep⟩ := h; rw [A7, A7] at hsm; obtain ⟨hsmall, hks, hf0⟩ := hsm; obtain ⟨m0, u0, r0⟩ := b9n r hs0; obtain ⟨hq0, hh0⟩ := d4t hd; obtain ⟨_, _, _, _, hH0⟩ := r0.bx; have hE0 := (HR.iff.1 hH0).2.2; have hhk : ∀ id ∈ hh.hk, id < m0.n := fun id hid => by obtain ⟨x, hx, rfl⟩ := hh0 id hid; exact (hE0 x hx).1
      have first : ∃ m2 : Mn E, m2.G = m0.G /\ Up m0 m2 /\ Rel w0 G0 (head s0 d.qs hh (x9 a) i0) m2 e w :=
       c5q (i := i0) (wr := x9 a) r0 (Up.refl m0) r0 (fun _ _ => rfl) hd hq0 hf0 f0 l0 b0 hsmall hks hhk
      obtain ⟨m1, g1, u1, r1⟩ := first
      refine f2g (ι := hh.ι × Env) (fun p => hh.mu p.1)
       (fun p G w => hh.inv p.1 /\ (∀ t, t ∉ x9 a -> p.2 t = e t) /\ ∃ m2 : Mn E, m2.G = G /\ Up m0 m2 /\ Rel w0 G0 (head s0 d.qs hh (x9 a) p.1) m2 p.2 w) (fun p => p.2) ?_ (i0, e) m1.G w ⟨v0, fun _ _ => rfl, m1, rfl, u1, r1⟩
      rintro ⟨i, ei⟩ G wi n IH ⟨hi, hei, mi, rfl, ui, ri⟩; refine iha ri (hstep i hi) ⟨fun s2 m2 e2 w2 u2 r2 he2 hK => ?_, fun j s2 m2 e2 w2 u2 r2 he2 hX => ?_, fun s2 m2 e2 w2 u2 r2 hR => ?_⟩
      ·unfold g2n at hK; split at hK
       ·rename_i s3 hs3; split at hK
        ·rename_i d' hd'; cases hf : b1v (frm s0 d.qs hh.hk) s3 d'.qs hh.hk with
         | false => rw [hf] at hK; exact hK.elim
         | true =>
          rw [hf] at hK; obtain ⟨i', f', l', b', v', lt'⟩ := hK; obtain ⟨m3, u3, r3⟩ := b9n r2 hs3; obtain ⟨m4, g4, u4, r4⟩ := c5q (i := i') (wr := x9 a) r0 ((ui.trans u2).trans u3) r3 (fun t ht => (he2 t ht).trans (hei t ht)) hd' hq0 hf f' l' b' hsmall hks hhk; exact g1s (IH (i', e2) m4.G w2 ⟨v', fun t ht => (he2 t ht).trans (hei t ht), m4, rfl, u4, r4⟩ lt')
        ·exact hK.elim
       ·exact hK.elim
      ·exact o.x j s2 m2 e2 w2 ((u0.trans ui).trans u2) r2 (fun t ht => (he2 t ht).trans (hei t ht)) hX
      ·exact o.r s2 m2 e2 w2 ((u0.trans ui).trans u2) r2 hR
    ·exact h.elim
   ·exact h.elim
  ·rename_i k _; refine f2g (ι := Nat × St E × Env) (fun p => p.1)
    (fun p G w => f5k (fun s K => vc F Z H call N R a s K X) p.1 p.2.1 /\ (∀ t, t ∉ x9 a -> p.2.2 t = e t) /\ ∃ m2 : Mn E, m2.G = G /\ Up m m2 /\ Rel w0 G0 p.2.1 m2 p.2.2 w) (fun p => p.2.2) ?_ (k, s, e) m.G w ⟨h, fun _ _ => rfl, m, rfl, Up.refl m, r⟩
   rintro ⟨n, si, ei⟩ G wi n' IH ⟨hu, hei, mi, rfl, ui, ri⟩; cases n with
   | zero => exact hu.elim
   | succ n =>
    refine iha ri hu ⟨fun s2 m2 e2 w2 u2 r2 he2 hK => ?_, fun j s2 m2 e2 w2 u2 r2 he2 hX => ?_, fun s2 m2 e2 w2 u2 r2 hR => ?_⟩
    ·exact g1s (IH (n, s2, e2) m2.G w2 ⟨hK, fun t ht => (he2 t ht).trans (hei t ht), m2, rfl, ui.trans u2, r2⟩ (N4 n))
    ·exact o.x j s2 m2 e2 w2 (ui.trans u2) r2 (fun t ht => (he2 t ht).trans (hei t ht)) hX
    ·exact o.r s2 m2 e2 w2 (ui.trans u2) r2 hR
  ·exact h.elim
 | label l => intro s m e w Q K X r h o; exact fun a ha => wp_label (o.k s m e w (Up.refl m) r (fun _ _ => rfl) h a ha)
 | scope a iha =>
  intro s m e w Q K X r h o; exact fun a ha => wp_scope_straight (iha (Q := Exit.noGoto Q) r h ⟨fun s' m' e' w' u r' he hK => o.k s' m' e' w' u r' he hK, fun j s' m' e' w' u r' he hX => o.x j s' m' e' w' u r' he hX, fun s' m' e' w' u r' hR => o.r s' m' e' w' u r' hR⟩ a ha)
 | _ => intro s m e w Q K X r h o; exact h.elim
variable {E : DE} {P : Program}
@[reducible] def HL (E : DE) : List Ty -> Type
 | [] => Unit
 | t :: r => t.den E × HL E r
def a8d (G : Gh) : (ts : List Ty) -> HL E ts -> List Value -> Prop
 | [], _, vs => vs = []
 | t :: r, a, vs => ∃ v us, vs = v :: us /\ IsV G t a.1 v /\ a8d G r a.2 us
variable (F : DF E)
def a1z : (ts : List Ty) -> HL E ts -> List (SV E)
 | [], _ => []
 | t :: r, a => c2c F t a.1 :: a1z r a.2
def b3p {m : Mn E} : ∀ {ts : List Ty} {a : HL E ts} {vs : List Value}, a8d m.G ts a vs -> ∀ (i : Nat) (x : SV E), (a1z F ts a)[i]? = some x -> ∃ v, vs[i]? = some v /\ RV m x v
 | [], _, _, _, i, x, h => by simp [a1z] at h
 | t :: r, a, vs, ⟨v, us, e, h1, h2⟩, i, x, h => by
  subst e; cases i with
  | zero => simp only [a1z, E0, A3] at h; subst h; exact ⟨v, rfl, c5a F h1⟩
  | succ i => simpa using b3p h2 i x (by simpa [a1z] using h)
def a2w (bs : List Bool) : (ts : List Ty) -> List (SV E) -> Option (HL E ts)
 | [], [] => some ()
 | t :: r, x :: l => match a6k F bs t x, a2w bs r l with | some a, some b => some (a, b) | _, _ => none
 | _, _ => none
def a3o {m : Mn E} : ∀ {ts : List Ty} {l : List (SV E)} {a : HL E ts} {vs : List Value}, a2w F m.bs ts l = some a -> l.length = vs.length ->
  (∀ (i : Nat) (x : SV E), l[i]? = some x -> ∃ v, vs[i]? = some v /\ RV m x v) -> a8d m.G ts a vs
 | [], [], a, vs, _, hl, _ => by cases vs with | nil => rfl | cons _ _ => simp at hl
 | [], _ :: _, a, vs, h, _, _ => by simp [a2w] at h
 | _ :: _, [], a, vs, h, _, _ => by simp [a2w] at h
 | t :: r, x :: l, a, [], h, hl, _ => by simp at hl
 | t :: r, x :: l, a, v :: vs, h, hl, hv => by
  simp only [a2w] at h; split at h
  ·rename_i a1 a2 h1 h2; cases h; obtain ⟨u, e1, e2⟩ := hv 0 x rfl; simp only [E0, A3] at e1; subst e1; exact ⟨v, vs, rfl, a5p F h1 e2, a3o h2 (by simpa using hl) fun i y hi => by simpa using hv (i + 1) y (by simpa using hi)⟩
  ·cases h
def b6p (G : Gh) : (rt : List Ty) -> HL E rt -> Value -> Prop
 | [t], a, v => IsV G t a.1 v
 | [], _, v => v = .tuple #[]
 | t :: u :: r, a, v => ∃ vs, v = .tuple vs.toArray /\ a8d G (t :: u :: r) a vs
def b2k : (rt : List Ty) -> HL E rt -> SV E
 | [t], a => c2c F t a.1
 | [], _ => .tup []
 | t :: u :: r, a => .tup (a1z F (t :: u :: r) a)
def c3g (bs : List Bool) : (rt : List Ty) -> SV E -> Option (HL E rt)
 | [t], x => match a6k F bs t x with | some a => some (a, ()) | none => none
 | [], x => match x with | .tup [] => some () | _ => none
 | t :: u :: r, x => match x with | .tup l => a2w F bs (t :: u :: r) l | _ => none
structure Con (E : DE) where
  ts : List Ty
  rt : List Ty
  pre : Option (HL E ts -> Prop) := none
  ret : HL E ts -> HL E rt
def Con.holds (c : Con E) (a : HL E c.ts) : Prop := match c.pre with | none => True | some p => p a
def Con.ok (P : Program) (f : Nat) (c : Con E) : Prop := ∀ (a : HL E c.ts) (G : Gh) (w : World) (vs : List Value), Holds G w -> c.holds a -> a8d G c.ts a vs -> g6t P f vs.toArray G w fun G' v => b6p G' c.rt (c.ret a) v
def d2a (P : Program) (s : St E) : List ResultVar -> Option (List (SV E))
 | [] => some []
 | .tmp t :: r => match s.sl.get t, d2a P s r with | some x, some l => some (res s.bs x :: l) | _, _ => none
 | .cell t T :: r => match s.sl.get t with
  | some (.ptr id 0) => match o6 s.hp id, c2v P T, d2a P s r with
   | some (_, .box _ c), some n, some l => bif a5k P T n && Nat.beq (wid c) n then some (res s.bs (b3g c) :: l) else none
   | _, _, _ => none
  | _ => none
def e1w : SV E -> Bool
 | .tup _ => false
 | .undef => false
 | .nxt => false
 | _ => true
def e8s : List (SV E) -> Option (SV E)
 | [x] => some x
 | l => bif l.all e1w then some (.tup l) else none
def e1x (P : Program) (s : St E) (fn : Func) : Option (SV E) := match d2a P s fn.results.toList with | some l => e8s l | none => none
variable {F} {w0 : World} {G0 : Gh}
def c5r {s : St E} {m : Mn E} {e : Env} {w : World} (r : Rel w0 G0 s m e w) : ∀ {l : List ResultVar} {xs : List (SV E)}, d2a P s l = some xs -> ∃ vs : List Value, (∀ (N : Nat) (a : Act), Fr N a e -> (l.mapM (d0z a.tmps)).run P w = .ok vs w) /\ xs.length = vs.length /\ ∀ (i : Nat) (x : SV E), xs[i]? = some x -> ∃ v, vs[i]? = some v /\ RV m x v
 | [], xs, h => by simp only [d2a, A3] at h; subst h; exact ⟨[], fun N a ha => rfl, rfl, fun i x h => by simp at h⟩
 | .tmp t :: l, xs, h => by
  simp only [d2a] at h; split at h
  ·rename_i x ys hx hl; cases h; obtain ⟨v, h1, h2⟩ := r.sl t x hx; obtain ⟨vs, h3, h4, h5⟩ := c5r r hl; refine ⟨v :: vs, fun N a ha => ?_, by simp [h4], fun i y hi => ?_⟩
   ·rw [Aj]; have e1 : (d0z a.tmps (.tmp t)).run P w = .ok v w := b1s (r := .tmp t) ha h1; simp [e1, h3 N a ha]
   ·cases i with
    | zero => simp at hi; subst hi; exact ⟨v, rfl, by have := h2.res; rwa [r.bs] at this⟩
    | succ i => simpa using h5 i y (by simpa using hi)
  ·cases h
 | .cell t T :: l, xs, h => by
  simp only [d2a] at h; split at h
  ·rename_i id hx; split at h
   ·rename_i k T' c n ys hg hn hl; cases hc : a5k P T n && Nat.beq (wid c) n with
    | false => rw [hc] at h; cases h
    | true =>
     rw [hc] at h; simp only [B5, A3] at h; subst h; rw [A7] at hc; have hw := A8 hc.2; obtain ⟨v, h1, h2⟩ := r.sl t _ hx; obtain ⟨g0, _, _, ⟨b, cs, g1, _, g2, g3⟩, g4⟩ := r.wd hg; obtain ⟨_, b', o, g5, g6⟩ := d6 rfl h2; rw [g2] at g5; simp only [Value.pointer.injEq, A3, Addr.mk.injEq, M0] at g5; obtain ⟨rfl, rfl⟩ := g5; subst g6; have g7 := g4 w g0; rw [g1] at g7; have hlen : cs.length = n := by rw [g3.len, hw]
     obtain ⟨vs, h3, h4, h5⟩ := c5r r hl; refine ⟨.agg cs.toArray :: vs, fun N a ha => ?_, by simp [h4], fun i y hi => ?_⟩
     ·rw [Aj]; have e1 : (d0z a.tmps (.cell t T)).run P w = .ok (.agg cs.toArray) w := b1s (r := .cell t T) ha ⟨b, n, cs, by simpa using h1, hc.1, hlen, g7.range (i := 0) rfl (o := 0) (m := n) (by rw [N8, F9 (Y9 hlen)]), rfl⟩; simp [e1, h3 N a ha]
     ·cases i with
      | zero => simp at hi; subst hi; exact ⟨_, rfl, by have := (a7j g3).res; rwa [r.bs] at this⟩
      | succ i => simpa using h5 i y (by simpa using hi)
   ·cases h
  ·cases h
def f2m {m : Mn E} : ∀ {xs : List (SV E)} {vs : List Value}, xs.length = vs.length -> (∀ (i : Nat) (x : SV E), xs[i]? = some x -> ∃ v, vs[i]? = some v /\ V1 m x v) -> LV m xs vs
 | [], vs, hl, _ => by cases vs with | nil => rfl | cons _ _ => simp at hl
 | x :: xs, [], hl, _ => by simp at hl
 | x :: xs, v :: vs, hl, hv => by
  obtain ⟨u, e1, e2⟩ := hv 0 x rfl; simp only [E0, A3] at e1; subst e1; exact ⟨v, vs, rfl, e2, f2m (by simpa using hl) fun i y hi => by simpa using hv (i + 1) y (by simpa using hi)⟩
def e1y {m : Mn E} {x : SV E} {v : Value} (h : e1w x = true) (hv : RV m x v) : V1 m x v := by
 cases x <;> first | exact hv | (cases h; done)
def e1z {s : St E} {m : Mn E} {e : Env} {w : World} (r : Rel w0 G0 s m e w) {fn : Func} {x : SV E} (h : e1x P s fn = some x) : ∃ v, RV m x v /\ ∀ (N : Nat) (a : Act), Fr N a e -> (results fn a.tmps).run P w = .ok v w := by
 unfold e1x at h
 split at h
 ·rename_i l hl; obtain ⟨vs, h1, h2, h3⟩ := c5r (P := P) r hl; have hrun : ∀ (N : Nat) (a : Act), Fr N a e -> (results fn a.tmps).run P w = .ok (if h : vs.length = 1 then vs[0] else .tuple vs.toArray) w := fun N a ha => by
   rw [b8r]; have e1 : fn.results = fn.results.toList.toArray := rfl; rw [e1, List.mapM_toArray]; have := h1 N a ha; simp only [Sem.run_bind, Sem.run_map, this]; simp
  match l, vs, h2, h3, h, hrun with
  | [y], [v], _, h3, h, hrun =>
   simp only [e8s, A3] at h; subst h; obtain ⟨u, e1, e2⟩ := h3 0 y rfl; simp only [E0, A3] at e1; subst e1; exact ⟨v, e2, fun N a ha => hrun N a ha⟩
  | [], [], _, h3, h, hrun =>
   simp only [e8s] at h; simp at h; subst h; exact ⟨_, ⟨[], rfl, rfl⟩, fun N a ha => hrun N a ha⟩
  | y :: z :: l, v :: u :: vs, h2, h3, h, hrun =>
   simp only [e8s] at h; cases hp : (y :: z :: l).all e1w with
   | false => rw [hp] at h; cases h
   | true =>
    rw [hp] at h; simp only [B5, A3] at h; subst h; refine ⟨_, ⟨_, rfl, f2m h2 fun i x hi => ?_⟩, fun N a ha => by rw [hrun N a ha]; simp⟩
    obtain ⟨q, e1, e2⟩ := h3 i x hi; exact ⟨q, e1, e1y (J6.1 hp x (I1 hi)) e2⟩
 ·cases h
def b9o {m : Mn E} : ∀ {ts : List Ty} {a : HL E ts} {vs : List Value}, a8d m.G ts a vs -> LV m (a1z F ts a) vs
 | [], _, _, h => h
 | _ :: _, _, _, ⟨v, us, e, h1, h2⟩ => ⟨v, us, e, b0u h1, b9o h2⟩
def c5s {m : Mn E} : ∀ {rt : List Ty} {a : HL E rt} {v : Value}, b6p m.G rt a v -> RV m (b2k F rt a) v
 | [_], _, _, h => c5a F h
 | [], _, _, h => ⟨[], h, rfl⟩
 | _ :: _ :: _, _, _, ⟨vs, h1, h2⟩ => ⟨vs, h1, b9o h2⟩
def b9p {m : Mn E} : ∀ {l : List (SV E)} {vs : List Value}, LV m l vs -> l.length = vs.length /\ ∀ (i : Nat) (x : SV E), l[i]? = some x -> ∃ v, vs[i]? = some v /\ V1 m x v
 | [], vs, h => by have h : vs = _ := h; subst h; exact ⟨rfl, fun i x h => by simp at h⟩
 | a :: l, vs, ⟨v, us, e, h1, h2⟩ => by
  subst e; obtain ⟨g1, g2⟩ := b9p h2; refine ⟨by simp [g1], fun i x hi => ?_⟩; cases i with
  | zero => simp at hi; subst hi; exact ⟨v, rfl, h1⟩
  | succ i => simpa using g2 i x (by simpa using hi)
def b3q {m : Mn E} : ∀ {rt : List Ty} {x : SV E} {a : HL E rt} {v : Value}, c3g F m.bs rt x = some a -> RV m x v -> b6p m.G rt a v
 | [t], x, a, v, h, hv => by
  simp only [c3g] at h; split at h
  ·rename_i b hb; cases h; exact a5p F hb hv
  ·cases h
 | [], x, a, v, h, hv => by
  simp only [c3g] at h; split at h
  ·obtain ⟨vs, rfl, h1⟩ := hv; have h1 : vs = _ := h1; subst h1; rfl
  ·cases h
 | t :: u :: r, x, a, v, h, hv => by
  simp only [c3g] at h; split at h
  ·obtain ⟨vs, rfl, h1⟩ := hv; obtain ⟨g1, g2⟩ := b9p h1; exact ⟨vs, rfl, a3o F h g1 fun i x hi => by obtain ⟨v, e1, e2⟩ := g2 i x hi; exact ⟨v, e1, a8s e2⟩⟩
  ·cases h
end Go.Vz
namespace Go.Vz
open Go Go.Gx
variable {E : DE} {P : Program}
inductive CS where
  | dat (t : Ty)
  | nm (j : Nat) (off : Nat := 0)
inductive ES where
  | box (T : Nat) (l : List CS)
  | map (k v : Ty)
  | arr (t : Ty) (e : Nat)
@[reducible] def CL (E : DE) : List CS -> Type
 | [] => Unit
 | .dat t :: r => t.den E × CL E r
 | .nm _ _ :: r => CL E r
@[reducible] def ES.den (E : DE) : ES -> Type
 | .box _ l => CL E l
 | .map k v => List (k.den E × v.den E)
 | .arr t _ => List (t.den E)
@[reducible] def EL (E : DE) : List ES -> Type
 | [] => Unit
 | e :: r => e.den E × EL E r
def d2b (es : List ES) (ρ : List Nat) (j off : Nat) : SV E := match es[j]?, ρ[j]? with
 | some (.box _ _), some id => .ptr id off
 | some (.map _ _), some id => .mp id
 | some (.arr _ _), some id => .own id
 | _, _ => .undef
def c8y (es : List ES) (ρ : List Nat) (j off : Nat) : SV E -> Bool
 | .ptr id o => match es[j]?, ρ[j]? with | some (.box _ _), some k => Nat.beq k id && Nat.beq o off | _, _ => false
 | .mp id => match es[j]?, ρ[j]? with | some (.map _ _), some k => Nat.beq k id | _, _ => false
 | .own id => match es[j]?, ρ[j]? with | some (.arr _ _), some k => Nat.beq k id | _, _ => false
 | _ => false
variable (F : DF E)
def e8t (es : List ES) (ρ : List Nat) : (l : List CS) -> CL E l -> List (SV E)
 | [], _ => []
 | .dat t :: r, x => opn F t x.1 ++ e8t es ρ r x.2
 | .nm j o :: r, x => d2b es ρ j o :: e8t es ρ r x
def a9r (es : List ES) (ρ : List Nat) : (l : List CS) -> CL E l -> List (SV E)
 | [], _ => []
 | .dat t :: r, x => c2c F t x.1 :: a9r es ρ r x.2
 | .nm j o :: r, x => d2b es ρ j o :: a9r es ρ r x
def g2p (es : List ES) (ρ : List Nat) : (e : ES) -> e.den E -> HB E
 | .box T l, x => .box T (e8t F es ρ l x)
 | .map k v, xs => .map k v xs
 | .arr t e, xs => .arr t e xs
def b6q (bs : List Bool) (es : List ES) (ρ : List Nat) : (l : List CS) -> List (SV E) -> Option (CL E l)
 | [], [] => some ()
 | [], _ :: _ => none
 | .dat t :: r, c => match a1y (Ty.sz (E := E) t) c, a0u (Ty.sz (E := E) t) c with
  | some a, some b => match a8r F bs t a, b6q bs es ρ r b with | some x, some y => some (x, y) | _, _ => none
  | _, _ => none
 | .nm _ _ :: _, [] => none
 | .nm j o :: r, x :: c => bif c8y es ρ j o x then b6q bs es ρ r c else none
def b1w (bs : List Bool) (es : List ES) (ρ : List Nat) : (l : List CS) -> List (SV E) -> Option (CL E l)
 | [], [] => some ()
 | [], _ :: _ => none
 | _ :: _, [] => none
 | .dat t :: r, x :: c => match a6k F bs t x, b1w bs es ρ r c with | some x, some y => some (x, y) | _, _ => none
 | .nm j o :: r, x :: c => bif c8y es ρ j o x then b1w bs es ρ r c else none
def e2a (k v k' v' : Ty) (xs : List (k.den E × v.den E)) : Option (List (k'.den E × v'.den E)) := match Ty.to (fun t => List (t.den E × v.den E)) k k' xs with
 | some ys => Ty.to (fun t => List (k'.den E × t.den E)) v v' ys
 | none => none
def c8z (s : St E) (es : List ES) (ρ : List Nat) : (e : ES) -> HB E -> Option (e.den E)
 | .box T l, x => match x with | .box T' c => bif Nat.beq T T' then b6q F s.bs es ρ l (c.map fun x => b7i s.hp x) else none | _ => none
 | .map k v, x => match x with | .map k' v' xs => e2a k' v' k v xs | _ => none
 | .arr t e, x => match x with | .arr t' e' xs => bif Nat.beq e e' then Ty.to (fun t => List (t.den E)) t' t xs else none | _ => none
def a8e (s : St E) (es0 : List ES) (ρ : List Nat) : (es : List ES) -> List (Nat × Nat × HB E) -> Option (EL E es)
 | [], [] => some ()
 | [], _ :: _ => none
 | _ :: _, [] => none
 | e :: r, x :: l => match c8z F s es0 ρ e x.2.2, a8e s es0 ρ r l with | some a, some b => some (a, b) | _, _ => none
structure NR (m : Mn E) (ρ : List Nat) (m2 : Mn E) (ρ2 : List Nat) : Prop where
  g : GLe m.G m2.G
  ν : ∀ (j id : Nat), ρ[j]? = some id -> ∃ id2 : Nat, ρ2[j]? = some id2 /\ id2 < m2.n /\ m2.ν id2 = m.ν id
section
variable {m m2 : Mn E} {ρ ρ2 : List Nat} {es : List ES}
variable {F}
def d4u (n : NR m ρ m2 ρ2) {j off : Nat} {x : SV E} {v : Value} (h : c8y es ρ j off x = true) (hv : L m x v) : L m2 (d2b es ρ2 j off : SV E) v /\ a2f (d2b es ρ2 j off : SV E) = true := by
 unfold c8y at h
 split at h
 ·split at h
  ·rename_i id o' _ T l k he hk; rw [A7] at h; have e1 := A8 h.1; have e2 := A8 h.2; subst e1 e2; obtain ⟨id2, h1, h2, h3⟩ := n.ν _ _ hk; obtain ⟨_, b, o, h4, h5⟩ := hv; unfold d2b; rw [he, h1]; exact ⟨⟨h2, b, o, by rw [h3]; exact h4, h5⟩, rfl⟩
  ·cases h
 ·split at h
  ·rename_i id _ T l k he hk; have := A8 h; subst this; obtain ⟨id2, h1, h2, h3⟩ := n.ν _ _ hk; obtain ⟨_, h4, h5⟩ := hv; unfold d2b; rw [he, h1]; exact ⟨⟨h2, by rw [h3]; exact h4, by rw [h3]; exact h5⟩, rfl⟩
  ·cases h
 ·split at h
  ·rename_i id _ T l k he hk; have := A8 h; subst this; obtain ⟨id2, h1, h2, h3⟩ := n.ν _ _ hk; obtain ⟨_, h4, h5⟩ := hv; unfold d2b; rw [he, h1]; exact ⟨⟨h2, by rw [h3]; exact h4, by rw [h3]; exact h5⟩, rfl⟩
  ·cases h
 ·cases h
def c3h {j off : Nat} {x : SV E} (h : c8y es ρ j off x = true) : a2f x = true := by
 cases x <;> first | rfl | (simp [c8y] at h; done)
def b9q (n : NR m ρ m2 ρ2) : ∀ {l : List CS} {c : List (SV E)} {x : CL E l} {cs : List Value}, b6q F m.bs es ρ l c = some x -> RC m c cs -> RC m2 (e8t F es ρ2 l x) cs
 | [], [], _, cs, _, hc => hc
 | [], _ :: _, _, _, h, _ => by simp [b6q] at h
 | .dat t :: r, c, x, cs, h, hc => by
  simp only [b6q] at h; split at h
  ·rename_i a b ha hb; split at h
   ·rename_i y z hy hz; cases h; have h1 := b3i F t a y _ hy (hc.take ha); have h2 := b9q n hz (hc.drop hb); have h3 := b8y (m := m2) F t y _ (Rp.mono n.g h1); have := h3.append h2
    rwa [E6] at this
   ·cases h
  ·cases h
 | .nm _ _ :: _, [], _, _, h, _ => by simp [b6q] at h
 | .nm j o :: r, y :: c, x, cs, h, ⟨c1, c2, e, h1, h2⟩ => by
  simp only [b6q] at h; cases hn : c8y es ρ j o y with
  | false => rw [hn] at h; cases h
  | true =>
   rw [hn] at h; obtain ⟨v, rfl, h3⟩ := h1.leaf_ (c3h hn); obtain ⟨h4, h5⟩ := d4u n hn h3; exact ⟨[v], c2, e, a6i h5 h4, b9q n h h2⟩
def a7p (n : NR m ρ m2 ρ2) : ∀ {l : List CS} {c : List (SV E)} {x : CL E l} {vs : List Value}, b1w F m.bs es ρ l c = some x -> c.length = vs.length -> (∀ (i : Nat) (y : SV E), c[i]? = some y -> ∃ v, vs[i]? = some v /\ RV m y v) ->
  LV m2 (a9r F es ρ2 l x) vs
 | [], [], _, vs, _, hl, _ => by cases vs with | nil => rfl | cons _ _ => simp at hl
 | [], _ :: _, _, _, h, _, _ => by simp [b1w] at h
 | _ :: _, [], _, _, h, _, _ => by simp [b1w] at h
 | .dat t :: r, y :: c, x, [], h, hl, _ => by simp at hl
 | .nm j o :: r, y :: c, x, [], h, hl, _ => by simp at hl
 | .dat t :: r, y :: c, x, v :: vs, h, hl, hv => by
  simp only [b1w] at h; split at h
  ·rename_i a b ha hb; cases h; obtain ⟨u, e1, e2⟩ := hv 0 y rfl; simp only [E0, A3] at e1; subst e1; exact ⟨v, vs, rfl, b0u (F := F) (IsV.mono n.g (a5p F ha e2)), a7p n hb (by simpa using hl) fun i z hi => by simpa using hv (i + 1) z (by simpa using hi)⟩
  ·cases h
 | .nm j o :: r, y :: c, x, v :: vs, h, hl, hv => by
  simp only [b1w] at h; cases hn : c8y es ρ j o y with
  | false => rw [hn] at h; cases h
  | true =>
   rw [hn] at h; obtain ⟨u, e1, e2⟩ := hv 0 y rfl; simp only [E0, A3] at e1; subst e1; obtain ⟨h4, h5⟩ := d4u n hn (d6 (c3h hn) e2); refine ⟨v, vs, rfl, ?_, a7p n h (by simpa using hl) fun i z hi => by simpa using hv (i + 1) z (by simpa using hi)⟩; have : ∀ z : SV E, a2f z = true -> L m2 z v -> V1 m2 z v := fun z hz hL => by cases z <;> first | exact hL | cases hz
   exact this _ h5 h4
def e2b {G : Gh} {k v k' v' : Ty} {xs : List (k.den E × v.den E)} {ys : List (k'.den E × v'.den E)} {o : Obj} (h : e2a k v k' v' xs = some ys) (hm : MpT E G k v o xs) : MpT E G k' v' o ys := by
 unfold e2a at h
 split at h
 ·rename_i zs hz; obtain ⟨e1, e2⟩ := Ty.to_ok (C := fun t => List (t.den E × v.den E)) hz; subst e1; simp only at e2; subst e2; obtain ⟨e1, e2⟩ := Ty.to_ok (C := fun t => List (k.den E × t.den E)) h; subst e1; simp only at e2; subst e2; exact hm
 ·cases h
def e2c {s : St E} {bl : List Bx} {Q : List (Nat × Obj)} (n : NR m ρ m2 ρ2) (hH : HR m s.hp bl Q) (hb : m.bs = s.bs) {e : ES} {x : HB E} {y : e.den E} {v : Value} {bs : List Bx} {os : List (Nat × Obj)} (h : c8z F s es ρ e x = some y) (hx : HB1 m x v bs os) : HB1 m2 (g2p F es ρ2 e y) v bs os := by
 cases e with
 | box T l =>
  simp only [c8z] at h; split at h
  ·rename_i T' c; cases ht : Nat.beq T T' with
   | false => rw [ht] at h; cases h
   | true =>
    rw [ht] at h; simp only [B5] at h; have := A8 ht; subst this; obtain ⟨b, cs, h1, h2, h3, h4⟩ := hx; rw [<- hb] at h; exact ⟨b, cs, h1, h2, h3, b9q n h (h4.rsv hH)⟩
  ·cases h
 | map k w =>
  simp only [c8z] at h; split at h
  ·obtain ⟨b, o, h1, h2, h3, h4⟩ := hx; exact ⟨b, o, h1, h2, h3, (e2b h h4).mono n.g⟩
  ·cases h
 | arr t e =>
  simp only [c8z] at h; split at h
  ·rename_i t' e' xs; cases ht : Nat.beq e e' with
   | false => rw [ht] at h; cases h
   | true =>
    rw [ht] at h; simp only [B5] at h; have := A8 ht; subst this; obtain ⟨e1, e2⟩ := Ty.to_ok (C := fun t => List (t.den E)) h; subst e1; simp only at e2; subst e2; obtain ⟨o, h1, h2, h3, h4⟩ := hx; exact ⟨o, h1, h2, h3.mono n.g, h4⟩
  ·cases h
end
variable {E : DE} {P : Program} (F : DF E)
structure i8 (E : DE) where
  ash : List CS
  es : List ES
  rsh : List CS
  pes : List ES
  pre : Option (CL E ash -> EL E es -> Prop) := none
  post : CL E ash -> EL E es -> CL E rsh × EL E pes
def i8.holds (c : i8 E) (a : CL E c.ash) (e : EL E c.es) : Prop := match c.pre with | none => True | some p => p a e
def a5s (es0 : List ES) (ρ : List Nat) : (es : List ES) -> EL E es -> List (HB E)
 | [], _ => []
 | e :: r, x => g2p F es0 ρ e x.1 :: a5s es0 ρ r x.2
def g2q : SV E -> Option Nat
 | .ptr id _ => some id
 | .mp id => some id
 | .own id => some id
 | _ => none
def e2d (j : Nat) : List CS -> List (SV E) -> Option Nat
 | .nm i _ :: r, x :: c => bif Nat.beq i j then g2q x else e2d j r c
 | .dat _ :: r, _ :: c => e2d j r c
 | _, _ => none
def e2e (j : Nat) : List CS -> List (SV E) -> Option Nat
 | .nm i _ :: r, x :: c => bif Nat.beq i j then g2q x else e2e j r c
 | .dat t :: r, c => match a0u (Ty.sz (E := E) t) c with | some b => e2e j r b | none => none
 | _, _ => none
def d4v (s : St E) (j : Nat) : List ES -> List Nat -> Option Nat
 | .box _ l :: r, id :: ρ => match o6 s.hp id with
  | some (_, .box _ c) => match e2e j l c with | some q => some q | none => d4v s j r ρ
  | _ => d4v s j r ρ
 | _ :: r, _ :: ρ => d4v s j r ρ
 | _, _ => none
def rho (s : St E) (as : List CS) (l : List (SV E)) (es : List ES) (fx : Nat) : Nat -> List Nat -> Option (List Nat)
 | 0, ρ => some ρ
 | n + 1, ρ => match e2d ρ.length as l with
  | some id => rho s as l es fx n (ρ ++ [id])
  | none => match d4v s ρ.length es ρ with
   | some id => rho s as l es fx n (ρ ++ [id])
   | none => bif Nat.blt ρ.length fx then rho s as l es fx n (ρ ++ [ρ.length]) else none
def c9a (s : St E) : List CS -> List (SV E) -> Option (St E)
 | [], _ => some s
 | .dat t :: r, c => match a1y (Ty.sz (E := E) t) c, a0u (Ty.sz (E := E) t) c with
  | some a, some b => match d7z s a with | some s1 => c9a s1 r b | none => none
  | _, _ => none
 | .nm _ _ :: r, c => match c with | _ :: c => c9a s r c | [] => none
def b9r (s : St E) : List CS -> List (SV E) -> Option (St E)
 | .dat _ :: r, x :: c => match frz s x with | some s1 => b9r s1 r c | none => none
 | .nm _ _ :: r, _ :: c => b9r s r c
 | _, _ => some s
def b7l (s : St E) : List ES -> List Nat -> Option (St E)
 | .box _ l :: r, id :: ρ => match o6 s.hp id with
  | some (_, .box _ c) => match c9a s l c with | some s1 => b7l s1 r ρ | none => none
  | _ => none
 | _ :: r, _ :: ρ => b7l s r ρ
 | _, _ => some s
section
variable {w0 w : World} {G0 : Gh} {s s' : St E} {m : Mn E}
def c5t : ∀ {l : List CS} {c : List (SV E)} {s s' : St E} {m : Mn E}, RelH w0 G0 s m w -> c9a s l c = some s' -> ∃ m', Up m m' /\ RelH w0 G0 s' m' w /\ s'.sl = s.sl /\ s'.bs = s.bs
 | [], _, s, s', m, r, h => by simp only [c9a, A3] at h; subst h; exact ⟨m, Up.refl m, r, rfl, rfl⟩
 | .dat t :: l, c, s, s', m, r, h => by
  simp only [c9a] at h; split at h
  ·split at h
   ·rename_i s1 h1; obtain ⟨m1, u1, r1, e1, e2⟩ := c5k r h1; obtain ⟨m2, u2, r2, e3, e4⟩ := c5t r1 h; exact ⟨m2, u1.trans u2, r2, e3.trans e1, e4.trans e2⟩
   ·cases h
  ·cases h
 | .nm _ _ :: l, [], s, s', m, r, h => by simp [c9a] at h
 | .nm _ _ :: l, _ :: c, s, s', m, r, h => by simp only [c9a] at h; exact c5t r h
def b0x : ∀ {l : List CS} {c : List (SV E)} {s s' : St E} {m : Mn E}, RelH w0 G0 s m w -> b9r s l c = some s' -> ∃ m', Up m m' /\ RelH w0 G0 s' m' w /\ s'.sl = s.sl /\ s'.bs = s.bs
 | [], _, s, s', m, r, h => by simp only [b9r, A3] at h; subst h; exact ⟨m, Up.refl m, r, rfl, rfl⟩
 | .dat _ :: l, [], s, s', m, r, h => by simp only [b9r, A3] at h; subst h; exact ⟨m, Up.refl m, r, rfl, rfl⟩
 | .nm _ _ :: l, [], s, s', m, r, h => by simp only [b9r, A3] at h; subst h; exact ⟨m, Up.refl m, r, rfl, rfl⟩
 | .dat t :: l, x :: c, s, s', m, r, h => by
  simp only [b9r] at h; split at h
  ·rename_i s1 h1; obtain ⟨m1, u1, r1, e1, e2⟩ := a9o r h1; obtain ⟨m2, u2, r2, e3, e4⟩ := b0x r1 h; exact ⟨m2, u1.trans u2, r2, e3.trans e1, e4.trans e2⟩
  ·cases h
 | .nm _ _ :: l, _ :: c, s, s', m, r, h => by simp only [b9r] at h; exact b0x r h
def b0y : ∀ {l : List ES} {c : List Nat} {s s' : St E} {m : Mn E}, RelH w0 G0 s m w -> b7l s l c = some s' -> ∃ m', Up m m' /\ RelH w0 G0 s' m' w /\ s'.sl = s.sl /\ s'.bs = s.bs
 | [], _, s, s', m, r, h => by simp only [b7l, A3] at h; subst h; exact ⟨m, Up.refl m, r, rfl, rfl⟩
 | .box _ l :: es, [], s, s', m, r, h => by simp only [b7l, A3] at h; subst h; exact ⟨m, Up.refl m, r, rfl, rfl⟩
 | .map _ _ :: es, [], s, s', m, r, h => by simp only [b7l, A3] at h; subst h; exact ⟨m, Up.refl m, r, rfl, rfl⟩
 | .arr _ _ :: es, [], s, s', m, r, h => by simp only [b7l, A3] at h; subst h; exact ⟨m, Up.refl m, r, rfl, rfl⟩
 | .box _ l :: es, id :: c, s, s', m, r, h => by
  simp only [b7l] at h; split at h
  ·split at h
   ·rename_i s1 h1; obtain ⟨m1, u1, r1, e1, e2⟩ := c5t r h1; obtain ⟨m2, u2, r2, e3, e4⟩ := b0y r1 h; exact ⟨m2, u1.trans u2, r2, e3.trans e1, e4.trans e2⟩
   ·cases h
  ·cases h
 | .map _ _ :: es, _ :: c, s, s', m, r, h => by simp only [b7l] at h; exact b0y r h
 | .arr _ _ :: es, _ :: c, s, s', m, r, h => by simp only [b7l] at h; exact b0y r h
end
def b6r (c : i8 E) (s : St E) (l : List (SV E)) : Option (St E × List Nat × CL E c.ash × EL E c.es) := match rho s c.ash l c.es 0 c.es.length [] with
 | some ρ => match b9r s c.ash l with
  | some s1 => match b7l s1 c.es ρ with
   | some s2 => match a4m s2 ρ with
    | some oe => bif b7k (ρ ++ (frm s2 ρ []).map fun x => x.1) then match b1w F s2.bs c.es ρ c.ash (l.map (rsv s2.hp)), a8e F s2 c.es ρ c.es oe with
      | some a, some e => some (s2, ρ, a, e)
      | _, _ => none
     else none
    | none => none
   | none => none
  | none => none
 | none => none
def ocS (c : i8 E) (e : EL E c.es) : St E :=
 { hp := hkE 0 (List.range c.es.length) (a5s F c.es (List.range c.es.length) c.es e) ++ [(c.es.length, c.es.length, .oth)], n := c.es.length + 1 }
def gam (n0 : Nat) (ρ : List Nat) : List ES -> Nat -> List Nat
 | [], _ => []
 | .arr _ _ :: r, j => (n0 + j) :: gam n0 ρ r (j + 1)
 | _ :: r, j => (match ρ[j]? with | some id => id | none => n0 + j) :: gam n0 ρ r (j + 1)
def b5l (k : Nat) : List ES -> List Nat -> Nat -> Bool
 | [], [], _ => true
 | .arr _ _ :: r, _ :: l, j => b5l k r l (j + 1)
 | _ :: r, i :: l, j => (Nat.ble k j || Nat.beq i j) && b5l k r l (j + 1)
 | _, _, _ => false
def b5m (c : i8 E) (s : St E) (ρ : List Nat) (p : EL E c.pes) : St E :=
 { s with hp := hkE s.n (gam s.n ρ c.pes 0) (a5s F c.pes (gam s.n ρ c.pes 0) c.pes p) ++ frm s ρ [], n := s.n + c.pes.length }
def b9s (c : i8 E) (s : St E) (ρ : List Nat) (p : CL E c.rsh) : SV E := match a9r F c.pes (gam s.n ρ c.pes 0) c.rsh p with
 | [x] => x
 | l => .tup l
def c9b (rsh : List CS) (x : SV E) : Option (List (SV E)) := match rsh with
 | [_] => match x with | .tup _ => none | x => some [x]
 | _ => match x with | .tup l => some l | _ => none
def d8f (c : i8 E) (s : St E) (x : SV E) : Option (CL E c.rsh × EL E c.pes) := match c9b c.rsh x with
 | some l => match rho s c.rsh l c.pes c.es.length c.pes.length [] with
  | some ρ => match b9r s c.rsh l with
   | some s1 => match b7l s1 c.pes ρ with
    | some s2 => match a4m s2 ρ, o6 s2.hp c.es.length with
     | some oe, some (q, .oth) => bif b7k (ρ ++ [c.es.length]) && (Nat.beq q c.es.length && b5l c.es.length c.pes ρ 0) then
       match b1w F s2.bs c.pes ρ c.rsh (l.map (rsv s2.hp)), a8e F s2 c.pes ρ c.pes oe with
       | some a, some e => some (a, e)
       | _, _ => none
      else none
     | _, _ => none
    | none => none
   | none => none
  | none => none
 | none => none
def i8.ok (P : Program) (f : Nat) (c : i8 E) : Prop := ∀ (a : CL E c.ash) (e : EL E c.es) (w0 : World) (G0 : Gh) (m : Mn E) (w : World) (vs : List Value), c.holds a e -> RelH w0 G0 (ocS F c e) m w -> LV m (a9r F c.es (List.range c.es.length) c.ash a) vs ->
 Calls P f vs.toArray w fun x w' => ∃ v, x = .returned v /\ ∃ s' m' y, Up m m' /\ RelH w0 G0 s' m' w' /\ RV m' y v /\ d8f F c s' y = some (c.post a e)
def a5t (Δ : Nat -> Option (i8 E)) (els : j7 E) : j7 E := fun f l s K => match Δ f with
 | some c => match b6r F c s l with
  | some (s1, ρ, a, e) => match c.pre with
   | none => K (b5m F c s1 ρ (c.post a e).2) (b9s F c s1 ρ (c.post a e).1)
   | some p => Pre (p a e) /\ K (b5m F c s1 ρ (c.post a e).2) (b9s F c s1 ρ (c.post a e).1)
  | none => No f
 | none => els f l s K
variable {F}
def b5n {s : St E} {m m2 : Mn E} {ρ ρ2 : List Nat} {es0 : List ES} {bl : List Bx} {Q : List (Nat × Obj)} (n : NR m ρ m2 ρ2) (hH : HR m s.hp bl Q) (hb : m.bs = s.bs) : ∀ {es : List ES} {l : List (Nat × Nat × HB E)} {p : EL E es}, a8e F s es0 ρ es l = some p ->
  l.length = es.length /\ (a5s F es0 ρ2 es p).length = es.length /\ ∀ (i : Nat) (x : Nat × Nat × HB E), l[i]? = some x -> ∃ y, (a5s F es0 ρ2 es p)[i]? = some y /\ ∀ v bs os, HB1 m x.2.2 v bs os -> HB1 m2 y v bs os
 | [], [], _, _ => ⟨rfl, rfl, fun i x h => by simp at h⟩
 | [], _ :: _, _, h => by simp [a8e] at h
 | _ :: _, [], _, h => by simp [a8e] at h
 | e :: es, x :: l, p, h => by
  simp only [a8e] at h; split at h
  ·rename_i a b ha hb'; cases h; obtain ⟨h1, h2, h3⟩ := b5n n hH hb hb'; refine ⟨by simp [h1], by simp [a5s, h2], fun i z hz => ?_⟩; cases i with
   | zero =>
    simp only [E0, A3] at hz; subst hz; exact ⟨_, rfl, fun v bs os hx => e2c n hH hb ha hx⟩
   | succ i => simpa [a5s] using h3 i z (by simpa using hz)
  ·cases h
def b3r {n0 : Nat} {ρ : List Nat} : ∀ {pes : List ES} {j : Nat}, (gam n0 ρ pes j).length = pes.length
 | [], _ => rfl
 | .box _ _ :: r, j => by simp [gam, b3r (pes := r)]
 | .map _ _ :: r, j => by simp [gam, b3r (pes := r)]
 | .arr _ _ :: r, j => by simp [gam, b3r (pes := r)]
def c5u {n0 : Nat} {ρ : List Nat} : ∀ {pes : List ES} {l : List Nat} {j : Nat}, b5l ρ.length pes l j = true -> ∀ (i id : Nat), l[i]? = some id -> ∃ id2, (gam n0 ρ pes j)[i]? = some id2 /\ (id2 = n0 + (j + i) ∨ (id = j + i /\ ρ[j + i]? = some id2))
 | [], [], _, _, i, id, h => by simp at h
 | [], _ :: _, _, h, _, _, _ => by simp [b5l] at h
 | .box _ _ :: _, [], _, h, _, _, _ => by simp [b5l] at h
 | .map _ _ :: _, [], _, h, _, _, _ => by simp [b5l] at h
 | .arr _ _ :: _, [], _, h, _, _, _ => by simp [b5l] at h
 | .arr _ _ :: r, q :: l, j, h, i, id, hi => by
  cases i with
  | zero => exact ⟨n0 + j, rfl, .inl rfl⟩
  | succ i =>
   obtain ⟨id2, h1, h2⟩ := c5u (n0 := n0) (show b5l ρ.length r l (j + 1) = true from h) i id (by simpa using hi); exact ⟨id2, by simpa [gam] using h1, by rw [show j + (i + 1) = j + 1 + i by omega]; exact h2⟩
 | .box T cl :: r, q :: l, j, h, i, id, hi => by
  simp only [b5l, A7, P2] at h; cases i with
  | zero =>
   simp only [E0, A3] at hi; subst hi; cases hj : ρ[j]? with
   | none => exact ⟨n0 + j, by simp [gam, hj], .inl rfl⟩
   | some id2 =>
    refine ⟨id2, by simp [gam, hj], .inr ⟨?_, by simpa using hj⟩⟩; have := (C8.1 hj).1; rcases h.1 with h1 | h1
    ·have := C2 h1; omega
    ·exact A8 h1
  | succ i =>
   obtain ⟨id2, h1, h2⟩ := c5u (n0 := n0) h.2 i id (by simpa using hi); exact ⟨id2, by simpa [gam] using h1, by rw [show j + (i + 1) = j + 1 + i by omega]; exact h2⟩
 | .map T cl :: r, q :: l, j, h, i, id, hi => by
  simp only [b5l, A7, P2] at h; cases i with
  | zero =>
   simp only [E0, A3] at hi; subst hi; cases hj : ρ[j]? with
   | none => exact ⟨n0 + j, by simp [gam, hj], .inl rfl⟩
   | some id2 =>
    refine ⟨id2, by simp [gam, hj], .inr ⟨?_, by simpa using hj⟩⟩; have := (C8.1 hj).1; rcases h.1 with h1 | h1
    ·have := C2 h1; omega
    ·exact A8 h1
  | succ i =>
   obtain ⟨id2, h1, h2⟩ := c5u (n0 := n0) h.2 i id (by simpa using hi); exact ⟨id2, by simpa [gam] using h1, by rw [show j + (i + 1) = j + 1 + i by omega]; exact h2⟩
def Mn.sub (m : Mn E) (oe : List (Nat × Nat × HB E)) (cs : List (HB E)) (rest : List (Nat × Nat × HB E)) : Mn E :=
  { G := m.G, n := oe.length + 1, bs := [], ν := fun i => match oe[i]? with | some x => m.ν x.1 | none => undef, C := fun i => cs.getD i .oth
    R := fun i => match oe[i]? with | some x => m.R x.2.1 | none => rest.flatMap fun x => m.R x.2.1
    O := fun i => match oe[i]? with | some x => m.O x.2.1 | none => rest.flatMap fun x => m.O x.2.1 }
def Mn.back (m m3 : Mn E) (oe : List (Nat × Nat × HB E)) (cs : List (HB E)) : Mn E :=
  { G := m3.G, n := m.n + oe.length, bs := m.bs, ν := fun i => if i < m.n then m.ν i else match oe[i - m.n]? with | some x => m3.ν x.1 | none => undef
    C := fun i => if i < m.n then m.C i else cs.getD (i - m.n) .oth
    R := fun i => if i < m.n then m.R i else match oe[i - m.n]? with | some x => m3.R x.2.1 | none => []
    O := fun i => if i < m.n then m.O i else match oe[i - m.n]? with | some x => m3.O x.2.1 | none => [] }
section
variable {w0 w w' : World} {G0 : Gh} {s s3 : St E} {m m2 m3 : Mn E} {ρ ρ3 : List Nat} {oe oe3 : List (Nat × Nat × HB E)} {c : i8 E}
def c3i {k j : Nat} (h : j < k) : (List.range k)[j]? = some j := X9 h
def e2f (r : RelH w0 G0 s m w) (hoe : a4m s ρ = some oe) (hn : b7k (ρ ++ (frm s ρ []).map fun x => x.1) = true) {e : EL E c.es} (hk : ρ.length = c.es.length) (he : a8e F s c.es ρ c.es oe = some e) :
    NR m ρ (m.sub oe (a5s F c.es (List.range c.es.length) c.es e) (frm s ρ [])) (List.range c.es.length) /\
      RelH w0 G0 (ocS F c e) (m.sub oe (a5s F c.es (List.range c.es.length) c.es e) (frm s ρ [])) w := by
  obtain ⟨o1, o2⟩ := a2h hoe; have hl : oe.length = c.es.length := by rw [<- hk, <- o1, C5]
  generalize hcs : a5s F c.es (List.range c.es.length) c.es e = cs; generalize hm2 : m.sub oe cs (frm s ρ []) = m2; have hν : ∀ j x, oe[j]? = some x -> m2.ν j = m.ν x.1 /\ m2.R j = m.R x.2.1 /\ m2.O j = m.O x.2.1 := fun j x hj => by
    rw [<- hm2]; simp only [Mn.sub, hj, Cj]
  have hN : m2.n = c.es.length + 1 := by rw [<- hm2, <- hl]; rfl
  have hNR : NR m ρ m2 (List.range c.es.length) := ⟨fun b o h => by rw [<- hm2]; exact h, fun j id hj => by
    have hlt := (C8.1 hj).1; have hlt2 : j < oe.length := by omega
    refine ⟨j, c3i (by omega), by omega, ?_⟩; have := (hν j _ (B2 hlt2)).1; rw [this]; rw [<- o1, C7, B2 hlt2] at hj; simpa using congrArg m.ν (I9 hj)⟩
  refine ⟨hNR, ?_⟩; obtain ⟨bl, L, hC, hB, hH⟩ := r.bx; obtain ⟨eb, eL, hE⟩ := HR.iff.1 hH; obtain ⟨h1, h2, h3⟩ := b5n hNR hH r.bs he; rw [hcs] at h2 h3; obtain ⟨rest, hperm⟩ := a7o (f := fun x : Nat × Nat × HB E => x.1) (a := oe ++ frm s ρ []) (b := s.hp) (by
      rw [F5, o1]; exact b3o hn) (fun x hx => by
      rcases D4.1 hx with hx | hx
      · exact o2 x hx
      · exact (H9.1 hx).1)
  have p1 := a1p (fun x => m.R x.2.1) hperm; have p2 := a1p (fun x => m.O x.2.1) hperm; rw [E3] at p1 p2; obtain ⟨hC2, hB2⟩ := a4z hC hB (by rw [eb]; exact p1) (by rw [eL]; exact p2); refine ⟨⟨_, _, Cx.gcast hC2 (by rw [<- hm2]; rfl), Bxs.gcast hB2 (by rw [<- hm2]; rfl), HR.iff.2 ⟨?_, ?_, fun x hx => ?_⟩⟩, ?_, ?_⟩
  · show _ = List.flatMap _ (hkE 0 _ _ ++ _); rw [hcs, E3, E3]
    congr 1
    · refine (a5r (g := m.R) (by rw [h2, hl]) (by simp [hl]) fun j x hj => ?_).symm; rw [F2]; exact (hν j x hj).2.1
    · rw [<- hl, <- hm2]; simp [Mn.sub]
  · show _ = List.flatMap _ (hkE 0 _ _ ++ _); rw [hcs, E3, E3]
    congr 1
    · refine (a5r (g := m.O) (by rw [h2, hl]) (by simp [hl]) fun j x hj => ?_).symm; rw [F2]; exact (hν j x hj).2.2
    · rw [<- hl, <- hm2]; simp [Mn.sub]
  · have hx : x ∈ hkE 0 (List.range c.es.length) cs ++ [(c.es.length, c.es.length, .oth)] := by rw [<- hcs]; exact hx
    rcases D4.1 hx with hx | hx
    · obtain ⟨j, id, y, g1, g2, rfl⟩ := b8a hx; have hlt := (C8.1 g2).1; have hlt2 : j < oe.length := by omega
      obtain rfl : id = j := by rw [c3i (by omega)] at g1; exact (I9 g1).symm
      obtain ⟨y', g3, g4⟩ := h3 id _ (B2 hlt2); rw [g2] at g3; injection g3 with g3; subst g3
      obtain ⟨q1, q2, q3⟩ := hν id _ (B2 hlt2); have hk := hE _ (o2 _ (M6 hlt2)); refine ⟨by show id < m2.n; omega, by show 0 + id < m2.n; omega, ?_, ?_⟩
      · rw [<- hm2]; show cs.getD (0 + id) .oth = y; rw [F2, B3, g2]; rfl
      · show HB1 m2 y (m2.ν id) (m2.R (0 + id)) (m2.O (0 + id)); rw [F2, q1, q2, q3]; exact g4 _ _ _ hk.2.2.2
    · rw [F3] at hx; subst hx; refine ⟨by show c.es.length < m2.n; omega, by show c.es.length < m2.n; omega, ?_, trivial⟩
      rw [<- hm2]; show cs.getD c.es.length .oth = .oth; rw [B3, I0 (by omega)]; rfl
  · rw [hN]; rfl
  · rw [<- hm2]; rfl
def e8u (r : RelH w0 G0 s m w) (hoe : a4m s ρ = some oe) (hk : ρ.length = c.es.length) {cs0 : List (HB E)} (u : Up (m.sub oe cs0 (frm s ρ [])) m3) (r3 : RelH w0 G0 s3 m3 w') (hoe3 : a4m s3 ρ3 = some oe3)
    (hot : o6 s3.hp c.es.length = some (c.es.length, .oth)) (hn : b7k (ρ3 ++ [c.es.length]) = true) (hfx : b5l c.es.length c.pes ρ3 0 = true) {p : EL E c.pes} (hp : a8e F s3 c.pes ρ3 c.pes oe3 = some p) :
    Up m (m.back m3 oe3 (a5s F c.pes (gam s.n ρ c.pes 0) c.pes p)) /\ NR m3 ρ3 (m.back m3 oe3 (a5s F c.pes (gam s.n ρ c.pes 0) c.pes p)) (gam s.n ρ c.pes 0) /\
      RelH w0 G0 (b5m F c s ρ p) (m.back m3 oe3 (a5s F c.pes (gam s.n ρ c.pes 0) c.pes p)) w' := by
  obtain ⟨o1, o2⟩ := a2h hoe; obtain ⟨q1, q2⟩ := a2h hoe3; have hl : oe.length = c.es.length := by rw [<- hk, <- o1, C5]
  have hl3 : oe3.length = ρ3.length := by rw [<- q1, C5]
  generalize hcs : a5s F c.pes (gam s.n ρ c.pes 0) c.pes p = cs; generalize hm4 : m.back m3 oe3 cs = m4; have hsn := r.n; have hU : Up m m4 := by
    rw [<- hm4]; exact ⟨fun b o h => u.g b o h, R7 _ _, fun i hi => F8 hi, B9 _, fun _ _ => rfl, fun i hi => F8 hi, fun i hi => F8 hi, fun i hi => F8 hi⟩
  have hν : ∀ j x, oe3[j]? = some x -> m4.ν (m.n + j) = m3.ν x.1 /\ m4.R (m.n + j) = m3.R x.2.1 /\ m4.O (m.n + j) = m3.O x.2.1 := fun j x hj => by
    rw [<- hm4]; have e : ¬ (m.n + j < m.n) := by omega
    simp only [Mn.back, F7 e, I2, hj, Cj]
  have hC4 : ∀ j y, cs[j]? = some y -> m4.C (m.n + j) = y := fun j y hj => by
    rw [<- hm4]; have e : ¬ (m.n + j < m.n) := by omega
    simp only [Mn.back, F7 e, I2, B3, hj]; rfl
  have hN : m4.n = m.n + oe3.length := by rw [<- hm4]; rfl
  have hsub : ∀ j x, oe[j]? = some x -> m3.ν j = m.ν x.1 := fun j x hj => by
    have hlt := (C8.1 hj).1; rw [u.ν j (by show j < oe.length + 1; omega)]
    simp only [Mn.sub, hj]
  obtain ⟨bl, L, hC, hB, hH⟩ := r.bx; obtain ⟨eb, eL, hE⟩ := HR.iff.1 hH; obtain ⟨bl3, L3, hC3, hB3, hH3⟩ := r3.bx; obtain ⟨eb3, eL3, hE3⟩ := HR.iff.1 hH3; have hNR : NR m3 ρ3 m4 (gam s.n ρ c.pes 0) := ⟨fun b o h => by rw [<- hm4]; exact h, fun j id hj => by
    have hlt := (C8.1 hj).1; have hj3 : oe3[j]? = some oe3[j] := B2 (by omega); have hid : id = oe3[j].1 := by
      rw [<- q1, C7, hj3] at hj; exact (I9 hj).symm
    obtain ⟨id2, g1, g2⟩ := c5u (n0 := s.n) (ρ := ρ) (by rw [hk]; exact hfx) j id hj; rw [F2] at g2; refine ⟨id2, g1, ?_⟩; rcases g2 with rfl | ⟨rfl, g2⟩
    · rw [<- hsn]; exact ⟨by omega, by rw [(hν j _ hj3).1, hid]⟩
    · have hlo := (C8.1 g2).1; have hoj : oe[id]? = some oe[id] := B2 (by omega); have hid2 : id2 = oe[id].1 := by
        rw [<- o1, C7, hoj] at g2; exact (I9 g2).symm
      have hlt2 : id2 < m.n := by rw [hid2]; exact (hE _ (o2 _ (M6 _))).1
      exact ⟨C3 hlt2 hU.n, by rw [hU.ν _ hlt2, hsub id _ hoj, hid2]⟩⟩
  refine ⟨hU, hNR, ?_⟩; obtain ⟨h1, h2, h3⟩ := b5n hNR hH3 r3.bs hp; rw [hcs] at h2 h3; obtain ⟨rest, hperm⟩ := a7o (f := fun x : Nat × Nat × HB E => x.1) (a := oe3 ++ [(c.es.length, c.es.length, .oth)]) (b := s3.hp) (by
      rw [F5, q1]; exact b3o hn) (fun x hx => by
      rcases D4.1 hx with hx | hx
      · exact q2 x hx
      · rw [F3] at hx; subst hx; exact b9k hot)
  have p1 := a1p (fun x => m3.R x.2.1) hperm; have p2 := a1p (fun x => m3.O x.2.1) hperm; rw [E3] at p1 p2; obtain ⟨hC2, hB2⟩ := a4z hC3 hB3 (by rw [eb3]; exact p1) (by rw [eL3]; exact p2); have hoth : m3.R c.es.length = (frm s ρ []).flatMap (fun x => m.R x.2.1) /\ m3.O c.es.length = (frm s ρ []).flatMap (fun x => m.O x.2.1) := by
    have hlt : c.es.length < (m.sub oe cs0 (frm s ρ [])).n := by show _ < oe.length + 1; omega
    rw [u.r _ hlt, u.o _ hlt, <- hl]; simp [Mn.sub]
  have hfr : ∀ x ∈ frm s ρ [], EOk m x := fun x hx => hE x (H9.1 hx).1
  refine ⟨⟨_, _, Cx.gcast hC2 (by rw [<- hm4]; rfl), Bxs.gcast hB2 (by rw [<- hm4]; rfl), HR.iff.2 ⟨?_, ?_, fun x hx => ?_⟩⟩, ?_, ?_⟩
  · show _ = List.flatMap _ (hkE s.n _ _ ++ _); rw [hcs, E3, E3]
    congr 1
    · refine (a5r (g := m3.R) (by rw [h2, h1]) (by rw [b3r, h1]) fun j x hj => ?_).symm; rw [<- hsn]; exact (hν j x hj).2.1
    · simp only [L7, List.flatMap_nil, D6]; rw [hoth.1]; exact (List.flatMap_congr_ fun x hx => by rw [hU.r _ (hfr x hx).2.1]).symm
  · show _ = List.flatMap _ (hkE s.n _ _ ++ _); rw [hcs, E3, E3]
    congr 1
    · refine (a5r (g := m3.O) (by rw [h2, h1]) (by rw [b3r, h1]) fun j x hj => ?_).symm; rw [<- hsn]; exact (hν j x hj).2.2
    · simp only [L7, List.flatMap_nil, D6]; rw [hoth.2]; exact (List.flatMap_congr_ fun x hx => by rw [hU.o _ (hfr x hx).2.1]).symm
  · have hx : x ∈ hkE s.n (gam s.n ρ c.pes 0) cs ++ frm s ρ [] := by rw [<- hcs]; exact hx
    rcases D4.1 hx with hx | hx
    · obtain ⟨j, id, y, g1, g2, rfl⟩ := b8a hx; have hlt := (C8.1 g2).1; have hlt2 : j < oe3.length := by omega
      have hj3 := B2 hlt2; obtain ⟨y', g3, g4⟩ := h3 j _ hj3; rw [g2] at g3; injection g3 with g3; subst g3
      have hidρ : ρ3[j]? = some oe3[j].1 := by rw [<- q1, C7, hj3]; rfl
      obtain ⟨id2, g5, g6, g7⟩ := hNR.ν j _ hidρ; rw [g1] at g5; injection g5 with g5; subst g5
      obtain ⟨e1, e2, e3⟩ := hν j _ hj3; have hk := hE3 _ (q2 _ (M6 hlt2)); refine ⟨g6, by show s.n + j < m4.n; omega, ?_, ?_⟩
      · show m4.C (s.n + j) = y; rw [<- hsn]; exact hC4 j y g2
      · show HB1 m4 y (m4.ν id) (m4.R (s.n + j)) (m4.O (s.n + j)); rw [<- hsn, g7, e2, e3]; exact g4 _ _ _ hk.2.2.2
    · exact (hfr x hx).up hU
  · rw [hN, hsn, h1]; rfl
  · rw [<- hm4]; exact r.bs
end
def b3s {s : St E} {as : List CS} {l : List (SV E)} {es : List ES} {fx : Nat} : ∀ {n : Nat} {ρ0 ρ : List Nat}, rho s as l es fx n ρ0 = some ρ -> ρ.length = ρ0.length + n
 | 0, ρ0, ρ, h => by simp only [rho, A3] at h; subst h; rfl
 | n + 1, ρ0, ρ, h => by
  simp only [rho] at h; split at h
  ·have := b3s h; simp at this; omega
  ·split at h
   ·have := b3s h; simp at this; omega
   ·cases hb : Nat.blt ρ0.length fx with
    | false => rw [hb] at h; cases h
    | true => rw [hb] at h; have := b3s h; simp at this; omega
def b3t {es : List ES} {ρ : List Nat} : ∀ {l : List CS} {x : CL E l}, (a9r F es ρ l x).length = l.length
 | [], _ => rfl
 | .dat _ :: r, x => by simp [a9r, b3t (l := r)]
 | .nm _ _ :: r, x => by simp [a9r, b3t (l := r)]
def e2g {m : Mn E} {c : i8 E} {s : St E} {ρ : List Nat} {p : CL E c.rsh} {v : Value} {vs : List Value} (h : LV m (a9r F c.pes (gam s.n ρ c.pes 0) c.rsh p) vs) (hv : (∃ x, c.rsh = [x] /\ vs = [v]) ∨ (c.rsh.length ≠ 1 /\ v = .tuple vs.toArray)) : RV m (b9s F c s ρ p) v := by
 have hl := b3t (F := F) (es := c.pes) (ρ := gam s.n ρ c.pes 0) (x := p)
 unfold b9s
 split
 ·rename_i x hx; rw [hx] at h; rcases hv with ⟨y, h1, rfl⟩ | ⟨h1, _⟩
  ·obtain ⟨u, us, e, g1, g2⟩ := h; injection e with e1 e2
   subst e1; exact a8s g1
  ·rw [hx] at hl; exact (h1 (by simpa using hl.symm)).elim
 ·rename_i hx; rcases hv with ⟨y, h1, rfl⟩ | ⟨_, rfl⟩
  ·obtain ⟨z, hz⟩ := W6.1 (hl.trans (congrArg List.length h1)); exact (hx z hz).elim
  ·exact ⟨vs, rfl, h⟩
end Go.Vz
