/- Walks by reckoning: a round begins. No condition. -/
import Derived.Test.YtpbcabanpppfoaaGreatVzLoop
set_option linter.all false
namespace Go.Vz
open Go Go.Gx
variable {E : DE} {P : Program}
def ownAt (s : St E) : OwP → Option (SV E)
  | .sl t => s.sl.get t
  | .bx id i => match hget s.hp id with | some (_, .box _ c) => c[i]? | _ => none
/-- A slice that is nil is the call's own. -/
def nrm1 (s : St E) (p : OwP) (t : Ty) (e : Nat) : Option (St E) := match ownAt s p with
  | some (.own _) => some s
  | some .nils => match p with
    | .sl k => bif Nat.blt k 4000 then some ((s.new (.arr t e [])).put (some k) (some (.own s.n))) else none
    | .bx id i => match hget (s.new (.arr t e [])).hp id with
      | some (_, .box T c) => match c[i]? with
        | some .nils => some ((s.new (.arr t e [])).turn id (.box T (c.set i (.own s.n))))
        | _ => none
      | _ => none
  | _ => none
def nrm (s : St E) : List (OwP × Ty × Nat) → Option (St E)
  | [] => some s
  | (p, t, e) :: r => match nrm1 s p t e with | some s' => nrm s' r | none => none
def qsOf (s : St E) : List (OwP × Ty × Nat) → Option (List Nat)
  | [] => some []
  | (p, _, _) :: r => match ownAt s p, qsOf s r with | some (.own q), some l => some (q :: l) | _, _ => none
def entsOf (s : St E) : List Nat → Option (List (Nat × Nat × HB E))
  | [] => some []
  | q :: r => match hget s.hp q, entsOf s r with | some (k, x), some l => some ((q, k, x) :: l) | _, _ => none
def locHs (n0 : Nat) (s : St E) (qs : List Nat) : List (Nat × Nat × HB E) → Option (List (HB E))
  | [] => some []
  | (_, _, x) :: r => match locH n0 s qs x, locHs n0 s qs r with | some y, some l => some (y :: l) | _, _ => none
def hld (s : St E) (qs : List Nat) : List Nat → Option (List (SV E))
  | [] => some []
  | k :: r => match s.sl.get k with
    | some y => match loc qs (res s.bs (rsv s.hp y)), hld s qs r with | some z, some l => some (z :: l) | _, _ => none
    | none => none
structure LD (E : DE) where
  qs : List Nat
  oe : List (Nat × Nat × HB E)
  he : List (Nat × Nat × HB E)
  vs : List (SV E)
  os : List (HB E)
  bs : List (HB E)
def ldat (n0 : Nat) (s : St E) (h : LH E) : Option (LD E) := match qsOf s h.ow with
  | some qs => match entsOf s qs, entsOf s h.hk, hld s qs h.ks with
    | some oe, some he, some vs => match locHs n0 s qs oe, locHs n0 s qs he with
      | some os, some bs => some ⟨qs, oe, he, vs, os, bs⟩
      | _, _ => none
    | _, _, _ => none
  | none => none
def inN (l : List Nat) (x : Nat) : Bool := l.any (Nat.beq x)
def frm (s : St E) (qs hk : List Nat) : List (Nat × Nat × HB E) := s.hp.filter fun x => !(inN qs x.1) && !(inN hk x.1)
def ownE (b : Nat) : List (HB E) → List (Nat × Nat × HB E)
  | [] => []
  | x :: r => (b, b, x) :: ownE (b + 1) r
def hkE (b : Nat) : List Nat → List (HB E) → List (Nat × Nat × HB E)
  | k :: ks, x :: r => (k, b, x) :: hkE (b + 1) ks r
  | _, _ => []
def St.clear (s : St E) (l : List Nat) : St E := { s with sl := l.foldl (fun p t => p.put 12 t none) s.sl }
def St.puts (s : St E) (l : List (Nat × SV E)) : St E := { s with sl := l.foldl (fun p x => p.put 12 x.1 (some x.2)) s.sl }
def zipS : List Nat → List (SV E) → List (Nat × SV E)
  | k :: r, x :: l => (k, x) :: zipS r l
  | _, _ => []
def small (l : List Nat) : Bool := l.all fun t => Nat.blt t 4000
/-- A round's beginning. -/
def head (s : St E) (qs : List Nat) (h : LH E) (wr : List Nat) (i : h.ι) : St E :=
  { ((s.clear wr).puts (zipS h.ks ((h.sl i).map (glo s.n)))) with
    hp := ownE s.n ((h.ox i).map (gloH s.n)) ++ (hkE (s.n + qs.length) h.hk ((h.hc i).map (gloH s.n)) ++ frm s qs h.hk), n := s.n + (qs.length + h.hk.length) }
def nodB : List Nat → Bool
  | [] => true
  | x :: r => !(inN r x) && nodB r
def frmOk (f : List (Nat × Nat × HB E)) (s : St E) (qs hk : List Nat) : Bool :=
  f.all (fun x => s.hp.any fun y => Nat.beq x.1 y.1 && Nat.beq x.2.1 y.2.1) && nodB (qs ++ (hk ++ f.map (·.1)))
/-! ### It is so -/
theorem inN_mem {l : List Nat} {x : Nat} : inN l x = true ↔ x ∈ l := by
  unfold inN
  constructor
  · intro h
    obtain ⟨y, hy, h2⟩ := List.any_eq_true.1 h
    have := Nat.eq_of_beq_eq_true h2
    rw [this]; exact hy
  · intro h
    exact List.any_eq_true.2 ⟨x, h, Nat.beq_refl x⟩
theorem nodB_ok : ∀ {l : List Nat}, nodB l = true → l.Nodup
  | [], _ => List.nodup_nil
  | x :: r, h => by
    simp only [nodB, Bool.and_eq_true, Bool.not_eq_true'] at h
    rw [List.nodup_cons]
    exact ⟨fun hm => (by rw [inN_mem.2 hm] at h; cases h.1), nodB_ok h.2⟩
theorem hget_mem {h : List (Nat × Nat × HB E)} {id k : Nat} {x : HB E} (hg : hget h id = some (k, x)) : (id, k, x) ∈ h := by
  induction h with
  | nil => cases hg
  | cons y r ih =>
    obtain ⟨k', j, z⟩ := y
    unfold hget at hg
    cases hb : Nat.beq k' id with
    | true =>
      rw [hb] at hg
      simp only [cond_true, Option.some.injEq, Prod.mk.injEq] at hg
      obtain ⟨rfl, rfl⟩ := hg
      rw [Nat.eq_of_beq_eq_true hb]; exact List.mem_cons_self
    | false => rw [hb] at hg; exact List.mem_cons_of_mem _ (ih hg)
theorem entsOf_ok {s : St E} : ∀ {ids : List Nat} {l : List (Nat × Nat × HB E)}, entsOf s ids = some l → l.map (·.1) = ids ∧ ∀ x ∈ l, x ∈ s.hp
  | [], l, h => by simp only [entsOf, Option.some.injEq] at h; subst h; exact ⟨rfl, fun x hx => by cases hx⟩
  | q :: r, l, h => by
    simp only [entsOf] at h
    split at h
    · rename_i k x l' hg hr
      simp only [Option.some.injEq] at h; subst h
      obtain ⟨h1, h2⟩ := entsOf_ok hr
      refine ⟨by simp [h1], fun y hy => ?_⟩
      rcases List.mem_cons.1 hy with rfl | hy
      · exact hget_mem hg
      · exact h2 y hy
    · cases h
theorem locHs_ok {n0 : Nat} {s : St E} {qs : List Nat} : ∀ {l : List (Nat × Nat × HB E)} {os : List (HB E)}, locHs n0 s qs l = some os → os.length = l.length ∧ ∀ (j : Nat) (x : Nat × Nat × HB E), l[j]? = some x → ∃ y, os[j]? = some y ∧ locH n0 s qs x.2.2 = some y
  | [], os, h => by simp only [locHs, Option.some.injEq] at h; subst h; exact ⟨rfl, fun j x hx => by simp at hx⟩
  | (a, b, x) :: r, os, h => by
    simp only [locHs] at h
    split at h
    · rename_i y l hy hr
      simp only [Option.some.injEq] at h; subst h
      obtain ⟨h1, h2⟩ := locHs_ok hr
      refine ⟨by simp [h1], fun j z hz => ?_⟩
      cases j with
      | zero => simp at hz; subst hz; exact ⟨y, rfl, hy⟩
      | succ j => simpa using h2 j z (by simpa using hz)
    · cases h
theorem qsOf_len {s : St E} : ∀ {ow : List (OwP × Ty × Nat)} {qs : List Nat}, qsOf s ow = some qs → qs.length = ow.length
  | [], qs, h => by simp only [qsOf, Option.some.injEq] at h; subst h; rfl
  | (p, _, _) :: r, qs, h => by
    simp only [qsOf] at h
    split at h
    · rename_i hr; simp only [Option.some.injEq] at h; subst h; simp [qsOf_len hr]
    · cases h
theorem hld_ok {s : St E} {qs : List Nat} : ∀ {ks : List Nat} {l : List (SV E)}, hld s qs ks = some l → ∀ {t : Nat} {x : SV E} {b : Nat}, (t, x) ∈ zipS ks (l.map (glo b)) → ∃ y z, s.sl.get t = some y ∧ loc qs (res s.bs (rsv s.hp y)) = some z ∧ x = glo b z
  | [], _, _, t, x, b, hx => by cases hx
  | k :: r, l, h, t, x, b, hx => by
    simp only [hld] at h
    split at h
    · rename_i y hy
      split at h
      · rename_i z l' hz hr
        simp only [Option.some.injEq] at h; subst h
        simp only [List.map_cons, zipS, List.mem_cons, Prod.mk.injEq] at hx
        rcases hx with ⟨rfl, rfl⟩ | hx
        · exact ⟨y, z, hy, hz, rfl⟩
        · exact hld_ok hr hx
      · cases h
    · cases h
theorem zip_fst : ∀ {ks : List Nat} {l : List (SV E)} {t : Nat} {x : SV E}, (t, x) ∈ zipS ks l → t ∈ ks
  | [], _, _, _, h => by cases h
  | _ :: _, [], _, _, h => by cases h
  | k :: r, z :: l, t, x, h => by
    simp only [zipS, List.mem_cons, Prod.mk.injEq] at h
    rcases h with ⟨rfl, _⟩ | h
    · exact List.mem_cons_self
    · exact List.mem_cons_of_mem _ (zip_fst h)
theorem get_clear : ∀ (l : List Nat) (p : PT (SV E)) (t : Nat) (x : SV E), small l = true → (l.foldl (fun p t => p.put 12 t none) p).get t = some x → t ∉ l ∧ p.get t = some x
  | [], p, t, x, _, h => ⟨List.not_mem_nil, h⟩
  | a :: l, p, t, x, hs, h => by
    simp only [small, List.all_cons, Bool.and_eq_true] at hs
    have ha : a < 4000 := Nat.le_of_ble_eq_true hs.1
    obtain ⟨h1, h2⟩ := get_clear l _ t x hs.2 h
    rw [PT.get_put _ _ _ _ _ (by omega)] at h2
    by_cases hta : t = a
    · rw [if_pos hta] at h2; cases h2
    · rw [if_neg hta] at h2
      exact ⟨fun hm => (List.mem_cons.1 hm).elim hta h1, h2⟩
theorem get_puts : ∀ (l : List (Nat × SV E)) (p : PT (SV E)) (t : Nat) (x : SV E), (∀ y ∈ l, y.1 < 4000) → (l.foldl (fun p x => p.put 12 x.1 (some x.2)) p).get t = some x → (t, x) ∈ l ∨ p.get t = some x
  | [], p, t, x, _, h => .inr h
  | a :: l, p, t, x, hs, h => by
    have ha := hs a List.mem_cons_self
    rcases get_puts l _ t x (fun y hy => hs y (List.mem_cons_of_mem _ hy)) h with h1 | h1
    · exact .inl (List.mem_cons_of_mem _ h1)
    · rw [PT.get_put _ _ _ _ _ (by omega)] at h1
      by_cases hta : t = a.1
      · rw [if_pos hta] at h1
        simp only [Option.some.injEq] at h1
        exact .inl (by rw [hta, ← h1]; exact List.mem_cons_self)
      · rw [if_neg hta] at h1; exact .inr h1
/-- The names of a round. -/
def Mn.hd (m m' : Mn E) (nu : List Value) (cs : List (HB E)) (vr : List Nat) : Mn E :=
  { G := m'.G, ν := fun i => if i < m.n then m'.ν i else nu.getD (i - m.n) undef, n := m.n + cs.length, bs := m.bs
    C := fun i => if i < m.n then m'.C i else cs.getD (i - m.n) (.box 0 [])
    R := fun i => if i < m.n then m'.R i else m'.R (vr.getD (i - m.n) 0)
    O := fun i => if i < m.n then m'.O i else m'.O (vr.getD (i - m.n) 0) }
section
variable {m m' : Mn E} {nu : List Value} {cs : List (HB E)} {vr : List Nat}
theorem Mn.hd_up (u : Up m m') : Up m (m.hd m' nu cs vr) :=
  ⟨u.g, Nat.le_add_right _ _, fun i hi => (if_pos hi).trans (u.ν i hi), Nat.le_refl _, fun _ _ => rfl, fun i hi => (if_pos hi).trans (u.c i hi), fun i hi => (if_pos hi).trans (u.r i hi), fun i hi => (if_pos hi).trans (u.o i hi)⟩
theorem hd_ν {j : Nat} {v : Value} (h : nu[j]? = some v) : (m.hd m' nu cs vr).ν (m.n + j) = v := by
  show (if m.n + j < m.n then _ else nu.getD (m.n + j - m.n) undef) = v
  rw [if_neg (by omega), Nat.add_sub_cancel_left, List.getD_eq_getElem?_getD, h]; rfl
theorem hd_C {j : Nat} {x : HB E} (h : cs[j]? = some x) : (m.hd m' nu cs vr).C (m.n + j) = x := by
  show (if m.n + j < m.n then _ else cs.getD (m.n + j - m.n) _) = x
  rw [if_neg (by omega), Nat.add_sub_cancel_left, List.getD_eq_getElem?_getD, h]; rfl
theorem hd_R {j k : Nat} (h : vr[j]? = some k) : (m.hd m' nu cs vr).R (m.n + j) = m'.R k := by
  show (if m.n + j < m.n then _ else m'.R (vr.getD (m.n + j - m.n) 0)) = _
  rw [if_neg (by omega), Nat.add_sub_cancel_left, List.getD_eq_getElem?_getD, h]; rfl
theorem hd_O {j k : Nat} (h : vr[j]? = some k) : (m.hd m' nu cs vr).O (m.n + j) = m'.O k := by
  show (if m.n + j < m.n then _ else m'.O (vr.getD (m.n + j - m.n) 0)) = _
  rw [if_neg (by omega), Nat.add_sub_cancel_left, List.getD_eq_getElem?_getD, h]; rfl
end
theorem ownE_flat {β : Type} {f g : Nat → List β} : ∀ {oe : List (Nat × Nat × HB E)} {xs : List (HB E)} {b : Nat}, xs.length = oe.length → (∀ j x, oe[j]? = some x → f (b + j) = g x.2.1) → (ownE b xs).flatMap (fun x => f x.2.1) = oe.flatMap (fun x => g x.2.1)
  | [], [], _, _, _ => rfl
  | [], _ :: _, _, h, _ => by simp at h
  | _ :: _, [], _, h, _ => by simp at h
  | o :: oe, x :: xs, b, h, hf => by
    simp only [ownE, List.flatMap_cons]
    rw [ownE_flat (b := b + 1) (oe := oe) (by simpa using h) fun j y hy => by rw [Nat.add_assoc, Nat.add_comm 1 j]; exact hf (j + 1) y (by simpa using hy), show f b = g o.2.1 from hf 0 o rfl]
theorem hkE_flat {β : Type} {f g : Nat → List β} : ∀ {he : List (Nat × Nat × HB E)} {ks : List Nat} {xs : List (HB E)} {b : Nat}, xs.length = he.length → ks.length = he.length → (∀ j x, he[j]? = some x → f (b + j) = g x.2.1) → (hkE b ks xs).flatMap (fun x => f x.2.1) = he.flatMap (fun x => g x.2.1)
  | [], [], [], _, _, _, _ => rfl
  | [], _ :: _, _, _, _, h, _ => by simp at h
  | [], _, _ :: _, _, h, _, _ => by simp at h
  | _ :: _, [], _, _, _, h, _ => by simp at h
  | _ :: _, _, [], _, h, _, _ => by simp at h
  | o :: he, k :: ks, x :: xs, b, h, h', hf => by
    simp only [hkE, List.flatMap_cons]
    rw [hkE_flat (b := b + 1) (he := he) (by simpa using h) (by simpa using h') fun j y hy => by rw [Nat.add_assoc, Nat.add_comm 1 j]; exact hf (j + 1) y (by simpa using hy), show f b = g o.2.1 from hf 0 o rfl]
theorem ownE_mem : ∀ {xs : List (HB E)} {b : Nat} {x : Nat × Nat × HB E}, x ∈ ownE b xs → ∃ j y, xs[j]? = some y ∧ x = (b + j, b + j, y)
  | [], _, _, h => by cases h
  | y :: r, b, x, h => by
    rcases List.mem_cons.1 h with rfl | h
    · exact ⟨0, y, rfl, rfl⟩
    · obtain ⟨j, z, h1, h2⟩ := ownE_mem h
      exact ⟨j + 1, z, by simpa using h1, by rw [h2, Nat.add_assoc, Nat.add_comm 1 j]⟩
theorem hkE_mem : ∀ {ks : List Nat} {xs : List (HB E)} {b : Nat} {x : Nat × Nat × HB E}, x ∈ hkE b ks xs → ∃ j id y, ks[j]? = some id ∧ xs[j]? = some y ∧ x = (id, b + j, y)
  | [], _, _, _, h => by cases h
  | _ :: _, [], _, _, h => by cases h
  | k :: ks, y :: r, b, x, h => by
    rcases List.mem_cons.1 h with rfl | h
    · exact ⟨0, k, y, rfl, rfl, rfl⟩
    · obtain ⟨j, id, z, h0, h1, h2⟩ := hkE_mem h
      exact ⟨j + 1, id, z, by simpa using h0, by simpa using h1, by rw [h2, Nat.add_assoc, Nat.add_comm 1 j]⟩
section
variable {w0 w w' : World} {G0 : Gh} {s0 s1 : St E} {m m' : Mn E} {e e' : Env}
theorem List.flatMap_congr_ {α β : Type} {f g : α → List β} : ∀ {l : List α}, (∀ x ∈ l, f x = g x) → l.flatMap f = l.flatMap g
  | [], _ => rfl
  | x :: r, h => by rw [List.flatMap_cons, List.flatMap_cons, h x List.mem_cons_self, List.flatMap_congr_ fun y hy => h y (List.mem_cons_of_mem _ hy)]
theorem Cx.gcast {G G' : Gh} {M : Mu} (h : Cx w0 G0 G w M) (e : G' = G) : Cx w0 G0 G' w M := e ▸ h
theorem Bxs.gcast {G G' : Gh} {M : Mu} {n : Nat} {bl : List Bx} (h : Bxs G w n bl M) (e : G' = G) : Bxs G' w n bl M := e ▸ h
theorem HB1.loc {n0 b : Nat} (hn0 : n0 ≤ b) {qs : List Nat} {m2 : Mn E} (n : Nm m2 m' b qs) (r : RelH w0 G0 s1 m' w') {x y : HB E} {v : Value} {bs : List Bx} {os : List (Nat × Obj)} (h : locH n0 s1 qs x = some y) (hx : HB1 m' x v bs os) : HB1 m2 (gloH b y) v bs os := by
  obtain ⟨_, _, _, _, hH⟩ := r.bx
  cases x with
  | box T c =>
    simp only [locH] at h
    split at h
    · rename_i k hk
      simp only [Option.some.injEq] at h; subst h
      obtain ⟨b', cs, h1, h2, h3, h4⟩ := hx
      have h5 := (RC.rsv hH h4).res
      rw [List.map_map, r.bs] at h5
      exact ⟨b', cs, h1, h2, h3, RC.locN hn0 n hk h5⟩
    · cases h
  | arr t el xs =>
    simp only [locH, Option.some.injEq] at h; subst h
    obtain ⟨o, h1, h2, h3, h4⟩ := hx
    exact ⟨o, h1, h2, h3.mono n.g, h4⟩
  | map k v xs =>
    simp only [locH, Option.some.injEq] at h; subst h
    obtain ⟨b', o, h1, h2, h3, h4⟩ := hx
    exact ⟨b', o, h1, h2, h3, h4.mono n.g⟩
  | itr mid ver kt k left =>
    simp only [locH] at h
    cases hc : Nat.blt mid n0 && Nat.blt ver n0 with
    | false => rw [hc] at h; cases h
    | true =>
      rw [hc] at h
      simp only [cond_true, Option.some.injEq] at h; subst h
      rw [Bool.and_eq_true] at hc
      have c1 : mid < b := Nat.lt_of_lt_of_le (Nat.le_of_ble_eq_true hc.1) hn0
      have c2 : ver < b := Nat.lt_of_lt_of_le (Nat.le_of_ble_eq_true hc.2) hn0
      obtain ⟨r', it, b', o, h1, h2, h3, h4, h5, h6, h7, h8⟩ := hx
      exact ⟨r', it, b', o, h1, h2, h3, Nat.lt_of_lt_of_le c1 n.l.1, Nat.lt_of_lt_of_le c2 n.l.1, (n.l.2 _ c1).1.trans h6, (n.l.2 _ c2).2.trans h7, h8⟩
  | cur mid ver kt k x left =>
    simp only [locH] at h
    cases hc : Nat.blt mid n0 && Nat.blt ver n0 with
    | false => rw [hc] at h; cases h
    | true =>
      rw [hc] at h
      simp only [cond_true, Option.some.injEq] at h; subst h
      rw [Bool.and_eq_true] at hc
      have c1 : mid < b := Nat.lt_of_lt_of_le (Nat.le_of_ble_eq_true hc.1) hn0
      have c2 : ver < b := Nat.lt_of_lt_of_le (Nat.le_of_ble_eq_true hc.2) hn0
      obtain ⟨r', it, b', o, h1, h2, h3, h4, h5, h6, h7, h8, _⟩ := hx
      exact ⟨r', it, b', o, h1, h2, h3, Nat.lt_of_lt_of_le c1 n.l.1, Nat.lt_of_lt_of_le c2 n.l.1, (n.l.2 _ c1).1.trans h6, (n.l.2 _ c2).2.trans h7, h8⟩
  | _ => simp [locH] at h
theorem head_ok {h : LH E} {qs0 : List Nat} {d : LD E} {wr : List Nat} {i : h.ι} (r0 : Rel w0 G0 s0 m e w) (u : Up m m') (r1 : Rel w0 G0 s1 m' e' w') (he : ∀ t, t ∉ wr → e' t = e t) (hd : ldat s0.n s1 h = some d) (hq0 : qs0.length = h.ow.length)
    (hf : frmOk (frm s0 qs0 h.hk) s1 d.qs h.hk = true) (hv : d.vs = h.sl i) (ho : d.os = h.ox i) (hb : d.bs = h.hc i) (hs : small wr = true) (hks : small h.ks = true) (hh0 : ∀ id ∈ h.hk, id < m.n) :
    ∃ m2 : Mn E, m2.G = m'.G ∧ Up m m2 ∧ Rel w0 G0 (head s0 qs0 h wr i) m2 e' w' := by
  unfold ldat at hd
  split at hd
  · rename_i qs hqs
    split at hd
    · rename_i oe hE vs hoe hhe hvs
      split at hd
      · rename_i os bs hos hbs
        simp only [Option.some.injEq] at hd; subst hd
        simp only at hv ho hb hf
        subst hv ho hb
        have hql := qsOf_len hqs
        obtain ⟨oe1, oe2⟩ := entsOf_ok hoe
        obtain ⟨he1, he2⟩ := entsOf_ok hhe
        obtain ⟨os1, os2⟩ := locHs_ok hos
        obtain ⟨bs1, bs2⟩ := locHs_ok hbs
        have loe : oe.length = qs.length := by rw [← oe1, List.length_map]
        have lhe : hE.length = h.hk.length := by rw [← he1, List.length_map]
        obtain ⟨bl1, L1, hC1, hB1, hH1⟩ := r1.bx
        obtain ⟨eb, eL, hE1⟩ := HR.iff.1 hH1
        obtain ⟨_, _, _, _, hH0⟩ := r0.bx
        obtain ⟨_, _, hE0⟩ := HR.iff.1 hH0
        have hn := r0.n
        -- the frame's entries are there still
        unfold frmOk at hf
        rw [Bool.and_eq_true] at hf
        have hfr : ∀ x ∈ frm s0 qs0 h.hk, x ∈ s1.hp := fun x hx => by
          have h1 := List.all_eq_true.1 hf.1 x hx
          rw [List.any_eq_true] at h1
          obtain ⟨y, hy, h2⟩ := h1
          rw [Bool.and_eq_true] at h2
          have e1 := Nat.eq_of_beq_eq_true h2.1
          have e2 := Nat.eq_of_beq_eq_true h2.2
          have k0 := hE0 x (List.mem_filter.1 hx).1
          have k1 := hE1 y hy
          have e3 : x.2.2 = y.2.2 := by
            have := u.c _ k0.2.1
            rw [k0.2.2.1, e2, k1.2.2.1] at this
            exact this.symm
          have : x = y := by
            obtain ⟨a, b, c⟩ := x; obtain ⟨a', b', c'⟩ := y
            simp only at e1 e2 e3; rw [e1, e2, e3]
          rw [this]; exact hy
        obtain ⟨rest, hperm⟩ := sub_perm (f := fun x : Nat × Nat × HB E => x.1) (a := oe ++ (hE ++ frm s0 qs0 h.hk)) (b := s1.hp)
          (by rw [List.map_append, List.map_append, oe1, he1]; exact nodB_ok hf.2)
          (fun x hx => by
            rcases List.mem_append.1 hx with hx | hx
            · exact oe2 x hx
            · rcases List.mem_append.1 hx with hx | hx
              · exact he2 x hx
              · exact hfr x hx)
        have p1 := flat_perm (fun x => m'.R x.2.1) hperm
        have p2 := flat_perm (fun x => m'.O x.2.1) hperm
        rw [List.flatMap_append] at p1 p2
        obtain ⟨hC2, hB2⟩ := mem_sub hC1 hB1 (by rw [eb]; exact p1) (by rw [eL]; exact p2)
        -- the names
        refine ⟨m.hd m' (qs.map m'.ν) ((h.ox i ++ h.hc i).map (gloH m.n)) (oe.map (·.2.1) ++ hE.map (·.2.1)), rfl, Mn.hd_up u, ?_⟩
        generalize hm2 : m.hd m' (qs.map m'.ν) ((h.ox i ++ h.hc i).map (gloH m.n)) (oe.map (·.2.1) ++ hE.map (·.2.1)) = m2
        have u2 : Up m m2 := by rw [← hm2]; exact Mn.hd_up u
        have hnm : Nm m2 m' m.n qs := ⟨fun b o hbo => by rw [← hm2]; exact hbo, fun j q hj => by
          have hlt := (List.getElem?_eq_some_iff.1 hj).1
          rw [← hm2]
          refine ⟨?_, hd_ν (by simp [hj])⟩
          show m.n + j < m.n + ((h.ox i ++ h.hc i).map (gloH m.n)).length
          simp only [List.length_map, List.length_append]; omega, by
          rw [← hm2]
          exact ⟨Nat.le_add_right _ _, fun i hi => ⟨if_pos hi, if_pos hi⟩⟩⟩
        have hRo : ∀ j x, oe[j]? = some x → m2.R (m.n + j) = m'.R x.2.1 ∧ m2.O (m.n + j) = m'.O x.2.1 := fun j x hj => by
          have hlt := (List.getElem?_eq_some_iff.1 hj).1
          have : (oe.map (·.2.1) ++ hE.map (·.2.1))[j]? = some x.2.1 := by rw [List.getElem?_append_left (by simpa using hlt)]; simp [hj]
          rw [← hm2]; exact ⟨hd_R this, hd_O this⟩
        have hRh : ∀ j x, hE[j]? = some x → m2.R (m.n + qs.length + j) = m'.R x.2.1 ∧ m2.O (m.n + qs.length + j) = m'.O x.2.1 := fun j x hj => by
          have : (oe.map (·.2.1) ++ hE.map (·.2.1))[qs.length + j]? = some x.2.1 := by rw [List.getElem?_append_right (by simp [loe])]; simp [hj, loe]
          rw [← hm2, Nat.add_assoc]; exact ⟨hd_R this, hd_O this⟩
        have hCo : ∀ j y, (h.ox i)[j]? = some y → m2.C (m.n + j) = gloH m.n y := fun j y hj => by
          have hlt := (List.getElem?_eq_some_iff.1 hj).1
          rw [← hm2]; refine hd_C ?_
          rw [List.map_append, List.getElem?_append_left (by simpa using hlt)]; simp [hj]
        have hCh : ∀ j y, (h.hc i)[j]? = some y → m2.C (m.n + qs.length + j) = gloH m.n y := fun j y hj => by
          rw [← hm2, Nat.add_assoc]; refine hd_C ?_
          rw [List.map_append, List.getElem?_append_right (by simp [os1, loe])]; simp [hj, os1, loe]
        have hm2n : m2.n = m.n + (qs.length + h.hk.length) := by
          rw [← hm2]; show m.n + ((h.ox i ++ h.hc i).map (gloH m.n)).length = _
          simp only [List.length_map, List.length_append, os1, bs1, loe, lhe]
        refine ⟨⟨⟨_, _, Cx.gcast hC2 (by rw [← hm2]; rfl), Bxs.gcast hB2 (by rw [← hm2]; rfl), HR.iff.2 ⟨?_, ?_, fun x hx => ?_⟩⟩, ?_, ?_⟩, fun t x ht => ?_⟩
        · show _ = List.flatMap _ (ownE s0.n _ ++ (hkE _ _ _ ++ frm s0 qs0 h.hk))
          rw [List.flatMap_append, List.flatMap_append, List.flatMap_append, List.flatMap_append, ← hn, hq0, ← hql]
          congr 1
          · exact (ownE_flat (by simp [os1]) fun j x hj => (hRo j x hj).1).symm
          · congr 1
            · exact (hkE_flat (by simp [bs1]) (by simp [lhe]) fun j x hj => (hRh j x hj).1).symm
            · exact List.flatMap_congr_ fun x hx => by rw [u2.r _ (hE0 x (List.mem_filter.1 hx).1).2.1, u.r _ (hE0 x (List.mem_filter.1 hx).1).2.1]
        · show _ = List.flatMap _ (ownE s0.n _ ++ (hkE _ _ _ ++ frm s0 qs0 h.hk))
          rw [List.flatMap_append, List.flatMap_append, List.flatMap_append, List.flatMap_append, ← hn, hq0, ← hql]
          congr 1
          · exact (ownE_flat (by simp [os1]) fun j x hj => (hRo j x hj).2).symm
          · congr 1
            · exact (hkE_flat (by simp [bs1]) (by simp [lhe]) fun j x hj => (hRh j x hj).2).symm
            · exact List.flatMap_congr_ fun x hx => by rw [u2.o _ (hE0 x (List.mem_filter.1 hx).1).2.1, u.o _ (hE0 x (List.mem_filter.1 hx).1).2.1]
        · have hx : x ∈ ownE s0.n ((h.ox i).map (gloH s0.n)) ++ (hkE (s0.n + qs0.length) h.hk ((h.hc i).map (gloH s0.n)) ++ frm s0 qs0 h.hk) := hx
          rw [← hn, hq0, ← hql] at hx
          rcases List.mem_append.1 hx with hx | hx
          · obtain ⟨j, y, h1, rfl⟩ := ownE_mem hx
            rw [List.getElem?_map] at h1
            obtain ⟨y', h2, rfl⟩ := Option.map_eq_some_iff.1 h1
            have hlt := (List.getElem?_eq_some_iff.1 h2).1
            have hlt2 : j < oe.length := by omega
            obtain ⟨y2, h3, h4⟩ := os2 j oe[j] (List.getElem?_eq_getElem hlt2)
            rw [h2] at h3; simp only [Option.some.injEq] at h3; subst h3
            have hqj : qs[j]? = some oe[j].1 := by rw [← oe1, List.getElem?_map, List.getElem?_eq_getElem hlt2]; rfl
            obtain ⟨n1, n2⟩ := hnm.q j _ hqj
            have hk := hE1 _ (oe2 _ (List.getElem_mem hlt2))
            obtain ⟨q1, q2⟩ := hRo j _ (List.getElem?_eq_getElem hlt2)
            exact ⟨n1, n1, hCo j _ h2, by simp only []; rw [n2, q1, q2]; exact HB1.loc (Nat.le_of_eq hn.symm) hnm r1.toRelH h4 hk.2.2.2⟩
          · rcases List.mem_append.1 hx with hx | hx
            · obtain ⟨j, id, y, h0, h1, rfl⟩ := hkE_mem hx
              rw [List.getElem?_map] at h1
              obtain ⟨y', h2, rfl⟩ := Option.map_eq_some_iff.1 h1
              have hlt := (List.getElem?_eq_some_iff.1 h2).1
              have hlt2 : j < hE.length := by omega
              obtain ⟨y2, h3, h4⟩ := bs2 j hE[j] (List.getElem?_eq_getElem hlt2)
              rw [h2] at h3; simp only [Option.some.injEq] at h3; subst h3
              have hid : id = hE[j].1 := by
                have : h.hk[j]? = some hE[j].1 := by rw [← he1, List.getElem?_map, List.getElem?_eq_getElem hlt2]; rfl
                rw [h0] at this; exact Option.some.inj this
              have hk := hE1 _ (he2 _ (List.getElem_mem hlt2))
              obtain ⟨q1, q2⟩ := hRh j _ (List.getElem?_eq_getElem hlt2)
              have hidlt : id < m.n := hh0 id (List.mem_of_getElem? h0)
              refine ⟨Nat.lt_of_lt_of_le hidlt u2.n, ?_, hCh j _ h2, ?_⟩
              · simp only []; omega
              · simp only []
                rw [q1, q2, u2.ν _ hidlt, ← u.ν _ hidlt, hid]
                exact HB1.loc (Nat.le_of_eq hn.symm) hnm r1.toRelH h4 hk.2.2.2
            · exact (hE0 x (List.mem_filter.1 hx).1).up u2
        · rw [hm2n, hn]; show _ = s0.n + (qs0.length + h.hk.length); rw [hq0, ← hql]
        · rw [← hm2]; exact r0.bs
        · rcases get_puts _ _ _ _ (fun x hx => Nat.le_of_ble_eq_true (List.all_eq_true.1 hks _ (zip_fst (t := x.1) (x := x.2) hx))) ht with h1 | h1
          · obtain ⟨y, z, h2, h3, rfl⟩ := hld_ok hvs h1
            obtain ⟨v, h4, h5⟩ := r1.sl t y h2
            refine ⟨v, h4, ?_⟩
            have h6 := (RV.rsv hH1 h5).res
            rw [r1.bs] at h6
            rw [← hn]; exact RV.loc hnm h3 h6
          · obtain ⟨h2, h3⟩ := get_clear _ _ _ _ hs h1
            obtain ⟨v, h4, h5⟩ := r0.sl t x h3
            exact ⟨v, by rw [he t h2]; exact h4, h5.up u2⟩
      · cases hd
    · cases hd
  · cases hd
end
end Go.Vz
