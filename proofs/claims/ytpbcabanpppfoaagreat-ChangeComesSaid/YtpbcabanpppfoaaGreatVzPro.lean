/- Walks by reckoning: promises over what lies in memory. No condition. -/
import Derived.Test.YtpbcabanpppfoaaGreatVzObj
set_option linter.all false
namespace Go.Vz
open Go Go.Gx
variable {E : DE} {P : Program} (F : DF E)
/-- A promise over entries: on such arguments and contents, if so, it returns that and leaves those. -/
structure OCon (E : DE) where
  ash : List CS
  es : List ES
  rsh : List CS
  pes : List ES
  pre : Option (CL E ash → EL E es → Prop) := none
  post : CL E ash → EL E es → CL E rsh × EL E pes
def OCon.holds (c : OCon E) (a : CL E c.ash) (e : EL E c.es) : Prop := match c.pre with | none => True | some p => p a e
def opnEs (es0 : List ES) (ρ : List Nat) : (es : List ES) → EL E es → List (HB E)
  | [], _ => []
  | e :: r, x => opnE F es0 ρ e x.1 :: opnEs es0 ρ r x.2
/-! ### Names found -/
def nmId : SV E → Option Nat
  | .ptr id _ => some id
  | .mp id => some id
  | .own id => some id
  | _ => none
def findA (j : Nat) : List CS → List (SV E) → Option Nat
  | .nm i _ :: r, x :: c => bif Nat.beq i j then nmId x else findA j r c
  | .dat _ :: r, _ :: c => findA j r c
  | _, _ => none
def findC (j : Nat) : List CS → List (SV E) → Option Nat
  | .nm i _ :: r, x :: c => bif Nat.beq i j then nmId x else findC j r c
  | .dat t :: r, c => match dropW (Ty.sz (E := E) t) c with | some b => findC j r b | none => none
  | _, _ => none
def findE (s : St E) (j : Nat) : List ES → List Nat → Option Nat
  | .box _ l :: r, id :: ρ => match hget s.hp id with
    | some (_, .box _ c) => match findC j l c with | some q => some q | none => findE s j r ρ
    | _ => findE s j r ρ
  | _ :: r, _ :: ρ => findE s j r ρ
  | _, _ => none
/-- The names of entries; fx: the first ones keep theirs. -/
def rho (s : St E) (as : List CS) (l : List (SV E)) (es : List ES) (fx : Nat) : Nat → List Nat → Option (List Nat)
  | 0, ρ => some ρ
  | n + 1, ρ => match findA ρ.length as l with
    | some id => rho s as l es fx n (ρ ++ [id])
    | none => match findE s ρ.length es ρ with
      | some id => rho s as l es fx n (ρ ++ [id])
      | none => bif Nat.blt ρ.length fx then rho s as l es fx n (ρ ++ [ρ.length]) else none
/-! ### What is data is let stay -/
def frzC (s : St E) : List CS → List (SV E) → Option (St E)
  | [], _ => some s
  | .dat t :: r, c => match takeW (Ty.sz (E := E) t) c, dropW (Ty.sz (E := E) t) c with
    | some a, some b => match frzL s a with | some s1 => frzC s1 r b | none => none
    | _, _ => none
  | .nm _ _ :: r, c => match c with | _ :: c => frzC s r c | [] => none
def frzA (s : St E) : List CS → List (SV E) → Option (St E)
  | .dat _ :: r, x :: c => match frz s x with | some s1 => frzA s1 r c | none => none
  | .nm _ _ :: r, _ :: c => frzA s r c
  | _, _ => some s
def frzE (s : St E) : List ES → List Nat → Option (St E)
  | .box _ l :: r, id :: ρ => match hget s.hp id with
    | some (_, .box _ c) => match frzC s l c with | some s1 => frzE s1 r ρ | none => none
    | _ => none
  | _ :: r, _ :: ρ => frzE s r ρ
  | _, _ => some s
section
variable {w0 w : World} {G0 : Gh} {s s' : St E} {m : Mn E}
theorem frzC_ok : ∀ {l : List CS} {c : List (SV E)} {s s' : St E} {m : Mn E}, RelH w0 G0 s m w → frzC s l c = some s' → ∃ m', Up m m' ∧ RelH w0 G0 s' m' w ∧ s'.sl = s.sl ∧ s'.bs = s.bs
  | [], _, s, s', m, r, h => by simp only [frzC, Option.some.injEq] at h; subst h; exact ⟨m, Up.refl m, r, rfl, rfl⟩
  | .dat t :: l, c, s, s', m, r, h => by
    simp only [frzC] at h
    split at h
    · split at h
      · rename_i s1 h1
        obtain ⟨m1, u1, r1, e1, e2⟩ := frzL_ok r h1
        obtain ⟨m2, u2, r2, e3, e4⟩ := frzC_ok r1 h
        exact ⟨m2, u1.trans u2, r2, e3.trans e1, e4.trans e2⟩
      · cases h
    · cases h
  | .nm _ _ :: l, [], s, s', m, r, h => by simp [frzC] at h
  | .nm _ _ :: l, _ :: c, s, s', m, r, h => by simp only [frzC] at h; exact frzC_ok r h
theorem frzA_ok : ∀ {l : List CS} {c : List (SV E)} {s s' : St E} {m : Mn E}, RelH w0 G0 s m w → frzA s l c = some s' → ∃ m', Up m m' ∧ RelH w0 G0 s' m' w ∧ s'.sl = s.sl ∧ s'.bs = s.bs
  | [], _, s, s', m, r, h => by simp only [frzA, Option.some.injEq] at h; subst h; exact ⟨m, Up.refl m, r, rfl, rfl⟩
  | .dat _ :: l, [], s, s', m, r, h => by simp only [frzA, Option.some.injEq] at h; subst h; exact ⟨m, Up.refl m, r, rfl, rfl⟩
  | .nm _ _ :: l, [], s, s', m, r, h => by simp only [frzA, Option.some.injEq] at h; subst h; exact ⟨m, Up.refl m, r, rfl, rfl⟩
  | .dat t :: l, x :: c, s, s', m, r, h => by
    simp only [frzA] at h
    split at h
    · rename_i s1 h1
      obtain ⟨m1, u1, r1, e1, e2⟩ := frz_ok r h1
      obtain ⟨m2, u2, r2, e3, e4⟩ := frzA_ok r1 h
      exact ⟨m2, u1.trans u2, r2, e3.trans e1, e4.trans e2⟩
    · cases h
  | .nm _ _ :: l, _ :: c, s, s', m, r, h => by simp only [frzA] at h; exact frzA_ok r h
theorem frzE_ok : ∀ {l : List ES} {c : List Nat} {s s' : St E} {m : Mn E}, RelH w0 G0 s m w → frzE s l c = some s' → ∃ m', Up m m' ∧ RelH w0 G0 s' m' w ∧ s'.sl = s.sl ∧ s'.bs = s.bs
  | [], _, s, s', m, r, h => by simp only [frzE, Option.some.injEq] at h; subst h; exact ⟨m, Up.refl m, r, rfl, rfl⟩
  | .box _ l :: es, [], s, s', m, r, h => by simp only [frzE, Option.some.injEq] at h; subst h; exact ⟨m, Up.refl m, r, rfl, rfl⟩
  | .map _ _ :: es, [], s, s', m, r, h => by simp only [frzE, Option.some.injEq] at h; subst h; exact ⟨m, Up.refl m, r, rfl, rfl⟩
  | .arr _ _ :: es, [], s, s', m, r, h => by simp only [frzE, Option.some.injEq] at h; subst h; exact ⟨m, Up.refl m, r, rfl, rfl⟩
  | .box _ l :: es, id :: c, s, s', m, r, h => by
    simp only [frzE] at h
    split at h
    · split at h
      · rename_i s1 h1
        obtain ⟨m1, u1, r1, e1, e2⟩ := frzC_ok r h1
        obtain ⟨m2, u2, r2, e3, e4⟩ := frzE_ok r1 h
        exact ⟨m2, u1.trans u2, r2, e3.trans e1, e4.trans e2⟩
      · cases h
    · cases h
  | .map _ _ :: es, _ :: c, s, s', m, r, h => by simp only [frzE] at h; exact frzE_ok r h
  | .arr _ _ :: es, _ :: c, s, s', m, r, h => by simp only [frzE] at h; exact frzE_ok r h
end
/-! ### A call -/
def ocPre (c : OCon E) (s : St E) (l : List (SV E)) : Option (St E × List Nat × CL E c.ash × EL E c.es) := match rho s c.ash l c.es 0 c.es.length [] with
  | some ρ => match frzA s c.ash l with
    | some s1 => match frzE s1 c.es ρ with
      | some s2 => match entsOf s2 ρ with
        | some oe => bif nodB (ρ ++ (frm s2 ρ []).map fun x => x.1) then match shutA F s2.bs c.es ρ c.ash (l.map (rsv s2.hp)), shutEs F s2 c.es ρ c.es oe with
            | some a, some e => some (s2, ρ, a, e)
            | _, _ => none
          else none
        | none => none
      | none => none
    | none => none
  | none => none
/-- Where the callee begins. -/
def ocS (c : OCon E) (e : EL E c.es) : St E :=
  { hp := hkE 0 (List.range c.es.length) (opnEs F c.es (List.range c.es.length) c.es e) ++ [(c.es.length, c.es.length, .oth)], n := c.es.length + 1 }
def gam (n0 : Nat) (ρ : List Nat) : List ES → Nat → List Nat
  | [], _ => []
  | .arr _ _ :: r, j => (n0 + j) :: gam n0 ρ r (j + 1)
  | _ :: r, j => (match ρ[j]? with | some id => id | none => n0 + j) :: gam n0 ρ r (j + 1)
def fixB (k : Nat) : List ES → List Nat → Nat → Bool
  | [], [], _ => true
  | .arr _ _ :: r, _ :: l, j => fixB k r l (j + 1)
  | _ :: r, i :: l, j => (Nat.ble k j || Nat.beq i j) && fixB k r l (j + 1)
  | _, _, _ => false
/-- Where the caller goes on. -/
def ocPost (c : OCon E) (s : St E) (ρ : List Nat) (p : EL E c.pes) : St E :=
  { s with hp := hkE s.n (gam s.n ρ c.pes 0) (opnEs F c.pes (gam s.n ρ c.pes 0) c.pes p) ++ frm s ρ [], n := s.n + c.pes.length }
def ocRes (c : OCon E) (s : St E) (ρ : List Nat) (p : CL E c.rsh) : SV E := match opnA F c.pes (gam s.n ρ c.pes 0) c.rsh p with
  | [x] => x
  | l => .tup l
def comps (rsh : List CS) (x : SV E) : Option (List (SV E)) := match rsh with
  | [_] => match x with | .tup _ => none | x => some [x]
  | _ => match x with | .tup l => some l | _ => none
/-- A result, and what it leaves, as data. -/
def finO (c : OCon E) (s : St E) (x : SV E) : Option (CL E c.rsh × EL E c.pes) := match comps c.rsh x with
  | some l => match rho s c.rsh l c.pes c.es.length c.pes.length [] with
    | some ρ => match frzA s c.rsh l with
      | some s1 => match frzE s1 c.pes ρ with
        | some s2 => match entsOf s2 ρ, hget s2.hp c.es.length with
          | some oe, some (q, .oth) => bif nodB (ρ ++ [c.es.length]) && (Nat.beq q c.es.length && fixB c.es.length c.pes ρ 0) then
              match shutA F s2.bs c.pes ρ c.rsh (l.map (rsv s2.hp)), shutEs F s2 c.pes ρ c.pes oe with
              | some a, some e => some (a, e)
              | _, _ => none
            else none
          | _, _ => none
        | none => none
      | none => none
    | none => none
  | none => none
/-- It is kept. -/
def OCon.ok (P : Program) (f : Nat) (c : OCon E) : Prop := ∀ (a : CL E c.ash) (e : EL E c.es) (w0 : World) (G0 : Gh) (m : Mn E) (w : World) (vs : List Value), c.holds a e → RelH w0 G0 (ocS F c e) m w → LV m (opnA F c.es (List.range c.es.length) c.ash a) vs →
  Calls P f vs.toArray w fun x w' => ∃ v, x = .returned v ∧ ∃ s' m' y, Up m m' ∧ RelH w0 G0 s' m' w' ∧ RV m' y v ∧ finO F c s' y = some (c.post a e)
def oconH (Δ : Nat → Option (OCon E)) (els : CallH E) : CallH E := fun f l s K => match Δ f with
  | some c => match ocPre F c s l with
    | some (s1, ρ, a, e) => match c.pre with
      | none => K (ocPost F c s1 ρ (c.post a e).2) (ocRes F c s1 ρ (c.post a e).1)
      | some p => Pre (p a e) ∧ K (ocPost F c s1 ρ (c.post a e).2) (ocRes F c s1 ρ (c.post a e).1)
    | none => No f
  | none => els f l s K
variable {F}
theorem shutEs_ok {s : St E} {m m2 : Mn E} {ρ ρ2 : List Nat} {es0 : List ES} {bl : List Bx} {Q : List (Nat × Obj)} (n : NR m ρ m2 ρ2) (hH : HR m s.hp bl Q) (hb : m.bs = s.bs) : ∀ {es : List ES} {l : List (Nat × Nat × HB E)} {p : EL E es}, shutEs F s es0 ρ es l = some p →
    l.length = es.length ∧ (opnEs F es0 ρ2 es p).length = es.length ∧ ∀ (i : Nat) (x : Nat × Nat × HB E), l[i]? = some x → ∃ y, (opnEs F es0 ρ2 es p)[i]? = some y ∧ ∀ v bs os, HB1 m x.2.2 v bs os → HB1 m2 y v bs os
  | [], [], _, _ => ⟨rfl, rfl, fun i x h => by simp at h⟩
  | [], _ :: _, _, h => by simp [shutEs] at h
  | _ :: _, [], _, h => by simp [shutEs] at h
  | e :: es, x :: l, p, h => by
    simp only [shutEs] at h
    split at h
    · rename_i a b ha hb'
      simp only [Option.some.injEq] at h; subst h
      obtain ⟨h1, h2, h3⟩ := shutEs_ok n hH hb hb'
      refine ⟨by simp [h1], by simp [opnEs, h2], fun i z hz => ?_⟩
      cases i with
      | zero =>
        simp only [List.getElem?_cons_zero, Option.some.injEq] at hz; subst hz
        exact ⟨_, rfl, fun v bs os hx => shutE_ok n hH hb ha hx⟩
      | succ i => simpa [opnEs] using h3 i z (by simpa using hz)
    · cases h
theorem gam_len {n0 : Nat} {ρ : List Nat} : ∀ {pes : List ES} {j : Nat}, (gam n0 ρ pes j).length = pes.length
  | [], _ => rfl
  | .box _ _ :: r, j => by simp [gam, gam_len (pes := r)]
  | .map _ _ :: r, j => by simp [gam, gam_len (pes := r)]
  | .arr _ _ :: r, j => by simp [gam, gam_len (pes := r)]
theorem gam_ok {n0 : Nat} {ρ : List Nat} : ∀ {pes : List ES} {l : List Nat} {j : Nat}, fixB ρ.length pes l j = true → ∀ (i id : Nat), l[i]? = some id → ∃ id2, (gam n0 ρ pes j)[i]? = some id2 ∧ (id2 = n0 + (j + i) ∨ (id = j + i ∧ ρ[j + i]? = some id2))
  | [], [], _, _, i, id, h => by simp at h
  | [], _ :: _, _, h, _, _, _ => by simp [fixB] at h
  | .box _ _ :: _, [], _, h, _, _, _ => by simp [fixB] at h
  | .map _ _ :: _, [], _, h, _, _, _ => by simp [fixB] at h
  | .arr _ _ :: _, [], _, h, _, _, _ => by simp [fixB] at h
  | .arr _ _ :: r, q :: l, j, h, i, id, hi => by
    cases i with
    | zero => exact ⟨n0 + j, rfl, .inl rfl⟩
    | succ i =>
      obtain ⟨id2, h1, h2⟩ := gam_ok (n0 := n0) (show fixB ρ.length r l (j + 1) = true from h) i id (by simpa using hi)
      exact ⟨id2, by simpa [gam] using h1, by rw [show j + (i + 1) = j + 1 + i by omega]; exact h2⟩
  | .box T cl :: r, q :: l, j, h, i, id, hi => by
    simp only [fixB, Bool.and_eq_true, Bool.or_eq_true] at h
    cases i with
    | zero =>
      simp only [List.getElem?_cons_zero, Option.some.injEq] at hi; subst hi
      cases hj : ρ[j]? with
      | none => exact ⟨n0 + j, by simp [gam, hj], .inl rfl⟩
      | some id2 =>
        refine ⟨id2, by simp [gam, hj], .inr ⟨?_, by simpa using hj⟩⟩
        have := (List.getElem?_eq_some_iff.1 hj).1
        rcases h.1 with h1 | h1
        · have := Nat.le_of_ble_eq_true h1; omega
        · exact Nat.eq_of_beq_eq_true h1
    | succ i =>
      obtain ⟨id2, h1, h2⟩ := gam_ok (n0 := n0) h.2 i id (by simpa using hi)
      exact ⟨id2, by simpa [gam] using h1, by rw [show j + (i + 1) = j + 1 + i by omega]; exact h2⟩
  | .map T cl :: r, q :: l, j, h, i, id, hi => by
    simp only [fixB, Bool.and_eq_true, Bool.or_eq_true] at h
    cases i with
    | zero =>
      simp only [List.getElem?_cons_zero, Option.some.injEq] at hi; subst hi
      cases hj : ρ[j]? with
      | none => exact ⟨n0 + j, by simp [gam, hj], .inl rfl⟩
      | some id2 =>
        refine ⟨id2, by simp [gam, hj], .inr ⟨?_, by simpa using hj⟩⟩
        have := (List.getElem?_eq_some_iff.1 hj).1
        rcases h.1 with h1 | h1
        · have := Nat.le_of_ble_eq_true h1; omega
        · exact Nat.eq_of_beq_eq_true h1
    | succ i =>
      obtain ⟨id2, h1, h2⟩ := gam_ok (n0 := n0) h.2 i id (by simpa using hi)
      exact ⟨id2, by simpa [gam] using h1, by rw [show j + (i + 1) = j + 1 + i by omega]; exact h2⟩
/-! ### Soundness -/
/-- What the callee calls things. -/
def Mn.sub (m : Mn E) (oe : List (Nat × Nat × HB E)) (cs : List (HB E)) (rest : List (Nat × Nat × HB E)) : Mn E :=
  { G := m.G, n := oe.length + 1, bs := [], ν := fun i => match oe[i]? with | some x => m.ν x.1 | none => undef, C := fun i => cs.getD i .oth
    R := fun i => match oe[i]? with | some x => m.R x.2.1 | none => rest.flatMap fun x => m.R x.2.1
    O := fun i => match oe[i]? with | some x => m.O x.2.1 | none => rest.flatMap fun x => m.O x.2.1 }
/-- What the caller calls them behind it. -/
def Mn.back (m m3 : Mn E) (oe : List (Nat × Nat × HB E)) (cs : List (HB E)) : Mn E :=
  { G := m3.G, n := m.n + oe.length, bs := m.bs, ν := fun i => if i < m.n then m.ν i else match oe[i - m.n]? with | some x => m3.ν x.1 | none => undef
    C := fun i => if i < m.n then m.C i else cs.getD (i - m.n) .oth
    R := fun i => if i < m.n then m.R i else match oe[i - m.n]? with | some x => m3.R x.2.1 | none => []
    O := fun i => if i < m.n then m.O i else match oe[i - m.n]? with | some x => m3.O x.2.1 | none => [] }
section
variable {w0 w w' : World} {G0 : Gh} {s s3 : St E} {m m2 m3 : Mn E} {ρ ρ3 : List Nat} {oe oe3 : List (Nat × Nat × HB E)} {c : OCon E}
theorem get_range {k j : Nat} (h : j < k) : (List.range k)[j]? = some j := List.getElem?_range h
theorem sub_ok (r : RelH w0 G0 s m w) (hoe : entsOf s ρ = some oe) (hn : nodB (ρ ++ (frm s ρ []).map fun x => x.1) = true) {e : EL E c.es} (hk : ρ.length = c.es.length) (he : shutEs F s c.es ρ c.es oe = some e) :
    NR m ρ (m.sub oe (opnEs F c.es (List.range c.es.length) c.es e) (frm s ρ [])) (List.range c.es.length) ∧
      RelH w0 G0 (ocS F c e) (m.sub oe (opnEs F c.es (List.range c.es.length) c.es e) (frm s ρ [])) w := by
  obtain ⟨o1, o2⟩ := entsOf_ok hoe
  have hl : oe.length = c.es.length := by rw [← hk, ← o1, List.length_map]
  generalize hcs : opnEs F c.es (List.range c.es.length) c.es e = cs
  generalize hm2 : m.sub oe cs (frm s ρ []) = m2
  have hν : ∀ j x, oe[j]? = some x → m2.ν j = m.ν x.1 ∧ m2.R j = m.R x.2.1 ∧ m2.O j = m.O x.2.1 := fun j x hj => by
    rw [← hm2]; simp only [Mn.sub, hj, and_self]
  have hN : m2.n = c.es.length + 1 := by rw [← hm2, ← hl]; rfl
  have hNR : NR m ρ m2 (List.range c.es.length) := ⟨fun b o h => by rw [← hm2]; exact h, fun j id hj => by
    have hlt := (List.getElem?_eq_some_iff.1 hj).1
    have hlt2 : j < oe.length := by omega
    refine ⟨j, get_range (by omega), by omega, ?_⟩
    have := (hν j _ (List.getElem?_eq_getElem hlt2)).1
    rw [this]
    rw [← o1, List.getElem?_map, List.getElem?_eq_getElem hlt2] at hj
    simpa using congrArg m.ν (Option.some.inj hj)⟩
  refine ⟨hNR, ?_⟩
  obtain ⟨bl, L, hC, hB, hH⟩ := r.bx
  obtain ⟨eb, eL, hE⟩ := HR.iff.1 hH
  obtain ⟨h1, h2, h3⟩ := shutEs_ok hNR hH r.bs he
  rw [hcs] at h2 h3
  obtain ⟨rest, hperm⟩ := sub_perm (f := fun x : Nat × Nat × HB E => x.1) (a := oe ++ frm s ρ []) (b := s.hp) (by
      rw [List.map_append, o1]; exact nodB_ok hn) (fun x hx => by
      rcases List.mem_append.1 hx with hx | hx
      · exact o2 x hx
      · exact (List.mem_filter.1 hx).1)
  have p1 := flat_perm (fun x => m.R x.2.1) hperm
  have p2 := flat_perm (fun x => m.O x.2.1) hperm
  rw [List.flatMap_append] at p1 p2
  obtain ⟨hC2, hB2⟩ := mem_sub hC hB (by rw [eb]; exact p1) (by rw [eL]; exact p2)
  refine ⟨⟨_, _, Cx.gcast hC2 (by rw [← hm2]; rfl), Bxs.gcast hB2 (by rw [← hm2]; rfl), HR.iff.2 ⟨?_, ?_, fun x hx => ?_⟩⟩, ?_, ?_⟩
  · show _ = List.flatMap _ (hkE 0 _ _ ++ _)
    rw [hcs, List.flatMap_append, List.flatMap_append]
    congr 1
    · refine (hkE_flat (g := m.R) (by rw [h2, hl]) (by simp [hl]) fun j x hj => ?_).symm
      rw [Nat.zero_add]; exact (hν j x hj).2.1
    · rw [← hl, ← hm2]
      simp [Mn.sub]
  · show _ = List.flatMap _ (hkE 0 _ _ ++ _)
    rw [hcs, List.flatMap_append, List.flatMap_append]
    congr 1
    · refine (hkE_flat (g := m.O) (by rw [h2, hl]) (by simp [hl]) fun j x hj => ?_).symm
      rw [Nat.zero_add]; exact (hν j x hj).2.2
    · rw [← hl, ← hm2]
      simp [Mn.sub]
  · have hx : x ∈ hkE 0 (List.range c.es.length) cs ++ [(c.es.length, c.es.length, .oth)] := by rw [← hcs]; exact hx
    rcases List.mem_append.1 hx with hx | hx
    · obtain ⟨j, id, y, g1, g2, rfl⟩ := hkE_mem hx
      have hlt := (List.getElem?_eq_some_iff.1 g2).1
      have hlt2 : j < oe.length := by omega
      obtain rfl : id = j := by rw [get_range (by omega)] at g1; exact (Option.some.inj g1).symm
      obtain ⟨y', g3, g4⟩ := h3 id _ (List.getElem?_eq_getElem hlt2)
      rw [g2] at g3; injection g3 with g3; subst g3
      obtain ⟨q1, q2, q3⟩ := hν id _ (List.getElem?_eq_getElem hlt2)
      have hk := hE _ (o2 _ (List.getElem_mem hlt2))
      refine ⟨by show id < m2.n; omega, by show 0 + id < m2.n; omega, ?_, ?_⟩
      · rw [← hm2]; show cs.getD (0 + id) .oth = y
        rw [Nat.zero_add, List.getD_eq_getElem?_getD, g2]; rfl
      · show HB1 m2 y (m2.ν id) (m2.R (0 + id)) (m2.O (0 + id))
        rw [Nat.zero_add, q1, q2, q3]; exact g4 _ _ _ hk.2.2.2
    · rw [List.mem_singleton] at hx; subst hx
      refine ⟨by show c.es.length < m2.n; omega, by show c.es.length < m2.n; omega, ?_, trivial⟩
      rw [← hm2]; show cs.getD c.es.length .oth = .oth
      rw [List.getD_eq_getElem?_getD, List.getElem?_eq_none (by omega)]; rfl
  · rw [hN]; rfl
  · rw [← hm2]; rfl
/-- What the caller knows behind a call. -/
theorem back_ok (r : RelH w0 G0 s m w) (hoe : entsOf s ρ = some oe) (hk : ρ.length = c.es.length) {cs0 : List (HB E)} (u : Up (m.sub oe cs0 (frm s ρ [])) m3) (r3 : RelH w0 G0 s3 m3 w') (hoe3 : entsOf s3 ρ3 = some oe3)
    (hot : hget s3.hp c.es.length = some (c.es.length, .oth)) (hn : nodB (ρ3 ++ [c.es.length]) = true) (hfx : fixB c.es.length c.pes ρ3 0 = true) {p : EL E c.pes} (hp : shutEs F s3 c.pes ρ3 c.pes oe3 = some p) :
    Up m (m.back m3 oe3 (opnEs F c.pes (gam s.n ρ c.pes 0) c.pes p)) ∧ NR m3 ρ3 (m.back m3 oe3 (opnEs F c.pes (gam s.n ρ c.pes 0) c.pes p)) (gam s.n ρ c.pes 0) ∧
      RelH w0 G0 (ocPost F c s ρ p) (m.back m3 oe3 (opnEs F c.pes (gam s.n ρ c.pes 0) c.pes p)) w' := by
  obtain ⟨o1, o2⟩ := entsOf_ok hoe
  obtain ⟨q1, q2⟩ := entsOf_ok hoe3
  have hl : oe.length = c.es.length := by rw [← hk, ← o1, List.length_map]
  have hl3 : oe3.length = ρ3.length := by rw [← q1, List.length_map]
  generalize hcs : opnEs F c.pes (gam s.n ρ c.pes 0) c.pes p = cs
  generalize hm4 : m.back m3 oe3 cs = m4
  have hsn := r.n
  have hU : Up m m4 := by
    rw [← hm4]
    exact ⟨fun b o h => u.g b o h, Nat.le_add_right _ _, fun i hi => if_pos hi, Nat.le_refl _, fun _ _ => rfl, fun i hi => if_pos hi, fun i hi => if_pos hi, fun i hi => if_pos hi⟩
  have hν : ∀ j x, oe3[j]? = some x → m4.ν (m.n + j) = m3.ν x.1 ∧ m4.R (m.n + j) = m3.R x.2.1 ∧ m4.O (m.n + j) = m3.O x.2.1 := fun j x hj => by
    rw [← hm4]
    have e : ¬ (m.n + j < m.n) := by omega
    simp only [Mn.back, if_neg e, Nat.add_sub_cancel_left, hj, and_self]
  have hC4 : ∀ j y, cs[j]? = some y → m4.C (m.n + j) = y := fun j y hj => by
    rw [← hm4]
    have e : ¬ (m.n + j < m.n) := by omega
    simp only [Mn.back, if_neg e, Nat.add_sub_cancel_left, List.getD_eq_getElem?_getD, hj]; rfl
  have hN : m4.n = m.n + oe3.length := by rw [← hm4]; rfl
  have hsub : ∀ j x, oe[j]? = some x → m3.ν j = m.ν x.1 := fun j x hj => by
    have hlt := (List.getElem?_eq_some_iff.1 hj).1
    rw [u.ν j (by show j < oe.length + 1; omega)]
    simp only [Mn.sub, hj]
  obtain ⟨bl, L, hC, hB, hH⟩ := r.bx
  obtain ⟨eb, eL, hE⟩ := HR.iff.1 hH
  obtain ⟨bl3, L3, hC3, hB3, hH3⟩ := r3.bx
  obtain ⟨eb3, eL3, hE3⟩ := HR.iff.1 hH3
  have hNR : NR m3 ρ3 m4 (gam s.n ρ c.pes 0) := ⟨fun b o h => by rw [← hm4]; exact h, fun j id hj => by
    have hlt := (List.getElem?_eq_some_iff.1 hj).1
    have hj3 : oe3[j]? = some oe3[j] := List.getElem?_eq_getElem (by omega)
    have hid : id = oe3[j].1 := by
      rw [← q1, List.getElem?_map, hj3] at hj
      exact (Option.some.inj hj).symm
    obtain ⟨id2, g1, g2⟩ := gam_ok (n0 := s.n) (ρ := ρ) (by rw [hk]; exact hfx) j id hj
    rw [Nat.zero_add] at g2
    refine ⟨id2, g1, ?_⟩
    rcases g2 with rfl | ⟨rfl, g2⟩
    · rw [← hsn]
      exact ⟨by omega, by rw [(hν j _ hj3).1, hid]⟩
    · have hlo := (List.getElem?_eq_some_iff.1 g2).1
      have hoj : oe[id]? = some oe[id] := List.getElem?_eq_getElem (by omega)
      have hid2 : id2 = oe[id].1 := by
        rw [← o1, List.getElem?_map, hoj] at g2
        exact (Option.some.inj g2).symm
      have hlt2 : id2 < m.n := by rw [hid2]; exact (hE _ (o2 _ (List.getElem_mem _))).1
      exact ⟨Nat.lt_of_lt_of_le hlt2 hU.n, by rw [hU.ν _ hlt2, hsub id _ hoj, hid2]⟩⟩
  refine ⟨hU, hNR, ?_⟩
  obtain ⟨h1, h2, h3⟩ := shutEs_ok hNR hH3 r3.bs hp
  rw [hcs] at h2 h3
  obtain ⟨rest, hperm⟩ := sub_perm (f := fun x : Nat × Nat × HB E => x.1) (a := oe3 ++ [(c.es.length, c.es.length, .oth)]) (b := s3.hp) (by
      rw [List.map_append, q1]; exact nodB_ok hn) (fun x hx => by
      rcases List.mem_append.1 hx with hx | hx
      · exact q2 x hx
      · rw [List.mem_singleton] at hx; subst hx; exact hget_mem hot)
  have p1 := flat_perm (fun x => m3.R x.2.1) hperm
  have p2 := flat_perm (fun x => m3.O x.2.1) hperm
  rw [List.flatMap_append] at p1 p2
  obtain ⟨hC2, hB2⟩ := mem_sub hC3 hB3 (by rw [eb3]; exact p1) (by rw [eL3]; exact p2)
  have hoth : m3.R c.es.length = (frm s ρ []).flatMap (fun x => m.R x.2.1) ∧ m3.O c.es.length = (frm s ρ []).flatMap (fun x => m.O x.2.1) := by
    have hlt : c.es.length < (m.sub oe cs0 (frm s ρ [])).n := by show _ < oe.length + 1; omega
    rw [u.r _ hlt, u.o _ hlt, ← hl]
    simp [Mn.sub]
  have hfr : ∀ x ∈ frm s ρ [], EOk m x := fun x hx => hE x (List.mem_filter.1 hx).1
  refine ⟨⟨_, _, Cx.gcast hC2 (by rw [← hm4]; rfl), Bxs.gcast hB2 (by rw [← hm4]; rfl), HR.iff.2 ⟨?_, ?_, fun x hx => ?_⟩⟩, ?_, ?_⟩
  · show _ = List.flatMap _ (hkE s.n _ _ ++ _)
    rw [hcs, List.flatMap_append, List.flatMap_append]
    congr 1
    · refine (hkE_flat (g := m3.R) (by rw [h2, h1]) (by rw [gam_len, h1]) fun j x hj => ?_).symm
      rw [← hsn]; exact (hν j x hj).2.1
    · simp only [List.flatMap_cons, List.flatMap_nil, List.append_nil]
      rw [hoth.1]
      exact (List.flatMap_congr_ fun x hx => by rw [hU.r _ (hfr x hx).2.1]).symm
  · show _ = List.flatMap _ (hkE s.n _ _ ++ _)
    rw [hcs, List.flatMap_append, List.flatMap_append]
    congr 1
    · refine (hkE_flat (g := m3.O) (by rw [h2, h1]) (by rw [gam_len, h1]) fun j x hj => ?_).symm
      rw [← hsn]; exact (hν j x hj).2.2
    · simp only [List.flatMap_cons, List.flatMap_nil, List.append_nil]
      rw [hoth.2]
      exact (List.flatMap_congr_ fun x hx => by rw [hU.o _ (hfr x hx).2.1]).symm
  · have hx : x ∈ hkE s.n (gam s.n ρ c.pes 0) cs ++ frm s ρ [] := by rw [← hcs]; exact hx
    rcases List.mem_append.1 hx with hx | hx
    · obtain ⟨j, id, y, g1, g2, rfl⟩ := hkE_mem hx
      have hlt := (List.getElem?_eq_some_iff.1 g2).1
      have hlt2 : j < oe3.length := by omega
      have hj3 := List.getElem?_eq_getElem hlt2
      obtain ⟨y', g3, g4⟩ := h3 j _ hj3
      rw [g2] at g3; injection g3 with g3; subst g3
      have hidρ : ρ3[j]? = some oe3[j].1 := by rw [← q1, List.getElem?_map, hj3]; rfl
      obtain ⟨id2, g5, g6, g7⟩ := hNR.ν j _ hidρ
      rw [g1] at g5; injection g5 with g5; subst g5
      obtain ⟨e1, e2, e3⟩ := hν j _ hj3
      have hk := hE3 _ (q2 _ (List.getElem_mem hlt2))
      refine ⟨g6, by show s.n + j < m4.n; omega, ?_, ?_⟩
      · show m4.C (s.n + j) = y
        rw [← hsn]; exact hC4 j y g2
      · show HB1 m4 y (m4.ν id) (m4.R (s.n + j)) (m4.O (s.n + j))
        rw [← hsn, g7, e2, e3]; exact g4 _ _ _ hk.2.2.2
    · exact (hfr x hx).up hU
  · rw [hN, hsn, h1]; rfl
  · rw [← hm4]; exact r.bs
end
theorem rho_len {s : St E} {as : List CS} {l : List (SV E)} {es : List ES} {fx : Nat} : ∀ {n : Nat} {ρ0 ρ : List Nat}, rho s as l es fx n ρ0 = some ρ → ρ.length = ρ0.length + n
  | 0, ρ0, ρ, h => by simp only [rho, Option.some.injEq] at h; subst h; rfl
  | n + 1, ρ0, ρ, h => by
    simp only [rho] at h
    split at h
    · have := rho_len h; simp at this; omega
    · split at h
      · have := rho_len h; simp at this; omega
      · cases hb : Nat.blt ρ0.length fx with
        | false => rw [hb] at h; cases h
        | true => rw [hb] at h; have := rho_len h; simp at this; omega
theorem opnA_len {es : List ES} {ρ : List Nat} : ∀ {l : List CS} {x : CL E l}, (opnA F es ρ l x).length = l.length
  | [], _ => rfl
  | .dat _ :: r, x => by simp [opnA, opnA_len (l := r)]
  | .nm _ _ :: r, x => by simp [opnA, opnA_len (l := r)]
theorem ocRes_ok {m : Mn E} {c : OCon E} {s : St E} {ρ : List Nat} {p : CL E c.rsh} {v : Value} {vs : List Value} (h : LV m (opnA F c.pes (gam s.n ρ c.pes 0) c.rsh p) vs) (hv : (∃ x, c.rsh = [x] ∧ vs = [v]) ∨ (c.rsh.length ≠ 1 ∧ v = .tuple vs.toArray)) : RV m (ocRes F c s ρ p) v := by
  have hl := opnA_len (F := F) (es := c.pes) (ρ := gam s.n ρ c.pes 0) (x := p)
  unfold ocRes
  split
  · rename_i x hx
    rw [hx] at h
    rcases hv with ⟨y, h1, rfl⟩ | ⟨h1, _⟩
    · obtain ⟨u, us, e, g1, g2⟩ := h
      injection e with e1 e2
      subst e1
      exact V1_RV g1
    · rw [hx] at hl; exact (h1 (by simpa using hl.symm)).elim
  · rename_i hx
    rcases hv with ⟨y, h1, rfl⟩ | ⟨_, rfl⟩
    · obtain ⟨z, hz⟩ := List.length_eq_one_iff.1 (hl.trans (congrArg List.length h1))
      exact (hx z hz).elim
    · exact ⟨vs, rfl, h⟩
end Go.Vz
