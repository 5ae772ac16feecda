/- Walks by reckoning: how memory turns; slices of the call's own are let stay. No condition. -/
import Derived.Test.YtpbcabanpppfoaaGreatVzEv
set_option linter.all false
namespace Go.Vz
open Go Go.Gx
variable {E : DE}
def Mn.g (m : Mn E) (G : Gh) : Mn E := { m with G := G }
theorem Mn.g_up {m : Mn E} {G : Gh} (h : GLe m.G G) : Up m (m.g G) := ⟨h, Nat.le_refl _, fun _ _ => rfl, Nat.le_refl _, fun _ _ => rfl, fun _ _ => rfl, fun _ _ => rfl, fun _ _ => rfl⟩
/-- An entry goes on by another name. -/
def hren : List (Nat × Nat × HB E) → Nat → Nat → HB E → List (Nat × Nat × HB E)
  | [], _, _, _ => []
  | (k, q, v) :: r, id, n, x => bif Nat.beq k id then (n, n, x) :: r else (k, q, v) :: hren r id n x
theorem HR.ren {m : Mn E} {id k : Nat} {x : HB E} : ∀ {h : List (Nat × Nat × HB E)} {bl : List Bx} {L : List (Nat × Obj)}, HR m h bl L → hget h id = some (k, x) →
    ∃ p q A B, bl = p ++ (m.R k ++ q) ∧ L = A ++ (m.O k ++ B) ∧
      ∀ (m' : Mn E) (x' : HB E) (bs : List Bx) (os : List (Nat × Obj)) (v : Value), Up m m' → HB1 m' x' v bs os → HR (m'.add v x' bs os) (hren h id m'.n x') (p ++ (bs ++ q)) (A ++ (os ++ B))
  | [], _, _, _, hg => by cases hg
  | (k', j, y) :: r, bl, L, ⟨bl', L', h1, h2, h3, h4, h5, h6, h7⟩, hg => by
    unfold hget at hg
    cases hb : Nat.beq k' id with
    | true =>
      rw [hb] at hg
      simp only [cond_true, Option.some.injEq, Prod.mk.injEq] at hg
      obtain ⟨rfl, rfl⟩ := hg
      refine ⟨[], bl', [], L', h1, h2, fun m' x' bs os v u hx => ?_⟩
      simp only [hren, hb, cond_true]
      exact ⟨bl', L', by rw [Mn.add_R]; rfl, by rw [Mn.add_O]; rfl, Nat.lt_succ_self _, Nat.lt_succ_self _, Mn.add_C, by
        rw [Mn.add_R, Mn.add_O, Mn.add_ν]; exact hx.up Mn.add_up, (h7.up u).up Mn.add_up⟩
    | false =>
      rw [hb] at hg
      obtain ⟨p, q, A, B, g1, g2, g7⟩ := h7.ren hg
      refine ⟨m.R j ++ p, q, m.O j ++ A, B, by rw [h1, g1, List.append_assoc], by rw [h2, g2, List.append_assoc], fun m' x' bs os v u hx => ?_⟩
      simp only [hren, hb, cond_false]
      have u2 : Up m (m'.add v x' bs os) := u.trans Mn.add_up
      exact ⟨p ++ (bs ++ q), A ++ (os ++ B), by rw [u2.r _ h4, List.append_assoc], by rw [u2.o _ h4, List.append_assoc], Nat.lt_of_lt_of_le h3 u2.n, Nat.lt_of_lt_of_le h4 u2.n, (u2.c _ h4).trans h5, by
        rw [u2.ν _ h3, u2.r _ h4, u2.o _ h4]; exact h6.up u2, g7 m' x' bs os v u hx⟩
section
variable {w0 w : World} {G0 : Gh} {s : St E} {m : Mn E} {e : Env} {id k : Nat} {x : HB E}
def St.turn (s : St E) (id : Nat) (x : HB E) : St E := { s with hp := hset s.hp id s.n x, n := s.n + 1 }
def St.ren (s : St E) (id : Nat) (x : HB E) : St E := { s with hp := hren s.hp id s.n x, n := s.n + 1 }
def St.new (s : St E) (x : HB E) : St E := { s with hp := (s.n, s.n, x) :: s.hp, n := s.n + 1 }
/-- An entry turns. -/
theorem RelH.turn (r : RelH w0 G0 s m w) (hg : hget s.hp id = some (k, x)) : ∃ p q A B, Cx w0 G0 m.G w ⟨[], A ++ (m.O k ++ B)⟩ ∧ Bxs m.G w w0.heap.size (p ++ (m.R k ++ q)) ⟨[], A ++ (m.O k ++ B)⟩ ∧
    ∀ G' w' x' bs os, GLe m.G G' → Cx w0 G0 G' w' ⟨[], A ++ (os ++ B)⟩ → Bxs G' w' w0.heap.size (p ++ (bs ++ q)) ⟨[], A ++ (os ++ B)⟩ → HB1 (m.g G') x' (m.ν id) bs os →
      Up m ((m.g G').add undef x' bs os) ∧ RelH w0 G0 (s.turn id x') ((m.g G').add undef x' bs os) w' := by
  obtain ⟨bl, L, hC, hB, hH⟩ := r.bx
  obtain ⟨p, q, A, B, rfl, rfl, _, _, _, _, h6⟩ := hH.split hg
  refine ⟨p, q, A, B, hC, hB, fun G' w' x' bs os hG hC' hB' hx => ⟨(Mn.g_up hG).trans Mn.add_up, ⟨_, _, hC', hB', ?_⟩, by simp [Mn.add, Mn.g, St.turn, r.n], r.bs⟩⟩
  have := h6 (m.g G') x' bs os undef (Mn.g_up hG) hx
  rwa [show (m.g G').n = s.n from r.n] at this
/-- .. by another name. -/
theorem RelH.ren (r : RelH w0 G0 s m w) (hg : hget s.hp id = some (k, x)) : ∃ p q A B, Cx w0 G0 m.G w ⟨[], A ++ (m.O k ++ B)⟩ ∧ Bxs m.G w w0.heap.size (p ++ (m.R k ++ q)) ⟨[], A ++ (m.O k ++ B)⟩ ∧
    ∀ G' w' x' v bs os, GLe m.G G' → Cx w0 G0 G' w' ⟨[], A ++ (os ++ B)⟩ → Bxs G' w' w0.heap.size (p ++ (bs ++ q)) ⟨[], A ++ (os ++ B)⟩ → HB1 (m.g G') x' v bs os →
      Up m ((m.g G').add v x' bs os) ∧ RelH w0 G0 (s.ren id x') ((m.g G').add v x' bs os) w' := by
  obtain ⟨bl, L, hC, hB, hH⟩ := r.bx
  obtain ⟨p, q, A, B, rfl, rfl, h6⟩ := hH.ren hg
  refine ⟨p, q, A, B, hC, hB, fun G' w' x' v bs os hG hC' hB' hx => ⟨(Mn.g_up hG).trans Mn.add_up, ⟨_, _, hC', hB', ?_⟩, by simp [Mn.add, Mn.g, St.ren, r.n], r.bs⟩⟩
  have := h6 (m.g G') x' bs os v (Mn.g_up hG) hx
  rwa [show (m.g G').n = s.n from r.n] at this
/-- A new entry. -/
theorem RelH.new (r : RelH w0 G0 s m w) : ∃ bl L, Cx w0 G0 m.G w ⟨[], L⟩ ∧ Bxs m.G w w0.heap.size bl ⟨[], L⟩ ∧
    ∀ G' w' x' v bs os, GLe m.G G' → Cx w0 G0 G' w' ⟨[], os ++ L⟩ → Bxs G' w' w0.heap.size (bs ++ bl) ⟨[], os ++ L⟩ → HB1 (m.g G') x' v bs os →
      Up m ((m.g G').add v x' bs os) ∧ RelH w0 G0 (s.new x') ((m.g G').add v x' bs os) w' := by
  obtain ⟨bl, L, hC, hB, hH⟩ := r.bx
  refine ⟨bl, L, hC, hB, fun G' w' x' v bs os hG hC' hB' hx => ⟨(Mn.g_up hG).trans Mn.add_up, ⟨_, _, hC', hB', ?_⟩, by simp [Mn.add, Mn.g, St.new, r.n], r.bs⟩⟩
  have := (hH.up (Mn.g_up hG)).new (v := v) hx
  rwa [show (m.g G').n = s.n from r.n] at this
theorem HR.mem_of {bl : List Bx} {L : List (Nat × Obj)} {m : Mn E} {h : List (Nat × Nat × HB E)} {id k : Nat} {x : HB E} (hH : HR m h bl L) (hg : hget h id = some (k, x)) : ∀ X ∈ m.R k, X ∈ bl := by
  obtain ⟨p, q, A, B, h1, _⟩ := hH.split hg
  intro X hX
  rw [h1]; simp [hX]
theorem RelH.ren' (r : RelH w0 G0 s m w) (hg : hget s.hp id = some (k, x)) : ∃ p q A B, (∀ id' k' x', hget s.hp id' = some (k', x') → ∀ X ∈ m.R k', X ∈ p ++ (m.R k ++ q)) ∧ Cx w0 G0 m.G w ⟨[], A ++ (m.O k ++ B)⟩ ∧ Bxs m.G w w0.heap.size (p ++ (m.R k ++ q)) ⟨[], A ++ (m.O k ++ B)⟩ ∧
    ∀ G' w' x' v bs os, GLe m.G G' → Cx w0 G0 G' w' ⟨[], A ++ (os ++ B)⟩ → Bxs G' w' w0.heap.size (p ++ (bs ++ q)) ⟨[], A ++ (os ++ B)⟩ → HB1 (m.g G') x' v bs os →
      Up m ((m.g G').add v x' bs os) ∧ RelH w0 G0 (s.ren id x') ((m.g G').add v x' bs os) w' := by
  obtain ⟨bl, L, hC, hB, hH⟩ := r.bx
  have hmem := fun id' k' x' (h : hget s.hp id' = some (k', x')) => hH.mem_of h
  obtain ⟨p, q, A, B, rfl, rfl, h6⟩ := hH.ren hg
  refine ⟨p, q, A, B, hmem, hC, hB, fun G' w' x' v bs os hG hC' hB' hx => ⟨(Mn.g_up hG).trans Mn.add_up, ⟨_, _, hC', hB', ?_⟩, by simp [Mn.add, Mn.g, St.ren, r.n], r.bs⟩⟩
  have := h6 (m.g G') x' bs os v (Mn.g_up hG) hx
  rwa [show (m.g G').n = s.n from r.n] at this
theorem RelH.new' (r : RelH w0 G0 s m w) : ∃ bl L, (∀ id' k' x', hget s.hp id' = some (k', x') → ∀ X ∈ m.R k', X ∈ bl) ∧ Cx w0 G0 m.G w ⟨[], L⟩ ∧ Bxs m.G w w0.heap.size bl ⟨[], L⟩ ∧
    ∀ G' w' x' v bs os, GLe m.G G' → Cx w0 G0 G' w' ⟨[], os ++ L⟩ → Bxs G' w' w0.heap.size (bs ++ bl) ⟨[], os ++ L⟩ → HB1 (m.g G') x' v bs os →
      Up m ((m.g G').add v x' bs os) ∧ RelH w0 G0 (s.new x') ((m.g G').add v x' bs os) w' := by
  obtain ⟨bl, L, hC, hB, hH⟩ := r.bx
  have hmem := fun id' k' x' (h : hget s.hp id' = some (k', x')) => hH.mem_of h
  refine ⟨bl, L, hmem, hC, hB, fun G' w' x' v bs os hG hC' hB' hx => ⟨(Mn.g_up hG).trans Mn.add_up, ⟨_, _, hC', hB', ?_⟩, by simp [Mn.add, Mn.g, St.new, r.n], r.bs⟩⟩
  have := (hH.up (Mn.g_up hG)).new (v := v) hx
  rwa [show (m.g G').n = s.n from r.n] at this
/-- An own slice is let stay. -/
def frz1 (s : St E) : SV E → Option (St E)
  | .own id => match hget s.hp id with
    | some (_, .arr t _ xs) => some (s.turn id (.fz t xs))
    | some (_, .fz _ _) => some s
    | _ => none
  | _ => some s
def frzL (s : St E) : List (SV E) → Option (St E)
  | [] => some s
  | x :: r => match frz1 s x with | some s' => frzL s' r | none => none
def frz (s : St E) : SV E → Option (St E)
  | .agg l => frzL s l
  | x => frz1 s x
def frzs (s : St E) : List (SV E) → Option (St E)
  | [] => some s
  | x :: r => match frz s x with | some s' => frzs s' r | none => none
theorem GLe.refl (G : Gh) : GLe G G := fun _ _ h => h
theorem frz1_ok (r : RelH w0 G0 s m w) {y : SV E} {s' : St E} (h : frz1 s y = some s') : ∃ m', Up m m' ∧ RelH w0 G0 s' m' w ∧ s'.sl = s.sl ∧ s'.bs = s.bs := by
  unfold frz1 at h
  split at h
  · split at h
    · rename_i k t el xs hg
      simp only [Option.some.injEq] at h; subst h
      obtain ⟨_, _, _, ⟨o, h3, h4, h5, h6⟩, _⟩ := r.wd hg
      obtain ⟨p, q, A, B, hC, hB, hk⟩ := r.turn hg
      rw [h3, h4] at hB
      rw [h4] at hC
      obtain ⟨G', k1, k2, k3, k4⟩ := h5.freeze' hC (Nat.le_refl _) hB h6
      obtain ⟨u, r'⟩ := hk G' w (.fz t xs) [] [] k1 k2 k3 ⟨rfl, rfl, k4⟩
      exact ⟨_, u, r', rfl, rfl⟩
    · simp only [Option.some.injEq] at h; subst h; exact ⟨m, Up.refl m, r, rfl, rfl⟩
    · cases h
  · simp only [Option.some.injEq] at h; subst h; exact ⟨m, Up.refl m, r, rfl, rfl⟩
theorem frzL_ok : ∀ {l : List (SV E)} {s s' : St E} {m : Mn E}, RelH w0 G0 s m w → frzL s l = some s' → ∃ m', Up m m' ∧ RelH w0 G0 s' m' w ∧ s'.sl = s.sl ∧ s'.bs = s.bs
  | [], s, s', m, r, h => by simp only [frzL, Option.some.injEq] at h; subst h; exact ⟨m, Up.refl m, r, rfl, rfl⟩
  | x :: l, s, s', m, r, h => by
    simp only [frzL] at h
    split at h
    · rename_i s1 h1
      obtain ⟨m1, u1, r1, e1, e2⟩ := frz1_ok r h1
      obtain ⟨m2, u2, r2, e3, e4⟩ := frzL_ok r1 h
      exact ⟨m2, u1.trans u2, r2, e3.trans e1, e4.trans e2⟩
    · cases h
theorem frz_ok (r : RelH w0 G0 s m w) {y : SV E} {s' : St E} (h : frz s y = some s') : ∃ m', Up m m' ∧ RelH w0 G0 s' m' w ∧ s'.sl = s.sl ∧ s'.bs = s.bs := by
  unfold frz at h
  split at h
  · exact frzL_ok r h
  · exact frz1_ok r h
theorem frzs_ok : ∀ {l : List (SV E)} {s s' : St E} {m : Mn E}, RelH w0 G0 s m w → frzs s l = some s' → ∃ m', Up m m' ∧ RelH w0 G0 s' m' w ∧ s'.sl = s.sl ∧ s'.bs = s.bs
  | [], s, s', m, r, h => by simp only [frzs, Option.some.injEq] at h; subst h; exact ⟨m, Up.refl m, r, rfl, rfl⟩
  | x :: l, s, s', m, r, h => by
    simp only [frzs] at h
    split at h
    · rename_i s1 h1
      obtain ⟨m1, u1, r1, e1, e2⟩ := frz_ok r h1
      obtain ⟨m2, u2, r2, e3, e4⟩ := frzs_ok r1 h
      exact ⟨m2, u1.trans u2, r2, e3.trans e1, e4.trans e2⟩
    · cases h
/-- The frame, in memory that has turned. -/
theorem Rel.mem {s' : St E} {m' : Mn E} {w' : World} (r : Rel w0 G0 s m e w) (u : Up m m') (h : RelH w0 G0 s' m' w') (hs : s'.sl = s.sl) : Rel w0 G0 s' m' e w' :=
  ⟨h, fun t x ht => by rw [hs] at ht; obtain ⟨v, h1, h2⟩ := r.sl t x ht; exact ⟨v, h1, h2.up u⟩⟩
end
end Go.Vz
