/- What stands at which number, in blocks. No condition. -/
import Derived.Test.YtljcgggflgbenaaGreatDoorZlG0
import Derived.Test.YtljcgggflgbenaaGreatDoorGxChunk
set_option linter.all false
namespace Go.Proofs.YtljcgggflgbenaaGreatDoor
open Go Go.Gx Go.RowKit
instance : Rl Wd := ⟨fun _ v x => v = .agg x.cells.toArray, fun _ h => h⟩
theorem isWd {G : Gh} {v : Value} {y : Wd} (h : Rl.Is1 G v y) : v = .agg y.cells.toArray := h
theorem isWd' (G : Gh) (y : Wd) : Rl.Is1 G (.agg y.cells.toArray) y := rfl
structure SlotS where
  last : Wd
  prep : Wd
  pre : List (Int × Wd)
  com : List (Int × Wd)
  q : List Stand
  deriving Inhabited
structure SlotB where
  p : Nat
  m1 : Nat
  m2 : Nat
  c : List Value
  o1 : Obj
  o2 : Obj
  vq : Value
  oq : Option Bx
def SlotB.blocks (r : SlotB) : List (Nat × Obj) := (r.p, .cells r.c.toArray 81 (0, 0)) :: (r.m1, r.o1) :: (r.m2, r.o2) :: ob r.oq
abbrev slotC (l p : Wd) (m1 m2 : Nat) (vq : Value) : List Value := (.int .i64 l.view :: (l.dig.cells ++ (.int .i64 p.view :: (p.dig.cells ++ (.map (some m1) :: (.map (some m2) :: (vq :: [])))))))
/-- A slot's blocks, as they read. -/
structure SlotO (G : Gh) (r : SlotB) (s : SlotS) : Prop where
  c : r.c = slotC s.last s.prep r.m1 r.m2 r.vq
  pre : MpO kI G r.o1 s.pre
  com : MpO kI G r.o2 s.com
  q : Ow G r.oq 44 r.vq s.q
  ql : s.q.length ≤ maxL
theorem SlotO.mono {G G' : Gh} {r : SlotB} {s : SlotS} (hg : GLe G G') (h : SlotO G r s) : SlotO G' r s := ⟨h.c, h.pre.mono hg, h.com.mono hg, h.q.mono hg, h.ql⟩
/-- Blocks that are lent. -/
def HasL (G : Gh) (O : List (Nat × Obj)) : Prop := ∀ x ∈ O, HasO G x.1 x.2
theorem HasL.mono {G G' : Gh} {O : List (Nat × Obj)} (hg : GLe G G') (h : HasL G O) : HasL G' O := fun x hx => (h x hx).mono hg
theorem HasL.p {G : Gh} {r : SlotB} (h : HasL G r.blocks) : HasO G r.p (.cells r.c.toArray 81 (0, 0)) := h (r.p, .cells r.c.toArray 81 (0, 0)) (by simp [SlotB.blocks])
theorem HasL.m1 {G : Gh} {r : SlotB} (h : HasL G r.blocks) : HasO G r.m1 r.o1 := h (r.m1, r.o1) (by simp [SlotB.blocks])
theorem HasL.m2 {G : Gh} {r : SlotB} (h : HasL G r.blocks) : HasO G r.m2 r.o2 := h (r.m2, r.o2) (by simp [SlotB.blocks])
theorem HasL.q {G : Gh} {r : SlotB} (h : HasL G r.blocks) : HasL G (ob r.oq) := fun x hx => h x (by simp [SlotB.blocks, hx])
theorem SlotO.row {G : Gh} {r : SlotB} {s : SlotS} (h : SlotO G r s) (hr : HasL G r.blocks) : RowG G r.p 0 (slotC s.last s.prep r.m1 r.m2 r.vq) := by rw [← h.c]; exact HasO.row hr.p
theorem Ow.nil_eq {G : Gh} {T : Nat} {v : Value} {xs : List Stand} (h : Ow G none T v xs) : Sl G v xs := by
  obtain ⟨rows, ⟨_, h2⟩, h3⟩ := h
  obtain ⟨rfl, rfl⟩ := h2
  have := h3.length
  have : xs = [] := List.eq_nil_of_length_eq_zero (by simpa using this.symm)
  subst this; exact Sl.nil_ _
theorem SlotO.qSl {G : Gh} {r : SlotB} {s : SlotS} (h : SlotO G r s) (hr : HasL G r.blocks) : Sl G r.vq s.q := by
  have h1 := h.q
  have h2 := hr.q
  revert h1 h2
  cases r.oq with
  | none => intro h1 _; exact Ow.nil_eq h1
  | some x => obtain ⟨g, T, cs⟩ := x; intro h1 h2; exact h1.frozen (T' := T) (h2 (g, .cells cs.toArray T (0, 0)) (by simp [ob])) h.ql
abbrev Rs := List (Int × SlotB × SlotS)
def Rs.blocks (rs : Rs) : List (Nat × Obj) := rs.flatMap (fun x => x.2.1.blocks)
/-- All slots: a map's pointers D, blocks H, and what they come to. -/
def SlH (G : Gh) (D : List (Int × Pt)) (H : List (Nat × Obj)) (f : Int → Option SlotS) : Prop :=
  ∃ (rs : Rs) (J : List (Nat × Obj)), H.Perm (rs.blocks ++ J) ∧ (rs.map (·.1)).Nodup ∧ (∀ k, mget D k = (mget rs k).map (fun x => ⟨some x.1.p⟩)) ∧ (∀ k, f k = (mget rs k).map (·.2)) ∧ ∀ x ∈ rs, SlotO G x.2.1 x.2.2
theorem SlH.mono {G G' : Gh} {D : List (Int × Pt)} {H : List (Nat × Obj)} {f : Int → Option SlotS} (hg : GLe G G') (h : SlH G D H f) : SlH G' D H f := by
  obtain ⟨rs, J, h1, h2, h3, h4, h5⟩ := h
  exact ⟨rs, J, h1, h2, h3, h4, fun x hx => (h5 x hx).mono hg⟩
def upd (f : Int → Option SlotS) (k : Int) (t : SlotS) : Int → Option SlotS := fun x => if k = x then some t else f x
def del (f : Int → Option SlotS) (k : Int) : Int → Option SlotS := fun x => if k = x then none else f x
/-- All slots but the one at k, whose block is p. -/
def SlR (G : Gh) (D : List (Int × Pt)) (H : List (Nat × Obj)) (f : Int → Option SlotS) (k : Int) (p : Nat) : Prop :=
  ∀ G' r' t', GLe G G' → r'.p = p → SlotO G' r' t' → SlH G' D (r'.blocks ++ H) (upd f k t')
theorem SlR.mono {G G' : Gh} {D : List (Int × Pt)} {H : List (Nat × Obj)} {f : Int → Option SlotS} {k : Int} {p : Nat} (hg : GLe G G') (h : SlR G D H f k p) : SlR G' D H f k p :=
  fun G'' r' t' hg' h1 h2 => h G'' r' t' (fun b o hb => hg' b o (hg b o hb)) h1 h2
theorem mget_split {β : Type} {rs : List (Int × β)} {k : Int} {y : β} (h : mget rs k = some y) : ∃ a c, rs = a ++ (k, y) :: c ∧ mget a k = none := by
  induction rs with
  | nil => cases h
  | cons p r ih =>
    unfold mget at h
    by_cases hp : p.1 = k
    · rw [if_pos hp] at h; injection h with h
      obtain ⟨p1, p2⟩ := p
      simp only at hp h; subst hp; subst h
      exact ⟨[], r, rfl, rfl⟩
    · rw [if_neg hp] at h
      obtain ⟨a, c, rfl, h2⟩ := ih h
      exact ⟨p :: a, c, rfl, by simp [mget, hp, h2]⟩
theorem mget_append {β : Type} {a c : List (Int × β)} {k : Int} : mget (a ++ c) k = (mget a k).or (mget c k) := by
  induction a with
  | nil => rfl
  | cons p r ih => simp only [List.cons_append, mget]; split <;> simp_all
theorem SlH.at_none {G : Gh} {D : List (Int × Pt)} {H : List (Nat × Obj)} {f : Int → Option SlotS} {k : Int} (h : SlH G D H f) (hf : f k = none) : mget D k = none := by
  obtain ⟨rs, J, h1, h2, h3, h4, h5⟩ := h
  rw [h3]; rw [h4] at hf
  cases hm : mget rs k with
  | none => rfl
  | some x => rw [hm] at hf; cases hf
theorem SlH.at_some {G : Gh} {D : List (Int × Pt)} {H : List (Nat × Obj)} {f : Int → Option SlotS} {k : Int} {t : SlotS} (h : SlH G D H f) (hf : f k = some t) :
    ∃ r H', mget D k = some ⟨some r.p⟩ ∧ SlotO G r t ∧ H.Perm (r.blocks ++ H') ∧ SlR G D H' f k r.p := by
  obtain ⟨rs, J, h1, h2, h3, h4, h5⟩ := h
  rw [h4] at hf
  cases hm : mget rs k with
  | none => rw [hm] at hf; cases hf
  | some x =>
    rw [hm] at hf
    obtain ⟨r, t'⟩ := x
    simp only [Option.map_some, Option.some.injEq] at hf
    subst hf
    obtain ⟨a, c, rfl, ha⟩ := mget_split hm
    have hnd := h2
    rw [List.map_append, List.map_cons, List.nodup_append] at hnd
    obtain ⟨n1, n2, n3⟩ := hnd
    rw [List.nodup_cons] at n2
    refine ⟨r, (Rs.blocks a) ++ (Rs.blocks c ++ J), by rw [h3, hm]; rfl, h5 (k, r, t') (by simp), h1.trans ?_, fun G' r' t2 hg hp ht => ⟨a ++ (k, r', t2) :: c, J, ?_, ?_, fun x => ?_, fun x => ?_, fun x hx => ?_⟩⟩
    · simp only [Rs.blocks, List.flatMap_append, List.flatMap_cons, List.append_assoc]
      exact List.perm_append_comm_assoc _ _ _
    · simp only [Rs.blocks, List.flatMap_append, List.flatMap_cons, List.append_assoc]
      exact List.perm_append_comm_assoc _ _ _
    · simpa using h2
    · rw [h3]; simp only [mget_append, mget]
      split
      · rename_i e; subst e; simp [ha, hp]
      · rfl
    · simp only [upd, mget_append, mget]
      split
      · rename_i e; subst e; simp [ha]
      · rename_i e; rw [h4]; simp only [mget_append, mget, if_neg e]
    · rcases List.mem_append.1 hx with hx | hx
      · exact (h5 x (by simp [hx])).mono hg
      · rcases List.mem_cons.1 hx with rfl | hx
        · exact ht
        · exact (h5 x (by simp [hx])).mono hg
theorem SlH.add {G : Gh} {D : List (Int × Pt)} {H : List (Nat × Obj)} {f : Int → Option SlotS} {k : Int} {r : SlotB} {t : SlotS} (h : SlH G D H f) (hf : f k = none) (ht : SlotO G r t) :
    SlH G (mput D k ⟨some r.p⟩) (r.blocks ++ H) (upd f k t) := by
  obtain ⟨rs, J, h1, h2, h3, h4, h5⟩ := h
  have hm : mget rs k = none := by
    rw [h4] at hf
    cases hm : mget rs k with
    | none => rfl
    | some x => rw [hm] at hf; cases hf
  refine ⟨(k, r, t) :: rs, J, ?_, ?_, fun x => ?_, fun x => ?_, fun x hx => ?_⟩
  · simp only [Rs.blocks, List.flatMap_cons, List.append_assoc]; exact h1.append_left _
  · rw [List.map_cons, List.nodup_cons]
    refine ⟨fun hk => ?_, h2⟩
    obtain ⟨y, hy⟩ := mget_isSome.2 hk
    rw [hm] at hy; cases hy
  · rw [mget_mput]; simp only [mget]; split
    · rfl
    · exact h3 x
  · simp only [upd, mget]; split
    · rfl
    · exact h4 x
  · rcases List.mem_cons.1 hx with rfl | hx
    · exact ht
    · exact h5 x hx
/-- What a slot's place tells, of slots that are lent. -/
def SlotRes (G : Gh) (f : Int → Option SlotS) (k : Int) (v : Value) : Prop :=
  (f k = none ∧ v = .pointer none) ∨ ∃ r t, f k = some t ∧ v = .pointer (some ⟨r.p, 0, none⟩) ∧ HasL G r.blocks ∧ SlotO G r t
theorem SlH.res {G : Gh} {D : List (Int × Pt)} {H : List (Nat × Obj)} {f : Int → Option SlotS} {k : Int} (h : SlH G D H f) (hl : HasL G H) : SlotRes G f k (Pt.v ((mget D k).getD (Pt.mk none))) := by
  cases hf : f k with
  | none => rw [h.at_none hf]; exact .inl ⟨hf, rfl⟩
  | some t =>
    obtain ⟨r, H', h1, h2, h3, _⟩ := h.at_some hf
    rw [h1]
    exact .inr ⟨r, t, hf, rfl, fun x hx => hl x (h3.mem_iff.2 (List.mem_append_left _ hx)), h2⟩
theorem SlH.nil_ (G : Gh) : SlH G [] [] (fun _ => none) := ⟨[], [], .refl _, by simp, fun _ => rfl, fun _ => rfl, fun x hx => (List.not_mem_nil hx).elim⟩
theorem SlH.res_some {G : Gh} {D : List (Int × Pt)} {H : List (Nat × Obj)} {f : Int → Option SlotS} {k : Int} {t : SlotS} (h : SlH G D H f) (hl : HasL G H) (hf : f k = some t) :
    ∃ r, mget D k = some ⟨some r.p⟩ ∧ HasL G r.blocks ∧ SlotO G r t := by
  obtain ⟨r, H', h1, h2, h3, _⟩ := h.at_some hf
  exact ⟨r, h1, fun x hx => hl x (h3.mem_iff.2 (List.mem_append_left _ hx)), h2⟩
theorem SlH.delete {G : Gh} {D : List (Int × Pt)} {H : List (Nat × Obj)} {f : Int → Option SlotS} (k : Int) (h : SlH G D H f) : SlH G (mdel D k) H (del f k) := by
  cases hf : f k with
  | none =>
    have e : del f k = f := by funext x; unfold del; split
                               · rename_i e; subst e; exact hf.symm
                               · rfl
    obtain ⟨rs, J, h1, h2, h3, h4, h5⟩ := h
    refine ⟨rs, J, h1, h2, fun x => ?_, fun x => by rw [e]; exact h4 x, h5⟩
    rw [mget_mdel]; split
    · rename_i e; subst e; rw [h4] at hf
      cases hm : mget rs k with
      | none => rfl
      | some x => rw [hm] at hf; cases hf
    · exact h3 x
  | some t =>
    obtain ⟨rs, J, h1, h2, h3, h4, h5⟩ := h
    rw [h4] at hf
    cases hm : mget rs k with
    | none => rw [hm] at hf; cases hf
    | some y =>
      obtain ⟨r, t'⟩ := y
      obtain ⟨a, c, rfl, ha⟩ := mget_split hm
      rw [List.map_append, List.map_cons, List.nodup_append, List.nodup_cons] at h2
      obtain ⟨n1, ⟨n2, n3⟩, n4⟩ := h2
      have hc : mget c k = none := by
        cases hq : mget c k with
        | none => rfl
        | some z => exact absurd (mget_isSome.1 ⟨z, hq⟩) n2
      refine ⟨a ++ c, r.blocks ++ J, h1.trans ?_, ?_, fun x => ?_, fun x => ?_, fun x hx => h5 x (by rcases List.mem_append.1 hx with hx | hx <;> simp [hx])⟩
      · simp only [Rs.blocks, List.flatMap_append, List.flatMap_cons, List.append_assoc]
        exact List.Perm.append_left _ (List.perm_append_comm_assoc _ _ _)
      · rw [List.map_append, List.nodup_append]; exact ⟨n1, n3, fun x hx y hy => n4 x hx y (by simp [hy])⟩
      · rw [mget_mdel, h3]; simp only [mget_append, mget]
        split
        · rename_i e; subst e; simp [ha, hc]
        · rfl
      · simp only [del, mget_append]
        split
        · rename_i e; subst e; simp [ha, hc]
        · rename_i e; rw [h4]; simp only [mget_append, mget, if_neg e]
theorem SlH.cleared {G : Gh} {D : List (Int × Pt)} {H : List (Nat × Obj)} {f : Int → Option SlotS} (_ : SlH G D H f) : SlH G [] H (fun _ => none) :=
  ⟨[], H, .refl _, by simp, fun _ => rfl, fun _ => rfl, fun x hx => (List.not_mem_nil hx).elim⟩
structure SlS where
  crew : Crew
  low : Int
  f : Int → Option SlotS
/-- The blocks of slots, as they read; b is the first one. -/
def SlO (G : Gh) (b : Nat) (O : List (Nat × Obj)) (s : SlS) : Prop :=
  ∃ vn l om D H, O = (b, .cells [.int .i64 s.crew.faults, vn, .int .i64 s.low, .map (some l)].toArray 56 (0, 0)) :: (l, om) :: H ∧ Sl G vn s.crew.nodes ∧ MpO kI G om D ∧ SlH G D H s.f
theorem SlO.mono {G G' : Gh} {b : Nat} {O : List (Nat × Obj)} {s : SlS} (hg : GLe G G') (h : SlO G b O s) : SlO G' b O s := by
  obtain ⟨vn, l, om, D, H, h1, h2, h3, h4⟩ := h
  exact ⟨vn, l, om, D, H, h1, h2.mono hg, h3.mono hg, h4.mono hg⟩
/-- .. opened at k, where t is now; p its first block. -/
def SlOp (G : Gh) (b : Nat) (O : List (Nat × Obj)) (s : SlS) (k : Int) (t : SlotS) (p : Nat) : Prop :=
  ∃ vn l om D r H, O = (b, .cells [.int .i64 s.crew.faults, vn, .int .i64 s.low, .map (some l)].toArray 56 (0, 0)) :: (l, om) :: (SlotB.blocks r ++ H) ∧ Sl G vn s.crew.nodes ∧ MpO kI G om D ∧ SlotO G r t ∧ p = r.p ∧ SlR G D H s.f k r.p
end Go.Proofs.YtljcgggflgbenaaGreatDoor
