/- Walks by reckoning: regions whose order is drawn. No condition. -/
import Derived.Test.YtpbcabanpppfoaaGreatVzSnd
import Derived.Test.YtpbcabanpppfoaaGreatGxSched
set_option linter.all false
namespace Go.Vz
open Go Go.Gx
variable {E : DE} {P : Program} {F : DF E} {Z : ZF P E} {w0 : World} {G0 : Gh}
/-- What was taken ahead stays as it was. -/
def TR (m : Mn E) (T : List (Nat × Nat)) (K : Tk) : Prop := ∀ p ∈ K, (∀ w, Wd m none w → p.2 w) ∨ ∃ k, (p.1, k) ∈ T ∧ k < m.n ∧ ∀ w, Wd m (some k) w → p.2 w
theorem Wd.up {m m' : Mn E} (u : Up m m') {k : Option Nat} {w : World} (hk : ∀ j, k = some j → j < m.n) (h : Wd m' k w) : Wd m k w :=
  ⟨fun b o hb => h.1 b o (u.g b o hb), fun j hj => by have := h.2 j hj; rw [u.r _ (hk j hj), u.o _ (hk j hj)] at this; exact this⟩
theorem TR.up {m m' : Mn E} (u : Up m m') {T : List (Nat × Nat)} {K : Tk} (h : TR m T K) : TR m' T K := fun p hp => by
  rcases h p hp with h1 | ⟨k, h1, h2, h3⟩
  · exact .inl fun w hw => h1 w (hw.up u fun _ h => by cases h)
  · exact .inr ⟨k, h1, Nat.lt_of_lt_of_le h2 u.n, fun w hw => h3 w (hw.up u fun j hj => by injection hj with hj; rw [← hj]; exact h2)⟩
theorem HR.ver {m : Mn E} {k : Nat} : ∀ {h : List (Nat × Nat × HB E)} {bl : List Bx} {L : List (Nat × Obj)}, HR m h bl L → (h.any fun x => Nat.beq x.2.1 k) = true → (m.R k).Sublist bl ∧ (m.O k).Sublist L
  | [], _, _, _, h => by cases h
  | (id, j, x) :: r, bl, L, ⟨bl', L', h1, h2, _, _, _, _, h7⟩, h => by
    simp only [List.any_cons, Bool.or_eq_true] at h
    rcases h with h | h
    · have := Nat.eq_of_beq_eq_true h
      subst this
      rw [h1, h2]; exact ⟨List.sublist_append_left _ _, List.sublist_append_left _ _⟩
    · obtain ⟨g1, g2⟩ := h7.ver h
      rw [h1, h2]; exact ⟨g1.trans (List.sublist_append_right _ _), g2.trans (List.sublist_append_right _ _)⟩
theorem RelH.ver {s : St E} {m : Mn E} {w : World} (r : RelH w0 G0 s m w) {k : Nat} (h : (s.hp.any fun x => Nat.beq x.2.1 k) = true) : Wd m (some k) w := by
  obtain ⟨bl, L, hC, hB, hH⟩ := r.bx
  obtain ⟨h1, h2⟩ := hH.ver h
  refine ⟨hC.holds, fun j hj => ?_⟩
  injection hj with hj; subst hj
  exact ⟨fun y hy => (hB.at_ y (h1.subset hy)).1, fun y hy => (hC.held y (h2.subset hy)).1⟩
theorem TR.all {s : St E} {m : Mn E} {w : World} (r : RelH w0 G0 s m w) {T : List (Nat × Nat)} {K : Tk} (h : TR m T K) (hv : verB s T = true) : K.all w := fun p hp => by
  rcases h p hp with h1 | ⟨k, h1, _, h3⟩
  · exact h1 w r.wd0
  · exact h3 w (r.ver (List.all_eq_true.1 hv _ h1))
theorem TR.keep {m : Mn E} {T : List (Nat × Nat)} {K : Tk} {A : List Nat} {i : Nat} (h : TR m T K) : TR m (T.filter fun p => !(A.getD i 0).testBit p.1) (K.keep A i) := fun p hp => by
  unfold Tk.keep at hp
  rw [List.mem_filter] at hp
  rcases h p hp.1 with h1 | ⟨k, h1, h2⟩
  · exact .inl h1
  · exact .inr ⟨k, List.mem_filter.2 ⟨h1, hp.2⟩, h2⟩
theorem dep_lt {s : St E} {m : Mn E} {w : World} (r : RelH w0 G0 s m w) {op : Op} {k : Nat} (h : dep s op = some k) : k < m.n := by
  have key : ∀ id, s.ver id = some k → k < m.n := fun id h => by
    unfold St.ver at h
    split at h
    · rename_i hg; simp only [Option.some.injEq] at h; subst h; exact (r.wd hg).2.2.1
    · cases h
  unfold dep at h
  split at h
  · split at h
    · exact key _ h
    · exact key _ h
    · exact key _ h
    · cases h
  · split at h
    · exact key _ h
    · cases h
  · cases h
section
variable {l : List Oper} {A : List Nat} {Q : Act → World → Prop} {N n done done' i : Nat} {K : Tk} {s : St E} {m : Mn E} {e : Env} {w : World} {d : Option Nat} {op : Op} {ty : TypeId} {pos : String} {af : Array Edge}
theorem TR.cons (r : RelH w0 G0 s m w) {T : List (Nat × Nat)} (h : TR m T K) {Y : World → Prop} (hY : ∀ w, Wd m (dep s op) w → Y w) : TR m (tkE s i op T) ((i, Y) :: K) := fun p hp => by
  unfold tkE
  rcases List.mem_cons.1 hp with rfl | hp
  · cases hd : dep s op with
    | none => rw [hd] at hY; exact .inl hY
    | some k => rw [hd] at hY; exact .inr ⟨k, List.mem_cons_self, dep_lt r hd, hY⟩
  · rcases h p hp with h1 | ⟨k, h1, h2⟩
    · exact .inl h1
    · refine .inr ⟨k, ?_, h2⟩
      split
      · exact List.mem_cons_of_mem _ h1
      · exact h1
theorem vcTk_ok (r : Rel w0 G0 s m e w) {T : List (Nat × Nat)} (hT : TR m T K) {C : List (Nat × Nat) → St E → Prop} (h : vcTk F Z s i d op T C) (hd : dOk d = true)
    (tk : ∀ v, OpVal P N e w ⟨d, op, ty, pos, af, none⟩ v → WD P l A Q N n done' ((i, fun w => OpVal P N e w ⟨d, op, ty, pos, af, none⟩ v) :: K) (e.putO d v) w → WD P l A Q N (n + 1) done K e w)
    (hk : ∀ s' m' T' K' v, Up m m' → Rel w0 G0 s' m' (e.putO d v) w → TR m' T' K' → C T' s' → WD P l A Q N n done' K' (e.putO d v) w) : WD P l A Q N (n + 1) done K e w := by
  unfold vcTk at h
  split at h
  · rename_i x hx
    obtain ⟨v, h1, h2⟩ := ev_ok (N := N) r hx
    obtain ⟨m', u, r'⟩ := r.putV hd h1
    exact tk v (h2 w (r.wdOp _) _ _ _ _ _) (hk _ _ _ _ _ u r' ((hT.cons r.toRelH fun w hw => h2 w hw _ _ _ _ _).up u) h)
  · rename_i b hx
    have h2 := ev_ok (N := N) r hx
    exact tk _ (h2 w (r.wdOp _) _ _ _ _ _) (hk _ _ _ _ _ (m.cmp_up b) (r.cmp hd) ((hT.cons r.toRelH fun w hw => h2 w hw _ _ _ _ _).up (m.cmp_up b)) h)
  · rename_i c x hx
    cases c with
    | false => rw [brM_f] at h; exact h.elim
    | true =>
      rw [brM_t] at h
      obtain ⟨v, h1, h2⟩ := ev_ok (N := N) r hx rfl
      exact tk v (h2 w (r.wdOp _) _ _ _ _ _) (hk _ _ _ _ _ (Up.refl m) (r.put hd fun y hy => by simp only [Option.some.injEq] at hy; subst hy; exact h1) (hT.cons r.toRelH fun w hw => h2 w hw _ _ _ _ _) h)
  · rename_i c x hx
    obtain ⟨rfl, v, h1, h2⟩ := ev_ok (N := N) r hx
    rw [brM_t] at h
    exact tk v (h2 w (r.wdOp _) _ _ _ _ _) (hk _ _ _ _ _ (Up.refl m) (r.put hd fun y hy => by simp only [Option.some.injEq] at hy; subst hy; exact h1) (hT.cons r.toRelH fun w hw => h2 w hw _ _ _ _ _) h)
  · exact h.elim
theorem vcTk1_ok (r : Rel w0 G0 s m e w) {T : List (Nat × Nat)} (hT : TR m T K) {C : List (Nat × Nat) → St E → Prop} (h : vcTk1 F Z s i d op T C) (hd : dOk d = true)
    (tk : ∀ v, OpVal P N e w ⟨d, op, ty, pos, af, none⟩ v → WD P l A Q N n done' ((i, fun w => OpVal P N e w ⟨d, op, ty, pos, af, none⟩ v) :: K) (e.putO d v) w → WD P l A Q N (n + 1) done K e w)
    (hk : ∀ s' m' T' K' v, Up m m' → Rel w0 G0 s' m' (e.putO d v) w → TR m' T' K' → C T' s' → WD P l A Q N n done' K' (e.putO d v) w) : WD P l A Q N (n + 1) done K e w := by
  unfold vcTk1 at h
  split at h
  · split at h
    · rename_i x hx
      obtain ⟨v, h1, h2⟩ := opd_ok r hx
      obtain ⟨q, s', _, r', h'⟩ := ask_ok r h2 h
      cases q <;> exact vcTk_ok r' hT h' hd tk hk
    · exact h.elim
  · exact vcTk_ok r hT h hd tk hk
theorem vcTake_ok (r : Rel w0 G0 s m e w) {T : List (Nat × Nat)} (hT : TR m T K) {C : List (Nat × Nat) → St E → Prop} {o : Oper} (hi : l[i]? = some o) (htk : tkB l A done i = true) (hd' : done ||| (1 <<< i) = done') (h : vcTake F Z N l.toArray s i o T C)
    (hk : ∀ s' m' T' K' v, Up m m' → Rel w0 G0 s' m' (e.putO o.dst v) w → TR m' T' K' → C T' s' → WD P l A Q N n done' K' (e.putO o.dst v) w) : WD P l A Q N (n + 1) done K e w := by
  obtain ⟨d, op, ty, pos, af, gd⟩ := o
  unfold vcTake at h
  cases hdd : dOk d && okD N d with
  | false => simp only [hdd, cond_false] at h
  | true =>
    simp only [hdd, cond_true] at h
    rw [Bool.and_eq_true] at hdd
    obtain ⟨hd, hN⟩ := hdd
    cases gd with
    | none => exact vcTk1_ok (ty := ty) (pos := pos) (af := af) r hT h hd (fun v hv hw => wdTake i hi htk hd' hv hN hw) hk
    | some g =>
      obtain ⟨j, q⟩ := g
      simp only at h
      split at h
      · rename_i k hj
        split at h
        · rename_i hs
          obtain ⟨v, h1, h2⟩ := r.sl _ _ hs
          have h2 : v = _ := h2
          subst h2
          exact wdOffU i hi htk hd' hj h1 hN (hk _ _ _ _ _ (Up.refl m) (r.put hd fun y hy => by simp only [Option.some.injEq] at hy; subst hy; rfl) hT h)
        · rename_i x _ hs
          obtain ⟨v, h1, h2⟩ := r.sl _ _ hs
          obtain ⟨p, s', hp, r', h'⟩ := ask_ok r h2 h
          subst hp
          have off : ∀ {b b' : Bool}, l[i]? = some ⟨d, op, ty, pos, af, some (j, b)⟩ → e k = some (.bool b') → (b' == b) = false → C T (s'.put d (some .undef)) → WD P l A Q N (n + 1) done K e w := fun hi hb hne h' =>
            wdOff i hi htk hd' hj hb hne hN (hk _ _ _ _ _ (Up.refl m) (r'.put hd fun y hy => by simp only [Option.some.injEq] at hy; subst hy; rfl) hT h')
          have on : ∀ {b : Bool}, l[i]? = some ⟨d, op, ty, pos, af, some (j, b)⟩ → e k = some (.bool b) → vcTk1 F Z s' i d op T C → WD P l A Q N (n + 1) done K e w := fun hi hb h' =>
            vcTk1_ok (ty := ty) (pos := pos) (af := af) r' hT h' hd (fun v hv hw => wdTakeG i hi htk hd' hj hb hv hN hw) hk
          cases p <;> cases q
          · exact on hi h1 h'
          · exact off hi h1 rfl h'
          · exact off hi h1 rfl h'
          · exact on hi h1 h'
        · exact h.elim
      · exact h.elim
theorem allP_get {p : Nat → Prop} : ∀ {l : List Nat}, allP p l → ∀ k ∈ l, p k
  | [], h, _, _ => h.elim
  | [k], h, j, hj => by rw [List.mem_singleton] at hj; subst hj; exact h
  | k :: k2 :: r, h, j, hj => by
    rcases List.mem_cons.1 hj with rfl | hj
    · exact h.1
    · exact allP_get h.2 j hj
theorem wds_of {ks : List Nat} {T : Tk} (h : ∀ k ∈ ks, WD1 P l A Q N n done T e w k) : WDs P l A Q N n done T e w ks := by
  induction ks with
  | nil => trivial
  | cons k r ih => exact ⟨h k List.mem_cons_self, ih fun j hj => h j (List.mem_cons_of_mem _ hj)⟩
theorem dst_mem {o : Oper} {l : List Oper} {t : Nat} (h : o ∈ l) (ht : o.dst = some t) : t ∈ dsts l := by
  induction l with
  | nil => cases h
  | cons x r ih =>
    rcases List.mem_cons.1 h with rfl | h
    · exact dsts_hd ht
    · exact dsts_tl (ih h)
theorem dsts_one {o : Oper} {l : List Oper} {t : Nat} (h : o ∈ l) (ht : t ∈ dsts [o]) : t ∈ dsts l := by
  unfold dsts at ht
  split at ht
  · rename_i d hd
    have : t = d := by simpa [dsts] using ht
    subst this; exact dst_mem h hd
  · cases ht
end
theorem vcD_ok {call : CallH E} (hcall : CallOk P w0 G0 call) {l : List Oper} {A : List Nat} {Q : Act → World → Prop} {N : Nat} {C : St E → Prop} {m0 : Mn E} {e0 : Env}
    (hk : ∀ s' m' e' w', Up m0 m' → Rel w0 G0 s' m' e' w' → (∀ t, t ∉ dsts l → e' t = e0 t) → C s' → ∀ a, Fr N a e' → Q a w') :
    ∀ (n done : Nat) (T : List (Nat × Nat)) (K : Tk) (s : St E) (m : Mn E) (e : Env) (w : World), Up m0 m → Rel w0 G0 s m e w → (∀ t, t ∉ dsts l → e t = e0 t) → TR m T K → vcD F Z call N l A n done T s C → WD P l A Q N n done K e w
  | 0, done, T, K, s, m, e, w, u, r, he, hT, h => by
    unfold vcD at h
    cases hr : (rdyL l done).isEmpty with
    | false => rw [hr] at h; exact h.elim
    | true => rw [hr] at h; exact wdDone (List.isEmpty_iff.1 hr) (hk s m e w u r he h)
  | n + 1, done, T, K, s, m, e, w, u, r, he, hT, h => by
    unfold vcD at h
    split at h
    · rename_i hr; exact wdDone hr (hk s m e w u r he h)
    · rename_i k ks hr
      split at h
      · rename_i i hf
        have hp := List.find?_some hf
        rw [Bool.and_eq_true] at hp
        split at h
        · rename_i o ho
          refine vcTake_ok r hT ho hp.2 rfl h fun s' m' T' K' v u' r' hT' hC => ?_
          exact vcD_ok hcall hk n _ T' K' s' m' _ w (u.trans u') r' (fun t ht => (putO_other fun hd => ht (dst_mem (List.mem_of_getElem? ho) hd)).trans (he t ht)) hT' hC
        · exact h.elim
      · refine wdAll (k :: ks) hr rfl (wds_of fun i hi => ?_)
        have hi' := allP_get h i hi
        split at hi'
        · rename_i o ho
          refine wd1 ho fun hG => vcL_ok hcall [o] r hi' fun s' m' e' w' u' r' he' hC => ?_
          simp only at hC
          cases hv : verB s' (T.filter fun p => !(A.getD i 0).testBit p.1) with
          | false => rw [hv] at hC; exact hC.elim
          | true =>
            rw [hv] at hC
            have hT' : TR m' _ (K.keep A i) := (hT.up u').keep
            exact wdNext hG rfl rfl (hT'.all r'.toRelH hv) (vcD_ok hcall hk n _ _ _ s' m' e' w' (u.trans u') r' (fun t ht => (he' t fun h => ht (dsts_one (List.mem_of_getElem? ho) h)).trans (he t ht)) hT' hC)
        · exact hi'.elim
end Go.Vz

namespace Go.Vz
open Go Go.Gx
variable {E : DE} {P : Program}
/-! ### Entries, one by one -/
def EOk (m : Mn E) (x : Nat × Nat × HB E) : Prop := x.1 < m.n ∧ x.2.1 < m.n ∧ m.C x.2.1 = x.2.2 ∧ HB1 m x.2.2 (m.ν x.1) (m.R x.2.1) (m.O x.2.1)
theorem EOk.up {m m' : Mn E} (u : Up m m') {x : Nat × Nat × HB E} (h : EOk m x) : EOk m' x := by
  obtain ⟨h1, h2, h3, h4⟩ := h
  exact ⟨Nat.lt_of_lt_of_le h1 u.n, Nat.lt_of_lt_of_le h2 u.n, (u.c _ h2).trans h3, by rw [u.ν _ h1, u.r _ h2, u.o _ h2]; exact h4.up u⟩
theorem HR.iff {m : Mn E} : ∀ {h : List (Nat × Nat × HB E)} {bl : List Bx} {L : List (Nat × Obj)}, HR m h bl L ↔ bl = h.flatMap (fun x => m.R x.2.1) ∧ L = h.flatMap (fun x => m.O x.2.1) ∧ ∀ x ∈ h, EOk m x
  | [], bl, L => by simp [HR]
  | (id, k, x) :: r, bl, L => by
    constructor
    · rintro ⟨bl', L', h1, h2, h3, h4, h5, h6, h7⟩
      obtain ⟨g1, g2, g3⟩ := HR.iff.1 h7
      refine ⟨by rw [h1, g1]; rfl, by rw [h2, g2]; rfl, fun y hy => ?_⟩
      rcases List.mem_cons.1 hy with rfl | hy
      · exact ⟨h3, h4, h5, h6⟩
      · exact g3 y hy
    · rintro ⟨h1, h2, h3⟩
      obtain ⟨g1, g2, g3, g4⟩ := h3 _ List.mem_cons_self
      exact ⟨_, _, h1, h2, g1, g2, g3, g4, HR.iff.2 ⟨rfl, rfl, fun y hy => h3 y (List.mem_cons_of_mem _ hy)⟩⟩
theorem flat_perm {α β : Type} (f : α → List β) {a b : List α} (h : a.Perm b) : (a.flatMap f).Perm (b.flatMap f) := by
  induction h with
  | nil => exact .refl _
  | cons x _ ih => simp only [List.flatMap_cons]; exact ih.append_left _
  | swap x y l => simp only [List.flatMap_cons, ← List.append_assoc]; exact (List.perm_append_comm).append_right _
  | trans _ _ ih1 ih2 => exact ih1.trans ih2
theorem sub_perm {α : Type} {f : α → Nat} : ∀ {a b : List α}, (a.map f).Nodup → (∀ x ∈ a, x ∈ b) → ∃ r, b.Perm (a ++ r)
  | [], b, _, _ => ⟨b, .refl _⟩
  | x :: t, b, hn, hs => by
    rw [List.map_cons, List.nodup_cons] at hn
    obtain ⟨b1, b2, rfl⟩ := List.append_of_mem (hs x List.mem_cons_self)
    have ht : ∀ y ∈ t, y ∈ b1 ++ b2 := fun y hy => by
      have := hs y (List.mem_cons_of_mem _ hy)
      simp only [List.mem_append, List.mem_cons] at this ⊢
      rcases this with h | rfl | h
      · exact .inl h
      · exact (hn.1 (List.mem_map.2 ⟨_, hy, rfl⟩)).elim
      · exact .inr h
    obtain ⟨r, hr⟩ := sub_perm hn.2 ht
    exact ⟨r, List.perm_middle.trans (hr.cons x)⟩
theorem mem_sub {w0 w : World} {G0 G : Gh} {n : Nat} {bl b2 r1 : List Bx} {L L2 r2 : List (Nat × Obj)} (hC : Cx w0 G0 G w ⟨[], L⟩) (hB : Bxs G w n bl ⟨[], L⟩) (h1 : bl.Perm (b2 ++ r1)) (h2 : L.Perm (L2 ++ r2)) :
    Cx w0 G0 G w ⟨[], L2⟩ ∧ Bxs G w n b2 ⟨[], L2⟩ := by
  have hl : ∀ x ∈ L2, x ∈ L := fun x hx => h2.symm.subset (List.mem_append_left _ hx)
  have hb : ∀ x ∈ b2, x ∈ bl := fun x hx => h1.symm.subset (List.mem_append_left _ hx)
  refine ⟨⟨hC.holds, hC.os, hC.tape, hC.output, hC.size, hC.old', hC.gle, hC.fresh, fun x hx => hC.held x (hl x hx), ?_⟩, ⟨fun x hx => hB.at_ x (hb x hx), ?_, fun x hx hm => ?_⟩⟩
  · have := (h2.map (·.1)).nodup_iff.1 hC.hnd
    rw [List.map_append] at this
    exact (List.nodup_append.1 this).1
  · have := (h1.map (·.1)).nodup_iff.1 hB.nodup
    rw [List.map_append] at this
    exact (List.nodup_append.1 this).1
  · obtain ⟨y, hy, he⟩ := List.mem_map.1 hm
    exact hB.apart x (hb x hx) (List.mem_map.2 ⟨y, hl y hy, he⟩)
/-! ### Hints -/
/-- Where an own slice lies: in a slot, in a box. -/
inductive OwP where
  | sl (t : Nat)
  | bx (id i : Nat)
/-- What is told of a loop: what its slots hold, its own slices, the blocks that turn, by data of a type; what stays true; what falls. -/
structure LH (E : DE) where
  ι : Type
  ks : List Nat
  sl : ι → List (SV E)
  inv : ι → Prop
  mu : ι → Nat
  ow : List (OwP × Ty × Nat) := []
  ox : ι → List (HB E) := fun _ => []
  hk : List Nat := []
  hc : ι → List (HB E) := fun _ => []
/-- A value without names. -/
def clo1 : SV E → Bool
  | .ptr _ _ => false
  | .own _ => false
  | .oel _ _ _ _ => false
  | .mp _ => false
  | .ifc _ _ _ => false
  | .stm _ => false
  | .vw _ _ => false
  | .otl _ _ _ => false
  | .vel _ _ _ _ => false
  | .vsl _ _ _ _ _ => false
  | .bv _ => false
  | .agg _ => false
  | .tup _ => false
  | .fn _ _ => false
  | .mth _ _ => false
  | .nxt => false
  | _ => true
def clo : SV E → Bool
  | .agg l => l.all clo1
  | x => clo1 x
/-- Tests by what they are. -/
def res1 (bs : List Bool) : SV E → SV E
  | .bv id => match bs[id]? with | some q => .b q | none => .bv id
  | .lit q => .b q
  | x => x
def res (bs : List Bool) : SV E → SV E
  | .agg l => .agg (l.map (res1 bs))
  | x => res1 bs x
theorem L.res {m : Mn E} {x : SV E} {v : Value} (h : L m x v) : L m (res1 m.bs x) v := by
  cases x <;> try exact h
  simp only [res1]
  split
  · rename_i q hq
    obtain ⟨_, h⟩ := h
    show v = .bool q
    rw [h]; unfold Mn.b; rw [hq]; rfl
  · exact h
theorem res1_leaf {bs : List Bool} {x : SV E} : leaf (res1 bs x) = leaf x := by
  cases x <;> try rfl
  simp only [res1]; split <;> rfl
theorem C1.res {m : Mn E} {x : SV E} {cs : List Value} (h : C1 m x cs) : C1 m (res1 m.bs x) cs := by
  cases hl : leaf x with
  | true =>
    obtain ⟨v, rfl, h1⟩ := h.leaf_ hl
    exact leaf_C1 (by rw [res1_leaf]; exact hl) h1.res
  | false => cases x <;> first | exact h | (cases hl; done)
theorem RC.res {m : Mn E} : ∀ {l : List (SV E)} {cs : List Value}, RC m l cs → RC m (l.map (res1 m.bs)) cs
  | [], _, h => h
  | _ :: _, _, ⟨c1, c2, e, h1, h2⟩ => ⟨c1, c2, e, h1.res, h2.res⟩
theorem RV.res {m : Mn E} {x : SV E} {v : Value} (h : RV m x v) : RV m (res m.bs x) v := by
  cases hl : leaf x with
  | true =>
    have : Vz.res m.bs x = res1 m.bs x := by cases x <;> first | rfl | (cases hl; done)
    rw [this]
    exact leaf_RV (by rw [res1_leaf]; exact hl) (leaf_L hl h).res
  | false =>
    cases x <;> first
      | exact h
      | (obtain ⟨cs, h1, h2⟩ := h; exact ⟨cs, h1, RC.res h2⟩)
      | (cases hl; done)
/-- What has no names says the same, whatever they mean. -/
theorem L.clo {m m' : Mn E} (hg : GLe m.G m'.G) {x : SV E} {v : Value} (hc : clo1 x = true) (h : L m x v) : L m' x v := by
  cases x <;> first
    | exact h
    | exact Sl.mono hg h
    | (obtain ⟨b, o, row, h1, h2, h3⟩ := h; exact ⟨b, o, row, h1, RowG.mono hg h2, Rp.mono hg h3⟩)
    | (cases hc; done)
theorem RC.clo {m m' : Mn E} (hg : GLe m.G m'.G) : ∀ {l : List (SV E)} {cs : List Value}, l.all clo1 = true → RC m l cs → RC m' l cs
  | [], _, _, h => h
  | x :: _, _, hc, ⟨c1, c2, e, h1, h2⟩ => by
    simp only [List.all_cons, Bool.and_eq_true] at hc
    refine ⟨c1, c2, e, ?_, h2.clo hg hc.2⟩
    cases hl : leaf x with
    | true => obtain ⟨v, rfl, h3⟩ := h1.leaf_ hl; exact leaf_C1 hl (h3.clo hg hc.1)
    | false => cases x <;> first | exact h1 | (cases hl; done) | (cases hc.1; done)
theorem RV.clo {m m' : Mn E} (hg : GLe m.G m'.G) {x : SV E} {v : Value} (hc : Vz.clo x = true) (h : RV m x v) : RV m' x v := by
  cases hl : leaf x with
  | true =>
    have : clo1 x = true := by cases x <;> first | exact hc | (cases hl; done)
    exact leaf_RV hl ((leaf_L hl h).clo hg this)
  | false =>
    cases x <;> first
      | exact h
      | (obtain ⟨cs, h1, h2⟩ := h; exact ⟨cs, h1, RC.clo hg hc h2⟩)
      | (cases hc; done)
      | (cases hl; done)
/-! ### Names of a round -/
def ixOf : List Nat → Nat → Option Nat
  | [], _ => none
  | q :: r, x => bif Nat.beq q x then some 0 else match ixOf r x with | some j => some (j + 1) | none => none
def loc1 (qs : List Nat) : SV E → Option (SV E)
  | .own q => match ixOf qs q with | some j => some (.own j) | none => none
  | x => bif clo1 x then some x else none
def locL (qs : List Nat) : List (SV E) → Option (List (SV E))
  | [] => some []
  | x :: r => match loc1 qs x, locL qs r with | some y, some l => some (y :: l) | _, _ => none
def loc (qs : List Nat) : SV E → Option (SV E)
  | .agg l => match locL qs l with | some k => some (.agg k) | none => none
  | x => loc1 qs x
def glo1 (b : Nat) : SV E → SV E
  | .own j => .own (b + j)
  | x => x
def glo (b : Nat) : SV E → SV E
  | .agg l => .agg (l.map (glo1 b))
  | x => glo1 b x
def gloH (b : Nat) : HB E → HB E
  | .box T c => .box T (c.map (glo1 b))
  | x => x
def locN (n0 : Nat) (qs : List Nat) : SV E → Option (SV E)
  | .ptr id off => bif Nat.blt id n0 then some (.ptr id off) else none
  | .mp id => bif Nat.blt id n0 then some (.mp id) else none
  | x => loc1 qs x
def locNL (n0 : Nat) (qs : List Nat) : List (SV E) → Option (List (SV E))
  | [] => some []
  | x :: r => match locN n0 qs x, locNL n0 qs r with | some y, some l => some (y :: l) | _, _ => none
def locH (n0 : Nat) (s : St E) (qs : List Nat) : HB E → Option (HB E)
  | .box T c => match locNL n0 qs (c.map fun x => res1 s.bs (rsv1 s.hp x)) with | some k => some (.box T k) | none => none
  | .arr t e xs => some (.arr t e xs)
  | .map k v xs => some (.map k v xs)
  | .itr mid ver kt k left => bif Nat.blt mid n0 && Nat.blt ver n0 then some (.itr mid ver kt k left) else none
  | .cur mid ver kt k x left => bif Nat.blt mid n0 && Nat.blt ver n0 then some (.itr mid ver kt k left) else none
  | _ => none
theorem ixOf_get : ∀ {qs : List Nat} {x j : Nat}, ixOf qs x = some j → qs[j]? = some x
  | [], _, _, h => by cases h
  | q :: r, x, j, h => by
    unfold ixOf at h
    cases hb : Nat.beq q x with
    | true =>
      rw [hb] at h; simp only [cond_true, Option.some.injEq] at h; subst h
      rw [Nat.eq_of_beq_eq_true hb]; rfl
    | false =>
      rw [hb] at h; simp only [cond_false] at h
      split at h
      · rename_i k hk
        simp only [Option.some.injEq] at h; subst h
        have := ixOf_get hk
        simpa using this
      · cases h
/-- Names by which a round goes on. -/
structure Nm (m m' : Mn E) (b : Nat) (qs : List Nat) : Prop where
  g : GLe m'.G m.G
  q : ∀ j q, qs[j]? = some q → b + j < m.n ∧ m.ν (b + j) = m'.ν q
  l : b ≤ m.n ∧ ∀ i, i < b → m.ν i = m'.ν i ∧ m.O i = m'.O i
theorem L.loc {m m' : Mn E} {b : Nat} {qs : List Nat} (n : Nm m m' b qs) {x y : SV E} {v : Value} (h : loc1 qs x = some y) (hv : L m' x v) : L m (glo1 b y) v := by
  unfold loc1 at h
  split at h
  · split at h
    · rename_i q j hj
      simp only [Option.some.injEq] at h; subst h
      obtain ⟨h1, h2⟩ := n.q _ _ (ixOf_get hj)
      obtain ⟨_, h3, h4⟩ := hv
      exact ⟨h1, by rw [h2]; exact h3, by rw [h2]; exact h4⟩
    · cases h
  · rename_i hx
    cases hc : clo1 x with
    | false => rw [hc] at h; cases h
    | true =>
      rw [hc] at h; simp only [cond_true, Option.some.injEq] at h; subst h
      have : glo1 b x = x := by cases x <;> first | rfl | (cases hc; done)
      rw [this]; exact hv.clo n.g hc
theorem loc1_leaf {qs : List Nat} {b : Nat} {x y : SV E} (h : loc1 qs x = some y) : leaf (glo1 b y) = leaf x := by
  unfold loc1 at h
  split at h
  · split at h
    · simp only [Option.some.injEq] at h; subst h; rfl
    · cases h
  · cases hc : clo1 x with
    | false => rw [hc] at h; cases h
    | true =>
      rw [hc] at h; simp only [cond_true, Option.some.injEq] at h; subst h
      cases x <;> rfl
theorem C1.loc {m m' : Mn E} {b : Nat} {qs : List Nat} (n : Nm m m' b qs) {x y : SV E} {cs : List Value} (h : loc1 qs x = some y) (hv : C1 m' x cs) : C1 m (glo1 b y) cs := by
  cases hl : leaf x with
  | true =>
    obtain ⟨v, rfl, h1⟩ := hv.leaf_ hl
    exact leaf_C1 (by rw [loc1_leaf h]; exact hl) (L.loc n h h1)
  | false =>
    cases x <;> first
      | (cases hl; done)
      | (simp [loc1, clo1] at h; done)
      | (simp only [loc1, clo1, cond_true, Option.some.injEq] at h; subst h; first | exact hv | (obtain ⟨_, _, hf⟩ := hv; cases hf; done))
theorem RC.loc {m m' : Mn E} {b : Nat} {qs : List Nat} (n : Nm m m' b qs) : ∀ {l k : List (SV E)} {cs : List Value}, locL qs l = some k → RC m' l cs → RC m (k.map (glo1 b)) cs
  | [], k, cs, h, hv => by simp only [locL, Option.some.injEq] at h; subst h; exact hv
  | x :: l, k, cs, h, ⟨c1, c2, e, h1, h2⟩ => by
    simp only [locL] at h
    split at h
    · rename_i y r hy hr
      simp only [Option.some.injEq] at h; subst h
      exact ⟨c1, c2, e, C1.loc n hy h1, RC.loc n hr h2⟩
    · cases h
theorem C1.locN {m m' : Mn E} {b n0 : Nat} (hn0 : n0 ≤ b) {qs : List Nat} (n : Nm m m' b qs) {x y : SV E} {cs : List Value} (h : locN n0 qs x = some y) (hv : C1 m' x cs) : C1 m (glo1 b y) cs := by
  unfold Vz.locN at h
  split at h
  · rename_i id off
    cases hb : Nat.blt id n0 with
    | false => rw [hb] at h; cases h
    | true =>
      rw [hb] at h; simp only [cond_true, Option.some.injEq] at h; subst h
      have hlt : id < b := Nat.lt_of_lt_of_le (Nat.le_of_ble_eq_true hb) hn0
      obtain ⟨v, rfl, _, b', o', h1, h2⟩ := hv.leaf_ rfl
      exact leaf_C1 (x := .ptr id off) rfl ⟨Nat.lt_of_lt_of_le hlt n.l.1, b', o', by rw [(n.l.2 id hlt).1]; exact h1, h2⟩
  · rename_i id
    cases hb : Nat.blt id n0 with
    | false => rw [hb] at h; cases h
    | true =>
      rw [hb] at h; simp only [cond_true, Option.some.injEq] at h; subst h
      have hlt : id < b := Nat.lt_of_lt_of_le (Nat.le_of_ble_eq_true hb) hn0
      obtain ⟨v, rfl, _, h1, h2⟩ := hv.leaf_ rfl
      exact leaf_C1 (x := .mp id) rfl ⟨Nat.lt_of_lt_of_le hlt n.l.1, by rw [(n.l.2 id hlt).1]; exact h1, by rw [(n.l.2 id hlt).1]; exact h2⟩
  · exact C1.loc n h hv
theorem RC.locN {m m' : Mn E} {b n0 : Nat} (hn0 : n0 ≤ b) {qs : List Nat} (n : Nm m m' b qs) : ∀ {l k : List (SV E)} {cs : List Value}, locNL n0 qs l = some k → RC m' l cs → RC m (k.map (glo1 b)) cs
  | [], k, cs, h, hv => by simp only [locNL, Option.some.injEq] at h; subst h; exact hv
  | x :: l, k, cs, h, ⟨c1, c2, e, h1, h2⟩ => by
    simp only [locNL] at h
    split at h
    · rename_i y r hy hr
      simp only [Option.some.injEq] at h; subst h
      exact ⟨c1, c2, e, C1.locN hn0 n hy h1, RC.locN hn0 n hr h2⟩
    · cases h
theorem RV.loc {m m' : Mn E} {b : Nat} {qs : List Nat} (n : Nm m m' b qs) {x y : SV E} {v : Value} (h : Vz.loc qs x = some y) (hv : RV m' x v) : RV m (glo b y) v := by
  unfold Vz.loc at h
  split at h
  · split at h
    · rename_i l k hk
      simp only [Option.some.injEq] at h; subst h
      obtain ⟨cs, h1, h2⟩ := hv
      exact ⟨cs, h1, RC.loc n hk h2⟩
    · cases h
  · rename_i hx
    cases hl : leaf x with
    | true =>
      have h1 := L.loc n h (leaf_L hl hv)
      have h2 := loc1_leaf (b := b) h
      rw [hl] at h2
      have : glo b y = glo1 b y := by cases y <;> first | rfl | (cases h2; done)
      rw [this]
      exact leaf_RV h2 h1
    | false =>
      cases x <;> first
        | (cases hl; done)
        | (exact (hx _ rfl).elim)
        | (simp [loc1, clo1] at h; done)
        | (simp only [loc1, clo1, cond_true, Option.some.injEq] at h; subst h; exact hv)
end Go.Vz
