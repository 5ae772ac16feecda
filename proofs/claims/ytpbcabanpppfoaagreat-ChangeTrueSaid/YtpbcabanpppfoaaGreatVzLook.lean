/- Walks by reckoning: a slice of numbers of one's own, put in order (slices.Sort). No condition. -/
import Derived.Test.YtpbcabanpppfoaaGreatVzKey
import Derived.Sort.Grow
import Derived.Test.YtpbcabanpppfoaaGreatCzA
import Derived.Test.YtpbcabanpppfoaaGreatCzL
import Derived.Test.YtpbcabanpppfoaaGreatVzOnce
set_option linter.all false
namespace Go.Vz
open Go Go.Gx
variable {E : DE} {P : Program}
/-- What slices.Sort does with numbers. -/
structure SortOk (P : Program) (fs : Nat) : Prop where
  nil : ∀ w, Calls P fs #[.slice none 0 0] w fun e w' => e = .returned (.tuple #[]) ∧ w' = w
  run : ∀ (b off cap : Nat) (zs : List Int) (w : World), Go.Sort.Holds (Value.int .i64) w b off zs.toArray → b < w.heap.size → zs.length ≤ maxL →
    Calls P fs #[.slice (some ⟨b, off, none⟩) zs.length cap] w fun e w' => e = .returned (.tuple #[]) ∧ ∃ n os, w' = Go.Sort.grow (Go.Sort.putRow (Value.int .i64) (Go.Sort.ahead w n) b off (isort zs).toArray) os
def slcH (fs T : Nat) (els : CallH E) : CallH E := fun f l s K => bif Nat.beq f fs then match l with
    | [.nils] => K s (.tup [])
    | [.own id] => match hget s.hp id with
      | some (_, .arr .int e xs) => cond (Nat.beq e T) (K (s.turn id (.arr .int e (isort xs))) (.tup [])) (No f)
      | _ => No f
    | _ => No f
  else els f l s K
section
variable {w0 w : World} {G0 G : Gh} {M : Mu}
theorem cx_grow (h : Cx w0 G0 G w M) (n : Nat) (os : Array Obj) : Cx w0 G0 G (Go.Sort.grow (Go.Sort.ahead w n) os) M := by
  have hg : ∀ b, b < w.heap.size → (Go.Sort.grow (Go.Sort.ahead w n) os).heap[b]? = w.heap[b]? := fun b hb => by
    show (w.heap ++ os)[b]? = _
    rw [Array.getElem?_append_left hb]
  have hl : ∀ b (o : Obj), w.heap[b]? = some o → b < w.heap.size := fun b o e => (Array.getElem?_eq_some_iff.1 e).1
  exact ⟨fun b o hb => by rw [hg b (hl b o (h.holds b o hb))]; exact h.holds b o hb, h.os, h.tape, h.output, by
      have := h.size
      show w0.heap.size ≤ (w.heap ++ os).size
      rw [Array.size_append]; omega, fun b hb hm => by rw [hg b (by have := h.size; omega)]; exact h.old' b hb hm, h.gle, h.fresh, fun x hx => ⟨by
      rw [hg _ (hl _ _ (h.held x hx).1)]; exact (h.held x hx).1, (h.held x hx).2⟩, h.hnd⟩
theorem bxs_grow {k : Nat} {l : List Bx} (h : Bxs G w k l M) (n : Nat) (os : Array Obj) : Bxs G (Go.Sort.grow (Go.Sort.ahead w n) os) k l M :=
  ⟨fun x hx => ⟨by
    show (w.heap ++ os)[x.1]? = _
    rw [Array.getElem?_append_left (Array.getElem?_eq_some_iff.1 (h.at_ x hx).1).1]; exact (h.at_ x hx).1, (h.at_ x hx).2⟩, h.nodup, h.apart⟩
theorem putRow_row {g off : Nat} {cs : List Value} {t : TypeId} {ys : List Int} (hg : w.heap[g]? = some (.cells cs.toArray t (0, 0))) (h : off + ys.length ≤ cs.length) :
    Go.Sort.putRow (Value.int .i64) w g off ys.toArray = w.setRow g (cs.take off ++ ys.map (Value.int .i64) ++ cs.drop (off + ys.length)).toArray := by
  have he : (cs.take off ++ ys.map (Value.int .i64) ++ cs.drop (off + ys.length)).toArray = Go.Sort.putCells (Value.int .i64) off ys.toArray cs.toArray := by
    apply Array.ext'
    apply List.ext_getElem?
    intro k
    simp only [Go.Sort.putCells, List.size_toArray, Array.toList_mapIdx, List.getElem?_mapIdx]
    by_cases h3 : k < off
    · rw [List.append_assoc, List.getElem?_append_left (by simp; omega), List.getElem?_take_of_lt h3]
      cases cs[k]? with
      | none => rfl
      | some x => simp only [Option.map_some]; rw [if_neg (by omega)]
    · by_cases h4 : k < off + ys.length
      · rw [List.getElem?_append_left (by simp; omega), List.getElem?_append_right (by simp; omega), List.getElem?_map, List.length_take, Nat.min_eq_left (by omega), List.getElem?_eq_getElem (show k - off < ys.length by omega), List.getElem?_eq_getElem (show k < cs.length by omega)]
        simp only [Option.map_some]
        rw [if_pos ⟨by omega, h4⟩, getElem!_pos _ _ (by simp; omega)]
        simp
      · rw [List.getElem?_append_right (by simp; omega), List.getElem?_drop]
        simp only [List.length_append, List.length_take, List.length_map, Nat.min_eq_left (show off ≤ cs.length by omega)]
        rw [show off + ys.length + (k - (off + ys.length)) = k by omega]
        cases cs[k]? with
        | none => rfl
        | some x => simp only [Option.map_some]; rw [if_neg (by omega)]
  rw [he]
  have hlt : g < w.heap.size := (Array.getElem?_eq_some_iff.1 hg).1
  have hv : w.heap[g] = .cells cs.toArray t (0, 0) := (Array.getElem?_eq_some_iff.1 hg).2
  unfold Go.Sort.putRow Go.Sort.mapBlock World.setRow
  cases w with
  | mk heap tape drawn os output =>
    congr 1
    apply Array.ext
    · simp
    · intro k h1 h2
      simp only [Array.getElem_modify]
      split
      · rename_i hk; subst hk; simp at hv; simp [hv, Go.Sort.onCells]
      · rfl
theorem rows2_int : ∀ {rows : List (List Value)} {xs : List Int}, Rows2 G rows xs → rows = xs.map fun x => [Value.int .i64 x]
  | [], [], _ => rfl
  | r :: rs, x :: xs, h => by rw [rows2_int h.2]; have h1 : r = [.int .i64 x] := h.1; rw [h1]; rfl
  | [], _ :: _, h => h.elim
  | _ :: _, [], h => h.elim
theorem int_rows2 : ∀ (xs : List Int), Rows2 G (xs.map fun x => [Value.int .i64 x]) xs
  | [] => trivial
  | _ :: xs => ⟨rfl, int_rows2 xs⟩
theorem int_flat : ∀ (xs : List Int), (xs.map fun x => [Value.int .i64 x]).flatten = xs.map (Value.int .i64)
  | [] => rfl
  | x :: xs => by rw [List.map_cons, List.flatten_cons, int_flat xs]; rfl
end
theorem slcH_ok {fs T : Nat} (ho : SortOk P fs) {els : CallH E} (he : CallAll P els) : CallAll P (slcH fs T els) := by
  intro w0 G0 f args s K m w vs rh hl hv h
  unfold slcH at h
  cases hb : Nat.beq f fs with
  | false => rw [hb] at h; exact he w0 G0 f args s K m w vs rh hl hv h
  | true =>
    rw [hb] at h
    simp only [cond_true] at h
    obtain rfl := Nat.eq_of_beq_eq_true hb
    split at h
    · obtain ⟨v1, a1, b1⟩ := hv 0 _ rfl
      have b1 : v1 = .slice none 0 0 := b1
      subst b1
      have hvl : vs = [.slice none 0 0] := by
        match vs, hl with
        | [p], _ => simp at a1; rw [a1]
      subst hvl
      refine (ho.nil w).mono ?_
      rintro e w' ⟨rfl, rfl⟩
      exact ⟨_, rfl, s, m, .tup [], Up.refl m, rh, ⟨[], rfl, rfl⟩, h⟩
    · rename_i id
      split at h
      · rename_i ver e xs hg
        cases hc : Nat.beq e T with
        | false => rw [hc] at h; exact h.elim
        | true =>
          rw [hc, cond_true] at h
          obtain ⟨v1, a1, b1⟩ := hv 0 _ rfl
          obtain ⟨_, h3a, h3⟩ := leaf_L rfl b1
          have hvl : vs = [v1] := by
            match vs, hl with
            | [p], _ => simp at a1; rw [a1]
          subst hvl
          obtain ⟨_, _, _, ⟨o, e1, e2, h5, h6⟩, _⟩ := rh.wd hg
          obtain ⟨p, q, A, B, hC, hB, hT⟩ := rh.turn hg
          rw [e1] at hB
          rw [e2] at hC hB
          obtain ⟨A1, n1, c1, h7⟩ := h3
          rw [h7] at h3a h5
          subst h3a
          obtain ⟨rows, ⟨g1, g2⟩, g3⟩ := h5
          have hr := rows2_int g3
          cases o with
          | none =>
            obtain ⟨rfl, hv0⟩ := g2
            obtain rfl : xs = [] := by cases xs with | nil => rfl | cons => simp at hr
            rw [hv0] at h7 ⊢
            refine (ho.nil w).mono ?_
            rintro e' w' ⟨rfl, rfl⟩
            obtain ⟨u, r'⟩ := hT m.G w' (.arr .int e []) [] [] (GLe.refl _) hC hB ⟨none, rfl, rfl, by rw [h7]; exact Ow.nil_ _ _, by simp [maxL]⟩
            exact ⟨_, rfl, _, _, .tup [], u, r', ⟨[], rfl, rfl⟩, h⟩
          | some ob =>
            obtain ⟨g, T', cs⟩ := ob
            obtain ⟨rfl, off, cap, hv0, k1, k2, k3, k4⟩ := g2
            have hlen : rows.length = xs.length := g3.length
            have hsz : Rp.sz Int = 1 := rfl
            rw [hlen] at hv0 k1 k4
            rw [hv0] at h7 ⊢
            have k3 : cs.length = off + cap * 1 := k3
            have k4 : (cs.drop off).take (xs.length * 1) = rows.flatten := k4
            rw [Nat.mul_one] at k3 k4
            rw [hr, int_flat] at k4
            have hi : (p ++ ([(g, T', cs)] ++ q))[p.length]? = some (g, T', cs) := by simp
            have hgb := hB.get hi
            have hlt : g < w.heap.size := (Array.getElem?_eq_some_iff.1 hgb.1).1
            refine (ho.run g off cap xs w (fun j hj => ?_) hlt h6).mono ?_
            · have hj : j < xs.length := by simpa using hj
              refine cell_of_box hgb.1 ?_
              have : ((cs.drop off).take xs.length)[j]? = (xs.map (Value.int .i64))[j]? := by rw [k4]
              rw [List.getElem?_take_of_lt hj, List.getElem?_drop, List.getElem?_map] at this
              rw [this]
              simp [getElem!_pos, hj]
            · rintro e' w' ⟨rfl, n, os, rfl⟩
              have hl2 : (isort xs).length = xs.length := isort_length xs
              have e5 : Go.Sort.putRow (Value.int .i64) (Go.Sort.ahead w n) g off (isort xs).toArray = Go.Sort.ahead (w.setRow g (cs.take off ++ (isort xs).map (Value.int .i64) ++ cs.drop (off + (isort xs).length)).toArray) n := by
                rw [← putRow_row hgb.1 (by omega)]; rfl
              rw [e5]
              have hC' := cx_grow (hC.setRow' hgb.2.1 hgb.2.2 (hB.off hi) (cs.take off ++ (isort xs).map (Value.int .i64) ++ cs.drop (off + (isort xs).length)).toArray) n os
              have hB' := bxs_grow (hB.set hi (cs.take off ++ (isort xs).map (Value.int .i64) ++ cs.drop (off + (isort xs).length))) n os
              rw [List.set_append_right _ _ (Nat.le_refl _), Nat.sub_self] at hB'
              obtain ⟨u, r'⟩ := hT m.G _ (.arr .int T' (isort xs)) [(g, T', _)] [] (GLe.refl _) hC' hB' ⟨some (g, T', _), rfl, rfl, by
                rw [h7]
                refine ⟨(isort xs).map fun x => [Value.int .i64 x], ⟨fun r hr => ?_, rfl, off, cap, by rw [List.length_map, hl2], by rw [List.length_map]; omega, k2, ?_, ?_⟩, int_rows2 _⟩
                · obtain ⟨x, _, rfl⟩ := List.mem_map.1 hr; rfl
                · show _ = off + cap * 1
                  simp; omega
                · show List.take (_ * 1) _ = _
                  rw [int_flat, List.length_map, Nat.mul_one, List.append_assoc, List.drop_append_of_le_length (by simp; omega), List.drop_take_self, List.nil_append, List.take_append_of_le_length (by simp), List.take_of_length_le (by simp)], by rw [hl2]; exact h6⟩
              exact ⟨_, rfl, _, _, .tup [], u, r', ⟨[], rfl, rfl⟩, h⟩
      · exact h.elim
    · exact h.elim
end Go.Vz

namespace Go.Proofs.YtpbcabanpppfoaaGreat
open Go Go.Gx Go.Vz
set_option maxRecDepth 100000
theorem sort_ok : SortOk Tryz.prog 45 where
  nil := fun w => Go.Proofs.AnyM.slices_Sort_int_none Go.Proofs.Tryz.sortA none 0 w
  run := fun b off cap zs w hH hb hl => by
    refine (Go.Proofs.AnyM.slices_Sort_int Go.Proofs.Tryz.sortA b off cap zs w hH hb (by unfold maxL at hl; omega)).mono ?_
    rintro e w' ⟨rfl, n, os, rfl⟩
    refine ⟨rfl, n, os, ?_⟩
    have : (zs.mergeSort fun x y => decide (x ≤ y)) = isort zs := mergeI_eq (List.Perm.refl zs)
    rw [this]
abbrev Γk : Nat → Option (Con D) := addC Γc 92 oth_c
theorem Kk : Kept EF Tryz.prog Γk Δc := Kc.c oth_ok
noncomputable def Zk : ZF Tryz.prog D := Z0.side Kk
/-- Calls, the sorting ones among them. -/
noncomputable abbrev callS (Δ : Nat → Option (OCon D)) (H : Nat → Nat → Option (Hint D)) (n : Nat) : CallH D := slcH 45 3 (sortH 53 94 (calls EF Zk Γk Δ H n))
theorem callS_ok {Δ : Nat → Option (OCon D)} (h : Kept EF Tryz.prog Γk Δ) (H : Nat → Nat → Option (Hint D)) (n : Nat) : CallAll Tryz.prog (callS Δ H n) := slcH_ok sort_ok (sortH_ok sortK_ok (calls_ok Zk h n))
/-- A range over a map goes on. -/
theorem nx {κ : Type} {left : List κ} {a : Prop} {b : κ → List κ → Prop} (h0 : left = [] → a) (h1 : ∀ x rest, (∃ l1 l2, left = l1 ++ x :: l2 ∧ rest = l1 ++ l2) → b x rest) : Nx left a b := ⟨h0, fun l1 x l2 h => h1 x (l1 ++ l2) ⟨l1, l2, h, rfl⟩⟩
end Go.Proofs.YtpbcabanpppfoaaGreat

namespace Go.Vz
open Go Go.Gx
variable {E : DE} {P : Program} (F : DF E) (Z : ZF P E)
def okL (s : St E) : Nat → Bool
  | 0 => true
  | k + 1 => (match hget s.hp k with | some (q, _) => Nat.beq q k | none => false) && okL s k
/-- A result, as data, where all lies as it lay. -/
def finL (c : OCon E) (s : St E) (x : SV E) : Option (CL E c.rsh) := match comps c.rsh x with
  | some l => match frzA s c.rsh l with
    | some s1 => bif okL s1 (c.es.length + 1) then shutA F s1.bs c.es [] c.rsh (l.map (rsv s1.hp)) else none
    | none => none
  | none => none
/-- It is kept, and but looks. -/
def OCon.looks (P : Program) (f : Nat) (c : OCon E) : Prop := ∀ (a : CL E c.ash) (e : EL E c.es) (w0 : World) (G0 : Gh) (m : Mn E) (w : World) (vs : List Value), c.holds a e → RelH w0 G0 (ocS F c e) m w → LV m (opnA F c.es (List.range c.es.length) c.ash a) vs →
  Calls P f vs.toArray w fun x w' => ∃ v, x = .returned v ∧ ∃ s' m' y, Up m m' ∧ RelH w0 G0 s' m' w' ∧ RV m' y v ∧ finL F c s' y = some (c.post a e).1
def lcRes (c : OCon E) (p : CL E c.rsh) : SV E := match opnA F c.es [] c.rsh p with
  | [x] => x
  | l => .tup l
def lconH (Λ : Nat → Option (OCon E)) (els : CallH E) : CallH E := fun f l s K => match Λ f with
  | some c => match ocPre F c s l with
    | some (s1, ρ, a, e) => cond (Nat.beq s1.hp.length (c.es.length + (frm s1 ρ []).length)) (match c.pre with
      | none => K s1 (lcRes F c (c.post a e).1)
      | some p => Pre (p a e) ∧ K s1 (lcRes F c (c.post a e).1)) (No f)
    | none => No f
  | none => els f l s K
theorem OCon.proveL {c : OCon E} {H : CL E c.ash → EL E c.es → Nat → Nat → Option (Hint E)} {call : CL E c.ash → EL E c.es → CallH E} (hc : ∀ a e, CallAll P (call a e)) {f : Nat} {T : Prop} (t : T)
    (h : T = (∀ a e, c.holds a e → inH F Z (H a e) (call a e) f (opnA F c.es (List.range c.es.length) c.ash a) (ocS F c e) (fun s x => finL F c s x = some (c.post a e).1)) := by kernel_rfl) : c.looks F P f := by
  replace h := h.mp t
  intro a e w0 G0 m w vs hp rh hv
  obtain ⟨g1, g2⟩ := LV_at hv
  exact inH_ok F Z (hc a e) w0 G0 f _ _ _ m w vs rh g1 (fun i x hi => by obtain ⟨v, h1, h2⟩ := g2 i x hi; exact ⟨v, h1, V1_RV h2⟩) (h a e hp)
variable {F}
theorem lcRes_ok {m : Mn E} {c : OCon E} {p : CL E c.rsh} {v : Value} {vs : List Value} (h : LV m (opnA F c.es [] c.rsh p) vs) (hv : (∃ x, c.rsh = [x] ∧ vs = [v]) ∨ (c.rsh.length ≠ 1 ∧ v = .tuple vs.toArray)) : RV m (lcRes F c p) v := by
  have hl := opnA_len (F := F) (es := c.es) (ρ := []) (x := p)
  unfold lcRes
  split
  · rename_i x hx
    rw [hx] at h
    rcases hv with ⟨y, h1, rfl⟩ | ⟨h1, _⟩
    · obtain ⟨u, us, e, g1, g2⟩ := h
      injection e with e1 e2
      subst e1
      exact V1_RV g1
    · rw [hx] at hl; exact (h1 (by simpa using hl.symm)).elim
  · rename_i hx
    rcases hv with ⟨y, h1, rfl⟩ | ⟨_, rfl⟩
    · obtain ⟨z, hz⟩ := List.length_eq_one_iff.1 (hl.trans (congrArg List.length h1))
      exact (hx z hz).elim
    · exact ⟨vs, rfl, h⟩
theorem okL_at {s : St E} : ∀ {k : Nat}, okL s k = true → ∀ j, j < k → ∃ x, hget s.hp j = some (j, x)
  | 0, _, j, h => absurd h (Nat.not_lt_zero j)
  | k + 1, hk, j, h => by
    unfold okL at hk
    rw [Bool.and_eq_true] at hk
    rcases Nat.lt_or_ge j k with h1 | h1
    · exact okL_at hk.2 j h1
    · obtain rfl : j = k := by omega
      have h2 := hk.1
      split at h2
      · rename_i q x hx
        obtain rfl := Nat.eq_of_beq_eq_true h2
        exact ⟨x, hx⟩
      · cases h2
theorem flat_range {α β : Type} {f : α → List β} {g : Nat → List β} {l : List α} (h : ∀ j x, l[j]? = some x → g j = f x) : (List.range l.length).flatMap g = l.flatMap f := by
  have : l.flatMap f = ((List.range l.length).map fun j => l[j]?).flatMap fun x => match x with | some x => f x | none => [] := by
    have e : ((List.range l.length).map fun j => l[j]?) = l.map some := by
      apply List.ext_getElem?
      intro i
      rw [List.getElem?_map, List.getElem?_map]
      rcases Nat.lt_or_ge i l.length with h1 | h1
      · rw [List.getElem?_range h1]; simp [List.getElem?_eq_getElem h1]
      · rw [List.getElem?_eq_none (by simpa using h1), List.getElem?_eq_none h1]; rfl
    rw [e, List.flatMap_map]
  rw [this, List.flatMap_map]
  refine List.flatMap_congr_ fun j hj => ?_
  have hj : j < l.length := by simpa using hj
  rw [List.getElem?_eq_getElem hj]
  exact h j _ (List.getElem?_eq_getElem hj)
/-- What the caller knows behind it. -/
theorem lookF_ok {w0 w w' : World} {G0 : Gh} {s s3 : St E} {m m3 : Mn E} {ρ : List Nat} {oe : List (Nat × Nat × HB E)} {c : OCon E} {cs : List (HB E)} (r : RelH w0 G0 s m w) (hoe : entsOf s ρ = some oe) (hk : ρ.length = c.es.length)
    (hn : nodB (ρ ++ (frm s ρ []).map fun x => x.1) = true) (hall : s.hp.Perm (oe ++ frm s ρ [])) (u : Up (m.sub oe cs (frm s ρ [])) m3) (r3 : RelH w0 G0 s3 m3 w') (ho : okL s3 (c.es.length + 1) = true) : RelH w0 G0 s (m.g m3.G) w' := by
  obtain ⟨o1, o2⟩ := entsOf_ok hoe
  have hl : oe.length = c.es.length := by rw [← hk, ← o1, List.length_map]
  obtain ⟨bl, L, hC, hB, hH⟩ := r.bx
  obtain ⟨eb, eL, hE⟩ := HR.iff.1 hH
  obtain ⟨bl3, L3, hC3, hB3, hH3⟩ := r3.bx
  obtain ⟨eb3, eL3, hE3⟩ := HR.iff.1 hH3
  -- the callee's entries, by name
  have hex : ∀ k, k ≤ c.es.length + 1 → ∃ es3 : List (Nat × Nat × HB E), es3.map (fun x => x.1) = List.range k ∧ es3.map (fun x => x.2.1) = List.range k ∧ ∀ x ∈ es3, x ∈ s3.hp := by
    intro k
    induction k with
    | zero => exact fun _ => ⟨[], rfl, rfl, fun x hx => by simp at hx⟩
    | succ k ih =>
      intro h
      obtain ⟨es3, h1, h2, h3⟩ := ih (by omega)
      obtain ⟨x, hx⟩ := okL_at ho k (by omega)
      refine ⟨es3 ++ [(k, k, x)], by simp [h1, List.range_succ], by simp [h2, List.range_succ], fun y hy => ?_⟩
      rcases List.mem_append.1 hy with hy | hy
      · exact h3 y hy
      · rw [List.mem_singleton] at hy; subst hy; exact hget_mem hx
  obtain ⟨es3, h1, h2, h3⟩ := hex _ (Nat.le_refl _)
  obtain ⟨rest, hperm⟩ := sub_perm (f := fun x : Nat × Nat × HB E => x.1) (a := es3) (b := s3.hp) (by rw [h1]; exact List.nodup_range) h3
  have p1 := flat_perm (fun x => m3.R x.2.1) hperm
  have p2 := flat_perm (fun x => m3.O x.2.1) hperm
  rw [List.flatMap_append] at p1 p2
  have q1 : es3.flatMap (fun x => m3.R x.2.1) = (oe ++ frm s ρ []).flatMap fun x => m.R x.2.1 := by
    have : es3.flatMap (fun x => m3.R x.2.1) = (List.range (c.es.length + 1)).flatMap m3.R := by rw [← h2, List.flatMap_map]
    rw [this, List.range_succ, List.flatMap_append, List.flatMap_append, ← hl]
    congr 1
    · refine (flat_range (f := fun x : Nat × Nat × HB E => m.R x.2.1) fun j x hj => ?_)
      have hlt := (List.getElem?_eq_some_iff.1 hj).1
      rw [u.r j (by show j < oe.length + 1; omega)]
      simp only [Mn.sub, hj]
    · rw [List.flatMap_singleton, u.r _ (by show oe.length < oe.length + 1; omega)]
      simp [Mn.sub]
  have q2 : es3.flatMap (fun x => m3.O x.2.1) = (oe ++ frm s ρ []).flatMap fun x => m.O x.2.1 := by
    have : es3.flatMap (fun x => m3.O x.2.1) = (List.range (c.es.length + 1)).flatMap m3.O := by rw [← h2, List.flatMap_map]
    rw [this, List.range_succ, List.flatMap_append, List.flatMap_append, ← hl]
    congr 1
    · refine (flat_range (f := fun x : Nat × Nat × HB E => m.O x.2.1) fun j x hj => ?_)
      have hlt := (List.getElem?_eq_some_iff.1 hj).1
      rw [u.o j (by show j < oe.length + 1; omega)]
      simp only [Mn.sub, hj]
    · rw [List.flatMap_singleton, u.o _ (by show oe.length < oe.length + 1; omega)]
      simp [Mn.sub]
  rw [q1] at p1
  rw [q2] at p2
  have s1 := flat_perm (fun x => m.R x.2.1) hall
  have s2 := flat_perm (fun x => m.O x.2.1) hall
  obtain ⟨hC2, hB2⟩ := mem_sub (b2 := bl) (L2 := L) hC3 hB3 (by rw [eb3, eb]; exact p1.trans (List.Perm.append_right _ s1.symm)) (by rw [eL3, eL]; exact p2.trans (List.Perm.append_right _ s2.symm))
  exact ⟨⟨bl, L, Cx.gcast hC2 rfl, Bxs.gcast hB2 rfl, hH.up (Mn.g_up (show GLe m.G m3.G from fun b o h => u.g b o h))⟩, r.n, r.bs⟩
theorem lconH_ok {Λ : Nat → Option (OCon E)} (hΛ : ∀ f c, Λ f = some c → c.looks F P f) {els : CallH E} (he : CallAll P els) : CallAll P (lconH F Λ els) := by
  intro w0 G0 f args s K m w vs rh hl hv h
  unfold lconH at h
  split at h
  · rename_i c hc
    split at h
    · rename_i s2 ρ a e hpre
      cases hln : Nat.beq s2.hp.length (c.es.length + (frm s2 ρ []).length) with
      | false => rw [hln] at h; exact h.elim
      | true =>
      rw [hln, cond_true] at h
      have hln := Nat.eq_of_beq_eq_true hln
      obtain ⟨hp, hK⟩ : c.holds a e ∧ K s2 (lcRes F c (c.post a e).1) := by
        unfold OCon.holds
        cases hpp : c.pre with
        | none => simp only [hpp] at h ⊢; exact ⟨trivial, h⟩
        | some p => simp only [hpp] at h ⊢; obtain ⟨⟨h1⟩, h2⟩ := h; exact ⟨h1, h2⟩
      unfold ocPre at hpre
      split at hpre
      · rename_i ρ' hρ
        split at hpre
        · rename_i s1 hs1
          split at hpre
          · rename_i s2' hs2
            split at hpre
            · rename_i oe hoe
              cases hn : nodB (ρ' ++ (frm s2' ρ' []).map fun x => x.1) with
              | false => rw [hn] at hpre; cases hpre
              | true =>
                rw [hn] at hpre
                simp only [cond_true] at hpre
                split at hpre
                · rename_i a' e' ha he'
                  simp only [Option.some.injEq, Prod.mk.injEq] at hpre
                  obtain ⟨rfl, rfl, rfl, rfl⟩ := hpre
                  have hk : ρ'.length = c.es.length := by have := rho_len hρ; simpa using this
                  obtain ⟨m1, u1, r1, _, _⟩ := frzA_ok rh hs1
                  obtain ⟨m2, u2, r2, _, _⟩ := frzE_ok r1 hs2
                  obtain ⟨n1, rS⟩ := sub_ok r2 hoe hn hk he'
                  obtain ⟨_, _, _, _, hH2⟩ := r2.bx
                  rw [← r2.bs] at ha
                  have hA := shutA_ok n1 ha (vs := vs) (by rw [List.length_map]; exact hl) fun i x hi => by
                    rw [List.getElem?_map] at hi
                    obtain ⟨y, hy, rfl⟩ := Option.map_eq_some_iff.1 hi
                    obtain ⟨v, h1, h2⟩ := hv i y hy
                    exact ⟨v, h1, ((h2.up u1).up u2).rsv hH2⟩
                  obtain ⟨o1, o2⟩ := entsOf_ok hoe
                  have hol : oe.length = c.es.length := by rw [← hk, ← o1, List.length_map]
                  obtain ⟨rest, hperm⟩ := sub_perm (f := fun x : Nat × Nat × HB E => x.1) (a := oe ++ frm s2' ρ' []) (b := s2'.hp) (by
                      rw [List.map_append, o1]; exact nodB_ok hn) (fun x hx => by
                      rcases List.mem_append.1 hx with hx | hx
                      · exact o2 x hx
                      · exact (List.mem_filter.1 hx).1)
                  have hrest : rest = [] := by
                    have := hperm.length_eq
                    rw [List.length_append, List.length_append] at this
                    exact List.length_eq_zero_iff.1 (by omega)
                  rw [hrest, List.append_nil] at hperm
                  refine Calls.mono (hΛ f c hc a' e' w0 G0 _ w vs hp rS hA) ?_
                  rintro x w' ⟨v, hx, s', m', y, u', r', hy, hfin⟩
                  unfold finL at hfin
                  split at hfin
                  · rename_i l hcomp
                    split at hfin
                    · rename_i s3 hs3
                      obtain ⟨m3, u3, r3, _, _⟩ := frzA_ok r' hs3
                      cases hok : okL s3 (c.es.length + 1) with
                      | false => rw [hok] at hfin; cases hfin
                      | true =>
                        rw [hok, cond_true] at hfin
                        have rb := lookF_ok r2 hoe hk hn hperm (u'.trans u3) r3 hok
                        obtain ⟨us, c1, c2, c3⟩ := comps_ok hcomp (hy.up u3)
                        obtain ⟨_, _, _, _, hH4⟩ := r3.bx
                        rw [← r3.bs] at hfin
                        have nn : NR m3 [] (m2.g m3.G) [] := ⟨fun _ _ h => h, fun j id h => by simp at h⟩
                        have hR := shutA_ok nn hfin (vs := us) (by rw [List.length_map]; exact c1) fun i x hi => by
                          rw [List.getElem?_map] at hi
                          obtain ⟨z, hz, rfl⟩ := Option.map_eq_some_iff.1 hi
                          obtain ⟨v, h1, h2⟩ := c2 i z hz
                          exact ⟨v, h1, h2.rsv hH4⟩
                        exact ⟨v, hx, _, _, _, (u1.trans u2).trans (Mn.g_up fun b o h => (u'.trans u3).g b o h), rb, lcRes_ok hR c3, hK⟩
                    · cases hfin
                  · cases hfin
                · cases hpre
            · cases hpre
          · cases hpre
        · cases hpre
      · cases hpre
    · exact h.elim
  · exact he w0 G0 f args s K m w vs rh hl hv h
/-- Calls: what but looks, what is of data, what turns entries, and what is walked in place. -/
def callsL (F : DF E) (Z : ZF P E) (Λ : Nat → Option (OCon E)) (Γ : Nat → Option (Con E)) (Δ : Nat → Option (OCon E)) (H : Nat → Nat → Option (Hint E)) : Nat → CallH E
  | 0 => lconH F Λ (conH F Γ (oconH F Δ noH))
  | n + 1 => lconH F Λ (conH F Γ (oconH F Δ (inH F Z H (callsL F Z Λ Γ Δ H n))))
/-- Promises that are kept. -/
def Looks (F : DF E) (P : Program) (Λ : Nat → Option (OCon E)) : Prop := ∀ f c, Λ f = some c → c.looks F P f
theorem Looks.nil : Looks F P fun _ => none := fun _ _ h => by cases h
theorem Looks.o {Λ : Nat → Option (OCon E)} (h : Looks F P Λ) {f : Nat} {c : OCon E} (hc : c.looks F P f) : Looks F P (addO Λ f c) := fun g c' hg => by
  unfold addO at hg
  cases hb : Nat.beq g f with
  | false => rw [hb] at hg; exact h g c' hg
  | true => rw [hb, cond_true] at hg; obtain rfl := Nat.eq_of_beq_eq_true hb; obtain rfl := Option.some.inj hg; exact hc
theorem callsL_ok {Z : ZF P E} {Λ : Nat → Option (OCon E)} (hΛ : Looks F P Λ) {Γ : Nat → Option (Con E)} {Δ : Nat → Option (OCon E)} (h : Kept F P Γ Δ) {H : Nat → Nat → Option (Hint E)} : ∀ n, CallAll P (callsL F Z Λ Γ Δ H n)
  | 0 => lconH_ok hΛ (conH_ok F h.g (oconH_ok F h.d noH_ok))
  | n + 1 => lconH_ok hΛ (conH_ok F h.g (oconH_ok F h.d (inH_ok F Z (callsL_ok hΛ h n))))
end Go.Vz
