/- Walks by reckoning: arrays of numbers. No condition. -/
import Derived.Test.YtpbcabanpppfoaaGreatVzRow
import Derived.Test.YtpbcabanpppfoaaGreatGxSlot
set_option linter.all false
namespace Go.Vz
open Go Go.Gx
variable {E : DE}
theorem seg_mid {α : Type} {A B C X : List α} {lo : Nat} (h : lo + X.length ≤ B.length) : (A ++ (B ++ C)).take (A.length + lo) ++ X ++ (A ++ (B ++ C)).drop (A.length + lo + X.length) = A ++ ((B.take lo ++ X ++ B.drop (lo + X.length)) ++ C) := by
  have e1 : (A ++ (B ++ C)).take (A.length + lo) = A ++ B.take lo := by
    rw [List.take_append, List.take_of_length_le (by omega), Nat.add_sub_cancel_left, List.take_append_of_le_length (by omega)]
  have e2 : (A ++ (B ++ C)).drop (A.length + lo + X.length) = B.drop (lo + X.length) ++ C := by
    rw [Nat.add_assoc, List.drop_append, List.drop_of_length_le (by omega), List.nil_append, Nat.add_sub_cancel_left, List.drop_append_of_le_length h]
  rw [e1, e2]; simp
/-- Numbers written into a row. -/
def lput (l : List Int) (lo : Nat) (X : List Int) : List Int := l.take lo ++ X ++ l.drop (lo + X.length)
theorem lput_len {l X : List Int} {lo : Nat} (h : lo + X.length ≤ l.length) : (lput l lo X).length = l.length := by
  unfold lput; simp only [List.length_append, List.length_take, List.length_drop]; omega
theorem lput_set {l : List Int} {i : Nat} {v : Int} (h : i < l.length) : lput l i [v] = l.set i v := by
  unfold lput; rw [List.set_eq_take_append_cons_drop, if_pos h]; simp
/-- A part of an array in a row is written. -/
theorem RC.vput {m : Mn E} {a r c : List (SV E)} {k : IntKind} {q o lo : Nat} {l X : List Int} {cs : List Value} (h1 : takeW o c = some a) (h2 : dropW o c = some (.vec k q l :: r)) (hc : RC m c cs) (hl : lo + X.length ≤ q) :
    RC m (a ++ .vec k q (lput l lo X) :: r) (cs.take (o + lo) ++ X.map (Value.int k) ++ cs.drop (o + lo + X.length)) ∧ o + lo + X.length ≤ cs.length := by
  have hA := hc.take h1
  obtain ⟨c1, c2, e, ⟨rfl, hq⟩, h3⟩ := hc.drop h2
  have ho : o ≤ cs.length := by rw [hc.len]; exact dropW_le h2
  have hcs : cs = cs.take o ++ (l.map (Value.int k) ++ c2) := by rw [← e, List.take_append_drop]
  have hlo : (cs.take o).length = o := by rw [List.length_take]; omega
  have hle : o + lo + X.length ≤ cs.length := by
    rw [hcs, List.length_append, hlo, List.length_append, List.length_map]; omega
  refine ⟨?_, hle⟩
  have := seg_mid (A := cs.take o) (B := l.map (Value.int k)) (C := c2) (X := X.map (Value.int k)) (lo := lo) (by simp only [List.length_map]; omega)
  rw [← hcs, hlo, List.length_map] at this
  rw [this]
  refine hA.append ⟨_, c2, rfl, ⟨?_, ?_⟩, h3⟩
  · unfold lput; simp [List.map_take, List.map_drop]
  · rw [lput_len (by omega), hq]
theorem RC.dput {m : Mn E} {a r c : List (SV E)} {o i : Nat} {g : Dig} {x : UInt8} {cs : List Value} (h1 : takeW o c = some a) (h2 : dropW o c = some (.dig g :: r)) (hc : RC m c cs) (hl : i < 32) :
    RC m (a ++ .dig (digPut g i x) :: r) (cs.take (o + i) ++ [.int .u8 (x.toNat : Int)] ++ cs.drop (o + i + 1)) ∧ o + i + 1 ≤ cs.length := by
  have hA := hc.take h1
  obtain ⟨c1, c2, e, h0, h3⟩ := hc.drop h2
  have h0 : c1 = g.cells := h0
  subst h0
  have ho : o ≤ cs.length := by rw [hc.len]; exact dropW_le h2
  have hcs : cs = cs.take o ++ (g.cells ++ c2) := by rw [← e, List.take_append_drop]
  have hlo : (cs.take o).length = o := by rw [List.length_take]; omega
  have hle : o + i + 1 ≤ cs.length := by
    rw [hcs, List.length_append, hlo, List.length_append, Dig.length_cells]; omega
  refine ⟨?_, hle⟩
  have := seg_mid (A := cs.take o) (B := g.cells) (C := c2) (X := [Value.int .u8 (x.toNat : Int)]) (lo := i) (by rw [Dig.length_cells]; simp; omega)
  rw [← hcs, hlo] at this
  simp only [List.length_singleton] at this
  rw [this]
  refine hA.append ⟨_, c2, rfl, ?_, h3⟩
  show _ = (digPut g i x).cells
  unfold Dig.cells digPut
  show List.take i (g.l.map _) ++ [_] ++ _ = (g.l.set i x).map _
  rw [List.map_set, List.set_eq_take_append_cons_drop, if_pos (by rw [List.length_map, g.h]; exact hl)]
  simp
theorem RC.vget {m : Mn E} {r c : List (SV E)} {k : IntKind} {q o i : Nat} {l : List Int} {cs : List Value} (h2 : dropW o c = some (.vec k q l :: r)) (hc : RC m c cs) (hi : i < q) : cs[o + i]? = some (.int k (l.getD i 0)) := by
  obtain ⟨c1, c2, e, ⟨rfl, hq⟩, h3⟩ := hc.drop h2
  have : (cs.drop o)[i]? = some (.int k (l.getD i 0)) := by
    rw [e, List.getElem?_append_left (by simp; omega), List.getElem?_map, List.getD_eq_getElem?_getD, List.getElem?_eq_getElem (by omega)]; rfl
  rwa [List.getElem?_drop] at this
theorem RC.dget {m : Mn E} {r c : List (SV E)} {o i : Nat} {g : Dig} {cs : List Value} (h2 : dropW o c = some (.dig g :: r)) (hc : RC m c cs) (hi : i < 32) : cs[o + i]? = some (.int .u8 ((g.l.getD i 0).toNat : Int)) := by
  obtain ⟨c1, c2, e, h0, h3⟩ := hc.drop h2
  have h0 : c1 = g.cells := h0
  subst h0
  have : (cs.drop o)[i]? = some (.int .u8 ((g.l.getD i 0).toNat : Int)) := by
    have hl : i < g.l.length := by rw [g.h]; exact hi
    rw [e, List.getElem?_append_left (by rw [Dig.length_cells]; exact hi)]
    unfold Dig.cells
    rw [List.getElem?_map, List.getD_eq_getElem?_getD, List.getElem?_eq_getElem hl]; rfl
  rwa [List.getElem?_drop] at this
/-- An array of numbers, written out. -/
def bldV (k : IntKind) (n : Nat) : List Int → List Nat → List (SV E) → Option (List Int)
  | l, [], [] => some l
  | l, i :: is, x :: xs => match asI x with
    | some (k', v) => bif Nat.blt i n && decide (k' = k) then bldV k n (l.set i v) is xs else none
    | none => none
  | _, _, _ => none
theorem bldV_ok {m : Mn E} {k : IntKind} {n : Nat} : ∀ {is : List Nat} {xs : List (SV E)} {l l' : List Int} {vs : List Value}, bldV k n l is xs = some l' → l.length = n → vs.length = xs.length → (∀ (i : Nat) (x : SV E), xs[i]? = some x → ∃ v, vs[i]? = some v ∧ RV m x v) →
    buildA 1 (l.map (Value.int k)) ((is.zip vs).map fun p => (p.1, p.2.cells.toList)) = some (l'.map (Value.int k)) ∧ l'.length = n
  | [], [], l, l', vs, h, hn, _, _ => by simp only [bldV, Option.some.injEq] at h; subst h; exact ⟨rfl, hn⟩
  | i :: is, x :: xs, l, l', [], h, _, hl, _ => by simp at hl
  | i :: is, x :: xs, l, l', v :: vs, h, hn, hl, hv => by
    simp only [bldV] at h
    split at h
    · rename_i k' z hz
      cases hb : Nat.blt i n && decide (k' = k) with
      | false => rw [hb] at h; cases h
      | true =>
        rw [hb] at h
        simp only [cond_true] at h
        simp only [Bool.and_eq_true, decide_eq_true_eq] at hb
        obtain ⟨hb, rfl⟩ := hb
        have hlt : i < n := Nat.le_of_ble_eq_true hb
        obtain ⟨u, e1, e2⟩ := hv 0 _ rfl
        simp only [List.getElem?_cons_zero, Option.some.injEq] at e1; subst e1
        have := asI_ok hz e2
        subst this
        obtain ⟨ih1, ih2⟩ := bldV_ok (vs := vs) h (by rw [List.length_set]; exact hn) (by simpa using hl) fun j y hj => by simpa using hv (j + 1) y (by simpa using hj)
        refine ⟨?_, ih2⟩
        simp only [List.zip_cons_cons, List.map_cons, buildA]
        rw [if_pos ⟨rfl, by rw [List.length_map]; omega⟩]
        have : (l.map (Value.int k')).take (i * 1) ++ (Value.int k' z).cells.toList ++ (l.map (Value.int k')).drop (i * 1 + 1) = (l.set i z).map (Value.int k') := by
          rw [Nat.mul_one, List.map_set, List.set_eq_take_append_cons_drop, if_pos (by rw [List.length_map]; omega)]
          show List.take i _ ++ [_] ++ _ = _
          simp
        rw [this]; exact ih1
    · cases h
  | [], _ :: _, _, _, _, h, _, _, _ => by simp [bldV] at h
  | _ :: _, [], _, _, _, h, _, _, _ => by simp [bldV] at h
section
variable {P : Program} {N : Nat} {e : Env} {w : World} {d : Option Tmp} {ty : TypeId} {pos : String} {af : Array Edge} {gd : Option (Nat × Bool)}
theorem arrOk_of {t n el sz : Nat} (h : arrOk P t n el sz = true) : P.underlying t = some (.array n el) ∧ ∃ inf, P.info? el = some inf ∧ inf.size = sz := by
  unfold arrOk at h
  rw [Bool.and_eq_true] at h
  obtain ⟨h1, h2⟩ := h
  revert h1
  split
  · rename_i n' e' hu
    intro h1
    rw [Bool.and_eq_true] at h1
    have e1 := Nat.eq_of_beq_eq_true h1.1
    have e2 := Nat.eq_of_beq_eq_true h1.2
    subst e1 e2
    refine ⟨hu, ?_⟩
    cases hq : P.info? el with
    | none => simp [hq] at h2
    | some inf => rw [hq] at h2; exact ⟨inf, rfl, Nat.eq_of_beq_eq_true h2⟩
  · intro h; cases h
theorem opIndexVec {t n el : Nat} {x y : Operand} {l : List Int} {k k' : IntKind} {i : Nat} (ht : arrOk P t n el 1 = true) (ho : oneOk P el = true) (hx : opv e x = some (.agg (l.map (Value.int k)).toArray)) (hl : l.length = n) (hy : opv e y = some (.int k' (i : Int))) (hi : i < n) :
    OpVal P N e w ⟨d, .index t x y, ty, pos, af, gd⟩ (.int k (l.getD i 0)) := fun a ha => by
  obtain ⟨hu, inf, hq, hz⟩ := arrOk_of ht
  have hp := run_part_one (P := P) (t := el) (off := i) (cs := (l.map (Value.int k)).toArray) (v := .int k (l.getD i 0)) ho (by
    rw [List.getElem?_toArray, List.getElem?_map, List.getD_eq_getElem?_getD, List.getElem?_eq_getElem (by omega)]; rfl) w
  have hi' : ¬ n ≤ i := by omega
  simp [execOp, ha.eval hx, ha.eval hy, Instr.index, asIntOf, run_underlying hu, sizeOf, typeInfo, hq, hz, hp]
  intro h; exact absurd h hi'
theorem opSliceArrG {t n el : Nat} {x : Operand} {lo hi : Option Operand} {b o l h : Nat} (ht : arrOk P t n el 1 = true) (hx : opv e x = some (.pointer (some ⟨b, o, none⟩)))
    (hlo : (lo = none ∧ l = 0) ∨ ∃ y k, lo = some y ∧ opv e y = some (.int k (l : Int))) (hhi : (hi = none ∧ h = n) ∨ ∃ y k, hi = some y ∧ opv e y = some (.int k (h : Int))) (h1 : l ≤ h) (h2 : h ≤ n) (h3 : l < n) :
    OpVal P N e w ⟨d, .slice t x lo hi none, ty, pos, af, gd⟩ (.slice (some ⟨b, o + l, none⟩) (h - l) (n - l)) := fun a ha => by
  obtain ⟨hu, inf, hq, hz⟩ := arrOk_of ht
  have hn : ¬ n = l := by omega
  have hb : (0 : Int) ≤ (h : Int) ∧ (h : Int) ≤ (n : Int) := by omega
  have hc : (l : Int) ≤ (h : Int) := by omega
  have hA : (⟨b, o, none⟩ : Addr).add l = ⟨b, o + l, none⟩ := by simp [Addr.add]
  have hA0 : (⟨b, o, none⟩ : Addr).add 0 = ⟨b, o, none⟩ := by simp [Addr.add]
  have hn0 : ¬ n = 0 := by omega
  rcases hlo with ⟨rfl, rfl⟩ | ⟨y, k, rfl, hy⟩
  · rcases hhi with ⟨rfl, rfl⟩ | ⟨y', k', rfl, hy'⟩
    · simp [execOp, ha.eval hx, Instr.sliceAt, run_underlying hu, Instr.sureAddr, Instr.sliceBounds, sizeOf, typeInfo, hq, hz, hA0, hn0]
    · simp [execOp, ha.eval hx, ha.eval hy', Instr.sliceAt, run_underlying hu, Instr.sureAddr, Instr.sliceBounds, Instr.sliceBound, asIntOf, sizeOf, typeInfo, hq, hz, h2, hA0, hn0]
  · rcases hhi with ⟨rfl, rfl⟩ | ⟨y', k', rfl, hy'⟩
    · simp [execOp, ha.eval hx, ha.eval hy, Instr.sliceAt, run_underlying hu, Instr.sureAddr, Instr.sliceBounds, Instr.sliceBound, asIntOf, sizeOf, typeInfo, hq, hz, h1, hA, hn]
    · simp [execOp, ha.eval hx, ha.eval hy, ha.eval hy', Instr.sliceAt, run_underlying hu, Instr.sureAddr, Instr.sliceBounds, Instr.sliceBound, asIntOf, sizeOf, typeInfo, hq, hz, h1, h2, hA, hn]
end
section
variable {P : Program} {ops : Array Oper} {Q : Exit → Act → World → Prop} {N : Nat} {e : Env} {w w0 : World} {G0 G : Gh} {rest : List Oper} {d : Option Tmp} {ty : TypeId} {pos : String} {af : Array Edge} {M : Mu} {bl : List Bx}
theorem wlClearB {x : Operand} {t el n c g T o : Nat} {rt : TypeId} {z : Value} {cs cs' : List Value} (i : Nat) (he : P.underlying t = some (.slice el)) (hz : (P.info? el).bind (fun i => i.zero) = some z) (hzc : z.cells = #[z]) (h1 : z.oneCell' = true)
    (hC : Cx w0 G0 G w M) (hB : Bxs G w w0.heap.size bl M) (hi : bl[i]? = some (g, T, cs)) (hx : opv e x = some (.slice (some ⟨g, o, none⟩) n c)) (hfit : o + n ≤ cs.length) (hcs : cs.take o ++ List.replicate n z ++ cs.drop (o + n) = cs') (hd : okD N d = true)
    (h : ∀ w', Cx w0 G0 G w' M → Bxs G w' w0.heap.size (bl.set i (g, T, cs')) M → WL P ops Q N rest (e.putO d (.tuple #[])) w') :
    WL P ops Q N (⟨d, .call ⟨.builtin .clear, #[x], #[t]⟩, rt, pos, af, none⟩ :: rest) e w := by
  have hg := hB.get hi
  have hzv : ∀ w : World, (zeroValue el).run P w = .ok z w := fun w => by
    cases hq : P.info? el with
    | none => simp [hq] at hz
    | some inf =>
      cases hzz : inf.zero with
      | none => simp [hq, hzz] at hz
      | some zv => simp [hq, hzz] at hz; subst hz; simp [zeroValue, typeInfo, hq, hzz]
  cases n with
  | zero =>
    have hcs : cs' = cs := by rw [← hcs]; simp
    subst hcs
    refine wlStep (R := fun v w' => v = .tuple #[] ∧ w' = w) hd (fun a ha => ?_) ?_
    · unfold OpR
      have hr : (execOp a.eval ⟨d, .call ⟨.builtin .clear, #[x], #[t]⟩, rt, pos, af, none⟩).run P w = .ok (.value (.tuple #[])) w := by
        simp only [execOp, resolve, Sem.run_bind, Sem.run_pure, Result.andThen_ok, invoke, builtin, List.map_toArray, List.map_cons, List.map_nil, ha.eval hx]
        simp [Builtin.clear_, run_underlying he]
      rw [hr]; exact ⟨rfl, rfl⟩
    · rintro v w' ⟨rfl, rfl⟩
      refine h w' hC ?_
      have : bl.set i (g, T, cs') = bl := by
        apply List.ext_getElem?
        intro j
        rw [List.getElem?_set]
        split
        · rename_i hj; subst hj; rw [hi]; split <;> simp_all
        · rfl
      rw [this]; exact hB
  | succ n =>
    have hfl : (Builtin.zeroCells z.cells (n + 1)).toList = List.replicate (n + 1) z := by
      rw [hzc]
      simp [Builtin.zeroCells]
      apply List.ext_getElem
      · simp
      · intro i h1 h2
        simp [Nat.mod_one]
    refine wlStep (R := fun v w' => v = .tuple #[] ∧ w' = w.setRow g cs'.toArray) hd (fun a ha => ?_) ?_
    · unfold OpR
      have hst := run_storeCells_at (P := P) g o T (List.replicate (n + 1) z) 0 cs.toArray w hg.1 (by simpa using hfit) (by intro v hv; rw [List.eq_of_mem_replicate hv]; exact h1)
      simp only [Nat.add_zero, List.length_replicate] at hst
      have hst' : (storeCells ⟨g, o, none⟩ (List.replicate (n + 1) z)).run P w = .ok () (w.setRow g cs'.toArray) := by rw [← hcs]; simpa using hst
      have hr : (execOp a.eval ⟨d, .call ⟨.builtin .clear, #[x], #[t]⟩, rt, pos, af, none⟩).run P w = .ok (.value (.tuple #[])) (w.setRow g cs'.toArray) := by
        simp only [execOp, resolve, Sem.run_bind, Sem.run_pure, Result.andThen_ok, invoke, builtin, List.map_toArray, List.map_cons, List.map_nil, ha.eval hx]
        simp [Builtin.clear_, run_underlying he, hzv, hfl, hst']
      rw [hr]; exact ⟨rfl, rfl⟩
    · rintro v w' ⟨rfl, rfl⟩
      exact h _ (hC.setRow' hg.2.1 hg.2.2 (hB.off hi) _) (hB.set hi cs')
end
/-! ### Arrays as data -/
structure AV (k : IntKind) (n : Nat) where
  l : List Int
  deriving DecidableEq, Inhabited
instance {k : IntKind} {n : Nat} : Rp (AV k n) := ⟨n, fun _ cs x => cs = x.l.map (Value.int k) ∧ x.l.length = n, fun h => by rw [h.1, List.length_map, h.2], fun h => by rw [h.1]; intro u hu; obtain ⟨z, _, rfl⟩ := List.mem_map.1 hu; rfl, fun _ h => h⟩
section
variable {k : IntKind} {n : Nat}
def flA (x : AV k n) : List (SV E) := [.vec k n x.l]
theorem foA (x : AV k n) (m : Mn E) (cs : List Value) (h : Rp.Is m.G cs x) : RC m (flA x) cs := ⟨cs, [], (List.append_nil _).symm, h, rfl⟩
def shA (k : IntKind) (n : Nat) (_ : List Bool) : List (SV E) → Option (AV k n)
  | [.vec k' n' l] => bif decide (k' = k) && Nat.beq n' n then some ⟨l⟩ else none
  | _ => none
theorem soA (x : AV k n) (m : Mn E) (l : List (SV E)) (cs : List Value) (h : shA k n m.bs l = some x) (hc : RC m l cs) : Rp.Is m.G cs x := by
  unfold shA at h
  split at h
  · rename_i k' n' l'
    cases hq : decide (k' = k) && Nat.beq n' n with
    | false => rw [hq] at h; cases h
    | true =>
      rw [hq] at h
      simp only [cond_true, Option.some.injEq] at h; subst h
      simp only [Bool.and_eq_true, decide_eq_true_eq] at hq
      obtain ⟨rfl, h2⟩ := hq
      have h2 := Nat.eq_of_beq_eq_true h2
      subst h2
      exact hc.one_
  · cases h
end
end Go.Vz
