/- Own slices handed over to a call and back; tails; what is cleared. No condition. -/
import Derived.Test.YtljcgggflgbenaaGreatDoorGxFour
import Derived.Lib.SliceRun
set_option linter.all false
namespace Go.Gx
open Go Go.RowKit
variable {M : Mu}
section
variable {P : Program} {N : Nat} {e : Env} {w : World} {d : Option Tmp} {ty : TypeId} {pos : String} {af : Array Edge} {gd : Option (Nat × Bool)}
theorem slice_of {t : Nat} (h : isSlice P t = true) : ∃ el, P.underlying t = some (.slice el) := by
  unfold isSlice at h
  split at h
  · exact ⟨_, by assumption⟩
  · cases h
theorem opNilSlice {t yt : TypeId} {x y : Operand} {A : Option Addr} {n cap : Nat} (hx : opv e x = some (.slice A n cap)) (hy : opv e y = some (.slice none 0 0)) (ht : isSlice P t = true) :
    OpVal P N e w ⟨d, .binOp .eql t x y yt, ty, pos, af, gd⟩ (.bool A.isNone) := fun a ha => by
  obtain ⟨el, hu⟩ := slice_of ht
  have := Go.Lib.run_eql_slice_nil (P := P) w t el A n cap 0 0 hu
  have hg : (eqGuard .eql t x y (.slice A n cap) (.slice none 0 0)).run P w = .ok () w := rfl
  simp [execOp, ha.eval hx, ha.eval hy, this, hg]
end
section
variable {α : Type} [Rp α] {P : Program} {G : Gh} {w : World} {n T : Nat} {o : Option Bx} {xs : List α} {bl r : List Bx}
/-- An element of an own slice. -/
theorem Ow.elemAt {g T' so : Nat} {cs : List Value} {k cap : Nat} (h : Ow G (some (g, T', cs)) T (.slice (some ⟨g, so, none⟩) k cap) xs) (hB : Bxs G w n (bl ++ (Option.toList (some (g, T', cs)) ++ r)) M) {i : Nat} {x : α} (hx : xs[i]? = some x) :
    ∃ row, w.rangeAt g (so + i * Rp.sz α) row ∧ Rp.Is G row x ∧ row.length = Rp.sz α := by
  obtain ⟨rows, ⟨h1, h2⟩, h3⟩ := h
  obtain ⟨row, hrow, hrx⟩ := h3.get hx
  obtain ⟨_, so', cap', hsl, h4, h5, h6, h7⟩ := h2
  obtain rfl : so = so' := by injection hsl with e1; injection e1 with e1; injection e1
  refine ⟨row, fun j v hj => ?_, hrx, Rp.len hrx⟩
  have hg := (hB.at_ (g, T', cs) (by simp)).1
  have hf := flatten_get h1 hrow hj
  rw [← h7, List.getElem?_take] at hf
  split at hf
  · rw [List.getElem?_drop, ← Nat.add_assoc] at hf
    rw [World.cell?, hg]; simpa using hf
  · cases hf
end

theorem zeros_flat (zc : List Value) : ∀ m : Nat, (Builtin.zeroCells zc.toArray m).toList = (List.replicate m zc).flatten := by
  have key : ∀ m : Nat, List.map (fun i => zc.toArray[i % zc.length]!) (List.range (m * zc.length)) = (List.replicate m zc).flatten := by
    intro m
    induction m with
    | zero => simp
    | succ m ih =>
      rw [Nat.succ_mul, List.range_add, List.map_append, ih, List.replicate_succ', List.flatten_append]
      congr 1
      simp only [List.map_map, List.flatten_cons, List.flatten_nil, List.append_nil]
      apply List.ext_getElem?
      intro i
      rw [List.getElem?_map]
      by_cases hi : i < zc.length
      · rw [List.getElem?_range hi, List.getElem?_eq_getElem hi]
        have : (m * zc.length + i) % zc.length = i := by rw [Nat.mul_add_mod_self_right, Nat.mod_eq_of_lt hi]
        simp [Function.comp, this, hi]
      · rw [List.getElem?_eq_none (by simp; omega), List.getElem?_eq_none (by omega)]; rfl
  intro m
  have := key m
  unfold Builtin.zeroCells
  simp only [Array.toList_map, Array.toList_range, List.size_toArray]
  exact this
theorem whole_row {row vs : List Value} {n : Nat} (h : vs.length = n) (hr : row.length = n) : row.take 0 ++ vs ++ row.drop (0 + n) = vs := by
  rw [List.take_zero, List.nil_append, List.drop_of_length_le (by omega), List.append_nil]
/-! ### Own slices handed over -/
/-- It returns a slice that is the caller's, over a block that is new or one of K. -/
def RetP (P : Program) (f : FuncId) (args : Array Value) (G : Gh) (w : World) (K : List Nat) (R : Gh → Option Bx → Value → Prop) : Prop :=
  Calls P f args w fun e w' => ∃ v G' o, e = .returned v ∧ Cx w G G' w' K ∧ Bxs G' w' w.heap.size o.toList K ∧ R G' o v
section
variable {P : Program} {ops : Array Oper} {Q : Exit → Act → World → Prop} {N : Nat} {e : Env} {w w0 : World} {G0 G : Gh} {rest : List Oper} {d : Option Tmp} {ty : TypeId} {pos : String} {af : Array Edge} {bl r : List Bx} {o : Option Bx}
theorem endP {v : Value} {K : List Nat} {L : List (Nat × Obj)} {R : Gh → Option Bx → Value → Prop} (hC : Cx w0 G0 G w ⟨K, L⟩) (hB : Bxs G w w0.heap.size (bl ++ (o.toList ++ r)) ⟨K, L⟩) (hR : R G o v) :
    (fun e w' => ∃ v G' o, e = Ending.returned v ∧ Cx w0 G0 G' w' K ∧ Bxs G' w' w0.heap.size o.toList K ∧ R G' o v) (.returned v) w :=
  ⟨v, G, o, rfl, hC.forget, hB.forget.sub ((List.sublist_append_left _ _).trans (List.sublist_append_right _ _)), hR⟩
/-- Other boxes over a call that may turn one of them. -/
theorem Bxs.over {w' : World} {G' : Gh} {n : Nat} (h : Bxs G w n (bl ++ (o.toList ++ r)) M) {o' : Option Bx} (k : Cx w G G' w' (o.toList.map (·.1))) (h' : Bxs G' w' w.heap.size o'.toList (o.toList.map (·.1))) (hn : n ≤ w.heap.size) (hM : ∀ x ∈ M.held, x.1 < w.heap.size) : Bxs G' w' n (bl ++ (o'.toList ++ r)) M := by
  have hp : (bl ++ (o.toList ++ r)).Perm (o.toList ++ (bl ++ r)) := by
    rw [← List.append_assoc, ← List.append_assoc]; exact List.perm_append_comm.append_right r
  have h1 := h.perm hp
  have hnd := h1.nodup
  rw [List.map_append, List.nodup_append] at hnd
  obtain ⟨hnd1, hnd2, hnd3⟩ := hnd
  have hp' : (o'.toList ++ (bl ++ r)).Perm (bl ++ (o'.toList ++ r)) := by
    rw [← List.append_assoc, ← List.append_assoc]; exact List.perm_append_comm.append_right r
  refine Bxs.perm (l := o'.toList ++ (bl ++ r)) ⟨fun x hx => ?_, ?_, fun x hx hm => ?_⟩ hp'
  · rcases List.mem_append.1 hx with hx | hx
    · obtain ⟨a, b, c⟩ := h'.at_ x hx
      refine ⟨a, b, ?_⟩
      rcases c with c | c
      · exact .inl (Nat.le_trans hn c)
      · obtain ⟨y, hy, hy2⟩ := List.mem_map.1 c
        have := (h1.at_ y (List.mem_append.2 (.inl hy))).2.2
        rw [hy2] at this; exact this
    · obtain ⟨a, b, c⟩ := h1.at_ x (List.mem_append.2 (.inr hx))
      have hlt := (Array.getElem?_eq_some_iff.1 a).1
      have hnk : x.1 ∉ o.toList.map (·.1) := fun hk => hnd3 _ hk _ (List.mem_map.2 ⟨x, hx, rfl⟩) rfl
      refine ⟨(k.old' x.1 hlt hnk).trans a, ?_, c⟩
      cases hg : G' x.1 with
      | none => rfl
      | some ob =>
        rcases k.fresh x.1 ob hg with h6 | h6
        · rw [b] at h6; cases h6
        · omega
  · rw [List.map_append, List.nodup_append]
    refine ⟨h'.nodup, hnd2, ?_⟩
    intro a ha b hb
    obtain ⟨x, hx, rfl⟩ := List.mem_map.1 ha
    obtain ⟨y, hy, rfl⟩ := List.mem_map.1 hb
    have hlt := (Array.getElem?_eq_some_iff.1 (h1.at_ y (List.mem_append.2 (.inr hy))).1).1
    rcases (h'.at_ x hx).2.2 with c | c
    · omega
    · exact hnd3 _ c _ (List.mem_map.2 ⟨y, hy, rfl⟩)
  · rcases List.mem_append.1 hx with hx | hx
    · rcases (h'.at_ x hx).2.2 with c | c
      · obtain ⟨y, hy, he⟩ := List.mem_map.1 hm
        have := hM y hy
        omega
      · obtain ⟨y, hy, hy2⟩ := List.mem_map.1 c
        exact h1.apart y (List.mem_append.2 (.inl hy)) (by rw [hy2]; exact hm)
    · exact h1.apart x (List.mem_append.2 (.inr hx)) hm
theorem wlCallP {x : Operand} {f : FuncId} {xs : List Operand} {vs caps first : List Value} {ats : Array TypeId} {R : Gh → Option Bx → Value → Prop} (hC : Cx w0 G0 G w M) (hB : Bxs G w w0.heap.size (bl ++ (o.toList ++ r)) M)
    (hx : opv e x = some (.func (.func f) first.toArray caps.toArray)) (hf : callOk P f = true) (hvs : opvs e xs = some vs) (hd : okD N d = true) (hc : RetP P f (first ++ vs ++ caps).toArray G w (o.toList.map (·.1)) R)
    (h : ∀ v G' o' w', GLe G G' → Cx w G G' w' (o.toList.map (·.1)) → Cx w0 G0 G' w' M → Bxs G' w' w0.heap.size (bl ++ (o'.toList ++ r)) M → R G' o' v → WL P ops Q N rest (e.putO d v) w') :
    WL P ops Q N (⟨d, .call ⟨.value x, xs.toArray, ats⟩, ty, pos, af, none⟩ :: rest) e w := by
  refine wlStep (R := fun u w' => ∃ G' o', Cx w G G' w' (o.toList.map (·.1)) ∧ Bxs G' w' w.heap.size o'.toList (o.toList.map (·.1)) ∧ R G' o' u) hd (opCall hx hf hvs (Calls.mono hc fun _ _ ⟨v, G', o', h1, h2, h3, h4⟩ => ⟨v, h1, G', o', h2, h3, h4⟩)) ?_
  rintro u w' ⟨G', o', hk, hO, hR⟩
  refine h u G' o' w' hk.gle hk (hC.transM hk (fun b hb => ?_) fun b hb => ?_) (hB.over hk hO hC.size hC.heldLt) hR
  · obtain ⟨y, hy, rfl⟩ := List.mem_map.1 hb
    exact (hB.at_ y (by simp [hy])).2.2
  · obtain ⟨y, hy, rfl⟩ := List.mem_map.1 hb
    exact hB.apart y (by simp [hy])
/-- What is behind the first l elements is cleared. -/
theorem wlClearTail {α : Type} [Rp α] {x : Operand} {t el sz n cap l : Nat} {rt : TypeId} {A : Option Addr} {xs : List α} {z : α} {zc : List Value} (he : P.underlying t = some (.slice el)) (hsz : sz = Rp.sz α) (hz : ∀ G, Rp.Is G zc z) (hzf : (P.info? el).bind (fun i => i.zero.map Value.cells) = some zc.toArray) (hC : Cx w0 G0 G w M) (hB : Bxs G w w0.heap.size (bl ++ (o.toList ++ r)) M)
    (hO : Ow G o el (.slice A n cap) xs) (hl : l ≤ xs.length) (hx : opv e x = some (.slice (if cap = l then A else A.map (fun a => a.add (l * sz))) (n - l) (cap - l))) (hd : okD N d = true)
    (h : ∀ o' w', Cx w0 G0 G w' M → Bxs G w' w0.heap.size (bl ++ (o'.toList ++ r)) M → Ow G o' el (.slice A n cap) (xs.take l ++ List.replicate (xs.length - l) z) → WL P ops Q N rest (e.putO d (.tuple #[])) w') :
    WL P ops Q N (⟨d, .call ⟨.builtin .clear, #[x], #[t]⟩, rt, pos, af, none⟩ :: rest) e w := by
  obtain ⟨rows, ⟨h1, h2⟩, h3⟩ := hO
  have hl1 := h3.length
  have hzl : ∀ (G : Gh), zc.length = Rp.sz α := fun G => Rp.len (hz G)
  have hzl := hzl G
  by_cases hk : n - l = 0
  · -- nothing is cleared
    have hn : xs.length = l := by
      have := (show Ow G o el (.slice A n cap) xs from ⟨rows, ⟨h1, h2⟩, h3⟩).len
      omega
    refine wlStep (R := fun v w' => v = .tuple #[] ∧ w' = w) hd (fun a ha => ?_) ?_
    · unfold OpR
      have hr : (execOp a.eval ⟨d, .call ⟨.builtin .clear, #[x], #[t]⟩, rt, pos, af, none⟩).run P w = .ok (.value (.tuple #[])) w := by
        simp only [execOp, resolve, Sem.run_bind, Sem.run_pure, Result.andThen_ok, invoke, builtin, List.map_toArray, List.map_cons, List.map_nil, ha.eval hx, hk]
        simp [Builtin.clear_, run_underlying he]
        cases (if cap = l then A else A.map (fun a => a.add (l * sz))) <;> simp
      rw [hr]; exact ⟨rfl, rfl⟩
    · rintro v w' ⟨rfl, rfl⟩
      refine h o w' hC hB ?_
      rw [hn, Nat.sub_self]
      simp only [List.replicate_zero, List.append_nil]
      rw [List.take_of_length_le (by omega)]
      exact ⟨rows, ⟨h1, h2⟩, h3⟩
  · cases o with
    | none => obtain ⟨hr, hv⟩ := h2; injection hv with e1 e2 e3; omega
    | some ob =>
      obtain ⟨g, T', cs⟩ := ob
      obtain ⟨hT, off, cap', hv, h4, h5, h6, h7⟩ := h2
      injection hv with e1 e2 e3
      subst hT; subst e1; subst e2; subst e3
      have hg := hB.at_ (g, T', cs) (by simp)
      have hcl : ¬ cap = l := by omega
      rw [if_neg hcl] at hx
      simp only [Option.map_some, Addr.add_mid] at hx
      obtain ⟨zv, hzv, hzc⟩ : ∃ zv, (∀ w : World, (zeroValue T').run P w = .ok zv w) ∧ zv.cells = zc.toArray := by
        cases hq : P.info? T' with
        | none => simp [hq] at hzf
        | some inf =>
          cases hzz : inf.zero with
          | none => simp [hq, hzz] at hzf
          | some zv => exact ⟨zv, fun w => by simp [zeroValue, typeInfo, hq, hzz], by simpa [hq, hzz] using hzf⟩
      have hflat : (Builtin.zeroCells zc.toArray (rows.length - l)).toList = (List.replicate (rows.length - l) zc).flatten := zeros_flat zc _
      have hrl : ∀ q ∈ List.replicate (rows.length - l) zc, q.length = Rp.sz α := fun q hq => by rw [List.eq_of_mem_replicate hq]; exact hzl
      have hfl := flatten_len hrl
      rw [List.length_replicate] at hfl
      have hmul : rows.length * sz ≤ cap * sz := Nat.mul_le_mul_right _ h4
      have hsum : l * sz + (rows.length - l) * sz = rows.length * sz := by rw [← Nat.add_mul, show l + (rows.length - l) = rows.length by omega]
      have hfit : off + l * sz + (List.replicate (rows.length - l) zc).flatten.length ≤ cs.length := by rw [hfl, h6, ← hsz]; omega
      have hone : ∀ v ∈ (List.replicate (rows.length - l) zc).flatten, v.oneCell' = true := fun v hv => by
        obtain ⟨q, hq, hv⟩ := List.mem_flatten.1 hv
        rw [List.eq_of_mem_replicate hq] at hv
        exact Rp.one (hz G) v hv
      refine wlStep (R := fun v w' => v = .tuple #[] ∧ w' = w.setRow g (cs.take (off + l * sz) ++ (List.replicate (rows.length - l) zc).flatten ++ cs.drop (off + l * sz + (List.replicate (rows.length - l) zc).flatten.length)).toArray) hd (fun a ha => ?_) ?_
      · unfold OpR
        have hst := run_storeCells_at (P := P) g (off + l * sz) T' (List.replicate (rows.length - l) zc).flatten 0 cs.toArray w hg.1 (by simpa using hfit) hone
        simp only [Nat.add_zero] at hst
        have hr : (execOp a.eval ⟨d, .call ⟨.builtin .clear, #[x], #[t]⟩, rt, pos, af, none⟩).run P w = .ok (.value (.tuple #[])) (w.setRow g (cs.take (off + l * sz) ++ (List.replicate (rows.length - l) zc).flatten ++ cs.drop (off + l * sz + (List.replicate (rows.length - l) zc).flatten.length)).toArray) := by
          simp only [execOp, resolve, Sem.run_bind, Sem.run_pure, Result.andThen_ok, invoke, builtin, List.map_toArray, List.map_cons, List.map_nil, ha.eval hx]
          obtain ⟨m, hm⟩ : ∃ m, rows.length - l = m + 1 := ⟨rows.length - l - 1, by omega⟩
          have hflat' := hflat
          rw [hm] at hflat' hst ⊢
          simp [Builtin.clear_, run_underlying he, hzv, hzc, hflat', hst]
        rw [hr]; exact ⟨rfl, rfl⟩
      · rintro v w' ⟨rfl, rfl⟩
        refine h (some (g, T', cs.take (off + l * sz) ++ (List.replicate (rows.length - l) zc).flatten ++ cs.drop (off + l * sz + (List.replicate (rows.length - l) zc).flatten.length))) _ (hC.setRow' hg.2.1 hg.2.2 (hB.apart (g, T', cs) (by simp)) _) (Bxs.setX (X := bl) hB _) ⟨rows.take l ++ List.replicate (rows.length - l) zc, ⟨?_, rfl, off, cap, ?_, ?_, h5, ?_, ?_⟩, ?_⟩
        · intro q hq
          rcases List.mem_append.1 hq with hq | hq
          · exact h1 q (List.mem_of_mem_take hq)
          · exact hrl q hq
        · simp; omega
        · simp; omega
        · simp only [List.length_append, List.length_take, List.length_drop]; omega
        · have t1 : (rows.take l).flatten = (cs.drop off).take (l * sz) := by
            have hf := flatten_len (rows := rows.take l) (fun q hq => h1 q (List.mem_of_mem_take hq))
            rw [List.length_take, Nat.min_eq_left (by omega)] at hf
            have e1 : rows.flatten = (rows.take l).flatten ++ (rows.drop l).flatten := by rw [← List.flatten_append, List.take_append_drop]
            have e2 : (cs.drop off).take (l * sz) = ((cs.drop off).take (rows.length * Rp.sz α)).take (l * sz) := by rw [List.take_take, Nat.min_eq_left (by rw [hsz]; exact Nat.mul_le_mul_right _ (by omega))]
            rw [e2, h7, e1, hsz, ← hf, List.take_left]
          have hlo : off + l * sz ≤ cs.length := by omega
          have hd : (cs.take (off + l * sz) ++ (List.replicate (rows.length - l) zc).flatten ++ cs.drop (off + l * sz + (List.replicate (rows.length - l) zc).flatten.length)).drop off = (cs.drop off).take (l * sz) ++ ((List.replicate (rows.length - l) zc).flatten ++ cs.drop (off + l * sz + (List.replicate (rows.length - l) zc).flatten.length)) := by
            rw [List.append_assoc, List.drop_append, List.drop_take, Nat.add_sub_cancel_left, List.length_take, Nat.sub_eq_zero_of_le (by omega), List.drop_zero]
          rw [hd, List.flatten_append, t1, ← List.append_assoc]
          have hl2 : (rows.take l ++ List.replicate (rows.length - l) zc).length * Rp.sz α = ((cs.drop off).take (l * sz) ++ (List.replicate (rows.length - l) zc).flatten).length := by
            rw [List.length_append, List.length_append, List.length_take, List.length_replicate, List.length_take, List.length_drop, hfl, Nat.min_eq_left (by omega), Nat.min_eq_left (by omega), hsz, ← Nat.add_mul]
          rw [hl2, List.take_left]
        · have hrep : ∀ m, Rows2 G (List.replicate m zc) (List.replicate m z) := by
            intro m
            induction m with
            | zero => trivial
            | succ m ih => exact ⟨hz G, ih⟩
          rw [← hl1]
          exact (h3.take l).append (hrep _)
end
end Go.Gx
