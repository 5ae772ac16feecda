/- Maps of which keys are dropped; entries turned in place; objects side by side. No condition. -/
import Derived.Test.YtljcgggflgbenaaGreatDoorGxSched
set_option linter.all false
namespace Go.Gx
open Go Go.RowKit
set_option linter.unusedSectionVars false
variable {M : Mu}
def mdel {κ β : Type} [DecidableEq κ] (D : List (κ × β)) (k : κ) : List (κ × β) := D.filter (fun p => !decide (p.1 = k))
theorem mget_mdel {κ β : Type} [DecidableEq κ] {D : List (κ × β)} {k x : κ} : mget (mdel D k) x = if k = x then none else mget D x := by
  induction D with
  | nil => simp [mdel, mget]
  | cons p r ih =>
    unfold mdel at ih ⊢
    rw [List.filter_cons]
    by_cases hp : p.1 = k
    · simp only [hp, decide_true, Bool.not_true, Bool.false_eq_true, if_false, ih, mget]
      split
      · rfl
      · rfl
    · simp only [hp, decide_false, Bool.not_false, if_true, mget, ih]
      by_cases hx : p.1 = x
      · subst hx; rw [if_pos rfl, if_pos rfl, if_neg (Ne.symm hp)]
      · rw [if_neg hx, if_neg hx]
theorem eraseIdx_map' {α β : Type} (f : α → β) : ∀ (l : List α) (j : Nat), (l.eraseIdx j).map f = (l.map f).eraseIdx j
  | [], _ => rfl
  | _ :: _, 0 => rfl
  | x :: r, j + 1 => by rw [List.eraseIdx_cons_succ, List.map_cons, List.map_cons, List.eraseIdx_cons_succ, eraseIdx_map' f r j]
theorem erase_filter {α β : Type} [DecidableEq β] {f : α → β} : ∀ {l : List α} {j : Nat} {x : α}, (l.map f).Nodup → l[j]? = some x → l.eraseIdx j = l.filter (fun y => !decide (f y = f x))
  | [], _, _, _, h => by simp at h
  | y :: r, 0, x, hn, h => by
    simp at h; subst h
    rw [List.map_cons, List.nodup_cons] at hn
    rw [List.eraseIdx_cons_zero, List.filter_cons]
    simp only [decide_true, Bool.not_true, Bool.false_eq_true, if_false]
    symm; rw [List.filter_eq_self]
    intro a ha
    have : f a ≠ f y := fun e => hn.1 (e ▸ List.mem_map.2 ⟨a, ha, rfl⟩)
    simp [this]
  | y :: r, j + 1, x, hn, h => by
    rw [List.map_cons, List.nodup_cons] at hn
    have hx : r[j]? = some x := by simpa using h
    have : f y ≠ f x := fun e => hn.1 (e ▸ List.mem_map.2 ⟨x, List.mem_of_getElem? hx, rfl⟩)
    rw [List.eraseIdx_cons_succ, List.filter_cons, erase_filter hn.2 hx]
    simp [this]
section
variable {κ β : Type} [DecidableEq κ] [Rl β] {G G' : Gh} {P : Program} {enc : κ → Value} {o it : Obj} {D : List (κ × β)} {w : World} {b r : Nat} {t kt et : Nat} {k : κ}
theorem KvR.erase : ∀ {a : List (κ × Value)} {b : List (κ × β)} (j : Nat), KvR G a b → KvR G (a.eraseIdx j) (b.eraseIdx j)
  | [], [], _, _ => trivial
  | _ :: _, _ :: _, 0, h => h.2.2
  | _ :: _, _ :: _, j + 1, h => ⟨h.1, h.2.1, KvR.erase j h.2.2⟩
  | [], _ :: _, _, h => h.elim
  | _ :: _, [], _, h => h.elim
theorem filter_erase {α : Type} {p : α → Bool} : ∀ {l : List α} {j : Nat} {x : α}, l[j]? = some x → p x = false → (l.eraseIdx j).filter p = l.filter p
  | [], _, _, h, _ => by simp at h
  | y :: r, 0, x, h, hp => by simp at h; subst h; rw [List.eraseIdx_cons_zero, List.filter_cons, hp]; rfl
  | y :: r, j + 1, x, h, hp => by rw [List.eraseIdx_cons_succ, List.filter_cons, List.filter_cons, filter_erase (by simpa using h) hp]
/-- delete(m, k). -/
theorem MpO.del (hM : MpO enc G o D) (hK : KeyL P kt enc) (ht : mapKV P t kt et = true) (k : κ) :
    ∃ o', MpO enc G o' (mdel D k) ∧ (∀ (w : World) (b : Nat) (t2 ty : Nat), w.heap[b]? = some o → (Builtin.delete_ #[t, t2] ty #[.map (some b), enc k]).run P w = .ok (.tuple #[]) (World.setO w b o')) ∧
      ∀ it b left, k ∉ left → ItO enc o it b left → ItO enc o' it b left := by
  obtain ⟨es, clock, kvs, rfl, hE, hR, hn⟩ := hM
  have hu := mapKV_of ht
  rcases hK.find k es.toList (kvs.map (·.1)) hE.keys with ⟨g1, g2⟩ | ⟨j, e', g1, g2, g3, g4⟩
  · refine ⟨.map es clock, ?_, fun w b t2 ty hb => ?_, fun it b left _ h => h⟩
    · have : mdel D k = D := by
        unfold mdel; rw [List.filter_eq_self]; intro p hp
        have : p.1 ≠ k := fun e => g1 (by rw [hR.keys]; exact e ▸ List.mem_map.2 ⟨p, hp, rfl⟩)
        simp [this]
      rw [this]; exact ⟨es, clock, kvs, rfl, hE, hR, hn⟩
    · have hc := hK.chk es.isEmpty k w
      simp [Builtin.delete_, run_underlying hu, MapKept.run_getObj_map hb, hc, g2, MapKept.run_setObj_map _ hb, World.setO]
  · have hlt : j < es.size := by have := (List.getElem?_eq_some_iff.1 g3).1; simpa using this
    have hel : (es.eraseIdxIfInBounds j).toList = es.toList.eraseIdx j := by
      unfold Array.eraseIdxIfInBounds; rw [dif_pos hlt, Array.toList_eraseIdx]
    have hDj : ∃ y, D[j]? = some (k, y) := by
      rw [hR.keys, List.getElem?_map] at g1
      cases hd : D[j]? with
      | none => rw [hd] at g1; cases g1
      | some p => rw [hd] at g1; obtain ⟨p1, p2⟩ := p; simp at g1; subst g1; exact ⟨p2, rfl⟩
    obtain ⟨y, hy⟩ := hDj
    have hDe : D.eraseIdx j = mdel D k := erase_filter (f := fun p : κ × β => p.1) (x := (k, y)) hn hy
    have hke : e'.key = enc k := by
      have := congrArg (·[j]?) hE.keys
      simp only [List.getElem?_map, g3, Option.map_some] at this
      rw [← List.getElem?_map, g1] at this
      simpa using this
    refine ⟨.map (es.eraseIdxIfInBounds j) clock, ⟨_, _, kvs.eraseIdx j, rfl, ⟨?_, ?_, ?_⟩, hDe ▸ hR.erase j, ?_⟩, fun w b t2 ty hb => ?_, fun it b left hk => ?_⟩
    · rw [hel, eraseIdx_map', eraseIdx_map', hE.kv]
    · intro x hx; rw [hel] at hx; exact hE.old x ((List.eraseIdx_sublist _ _).subset hx)
    · rw [hel]; exact ((List.eraseIdx_sublist _ _).map _).nodup hE.nd
    · unfold mdel; exact (List.filter_sublist.map _).nodup hn
    · have hc := hK.chk es.isEmpty k w
      simp [Builtin.delete_, run_underlying hu, MapKept.run_getObj_map hb, hc, g4, MapKept.run_setObj_map _ hb, World.setO]
    · rintro ⟨es2, c2, seen, h1, h2, h3⟩
      injection h1 with h1 h1'
      subst h1; subst h1'
      refine ⟨_, _, seen, rfl, h2, ?_⟩
      rw [left_list] at h3 ⊢
      rw [hel, ← h3]
      congr 1
      refine filter_erase g3 ?_
      cases hs : seen.contains e'.born with
      | true => rfl
      | false =>
        exfalso
        have hm : e' ∈ es.toList.filter (fun e => !seen.contains e.born) := List.mem_filter.2 ⟨List.mem_of_getElem? g3, by simp only [hs, Bool.not_false]⟩
        have := List.mem_map_of_mem (f := fun x : MapEntry => x.key) hm
        rw [h3, hke] at this
        obtain ⟨x, hx, hxe⟩ := List.mem_map.1 this
        exact hk (hK.inj _ _ hxe ▸ hx)
/-- clear(m). -/
theorem MpO.clear (hM : MpO enc G o D) (ht : mapKV P t kt et = true) :
    ∃ o', MpO enc G o' ([] : List (κ × β)) ∧ ∀ (w : World) (b : Nat) (ty : Nat), w.heap[b]? = some o → (Builtin.clear_ #[t] ty #[.map (some b)]).run P w = .ok (.tuple #[]) (World.setO w b o') := by
  obtain ⟨es, clock, kvs, rfl, hE, hR, hn⟩ := hM
  have hu := mapKV_of ht
  refine ⟨.map #[] clock, ⟨#[], clock, [], rfl, ⟨rfl, by simp, by simp⟩, trivial, by simp⟩, fun w b ty hb => ?_⟩
  simp [Builtin.clear_, run_underlying hu, MapKept.run_getObj_map hb, MapKept.run_setObj_map _ hb, World.setO]
end
section
variable {P : Program} {ops : Array Oper} {Q : Exit → Act → World → Prop} {N : Nat} {e : Env} {w w0 : World} {G0 G : Gh} {rest : List Oper} {d : Option Tmp} {ty : TypeId} {pos : String} {af : Array Edge} {bl : List Bx}
  {m : List Nat} {L O B : List (Nat × Obj)} {i b t t2 : Nat} {o o' : Obj} {x y z : Operand} {k v u : Value}
theorem wlMapDelH (hC : Cx w0 G0 G w ⟨m, L⟩) (hB : Bxs G w w0.heap.size bl ⟨m, L⟩) (hi : L[i]? = some (b, o)) (hx : opv e x = some (.map (some b))) (hy : opv e y = some k)
    (hr : (Builtin.delete_ #[t, t2] ty #[.map (some b), k]).run P w = .ok (.tuple #[]) (World.setO w b o')) (hd : okD N d = true)
    (h : ∀ w', Cx w0 G0 G w' ⟨m, L.set i (b, o')⟩ → Bxs G w' w0.heap.size bl ⟨m, L.set i (b, o')⟩ → WL P ops Q N rest (e.putO d (.tuple #[])) w') :
    WL P ops Q N (⟨d, .call ⟨.builtin .delete, #[x, y], #[t, t2]⟩, ty, pos, af, none⟩ :: rest) e w := by
  refine wlStep (R := fun v' w' => v' = .tuple #[] ∧ w' = World.setO w b o') hd (fun a ha => ?_) ?_
  · unfold OpR
    have : (execOp a.eval ⟨d, .call ⟨.builtin .delete, #[x, y], #[t, t2]⟩, ty, pos, af, none⟩).run P w = .ok (.value (.tuple #[])) (World.setO w b o') := by
      simp only [execOp, resolve, Sem.run_bind, Sem.run_pure, Result.andThen_ok, invoke, builtin, List.map_toArray, List.map_cons, List.map_nil, ha.eval hx, ha.eval hy, hr]
    rw [this]
    exact ⟨rfl, rfl⟩
  · rintro v' w' ⟨rfl, rfl⟩
    exact h _ (hC.turnO hi o') (hB.turnO hi o')
theorem wlMapClearH (hC : Cx w0 G0 G w ⟨m, L⟩) (hB : Bxs G w w0.heap.size bl ⟨m, L⟩) (hi : L[i]? = some (b, o)) (hx : opv e x = some (.map (some b)))
    (hr : (Builtin.clear_ #[t] ty #[.map (some b)]).run P w = .ok (.tuple #[]) (World.setO w b o')) (hd : okD N d = true)
    (h : ∀ w', Cx w0 G0 G w' ⟨m, L.set i (b, o')⟩ → Bxs G w' w0.heap.size bl ⟨m, L.set i (b, o')⟩ → WL P ops Q N rest (e.putO d (.tuple #[])) w') :
    WL P ops Q N (⟨d, .call ⟨.builtin .clear, #[x], #[t]⟩, ty, pos, af, none⟩ :: rest) e w := by
  refine wlStep (R := fun v' w' => v' = .tuple #[] ∧ w' = World.setO w b o') hd (fun a ha => ?_) ?_
  · unfold OpR
    have : (execOp a.eval ⟨d, .call ⟨.builtin .clear, #[x], #[t]⟩, ty, pos, af, none⟩).run P w = .ok (.value (.tuple #[])) (World.setO w b o') := by
      simp only [execOp, resolve, Sem.run_bind, Sem.run_pure, Result.andThen_ok, invoke, builtin, List.map_toArray, List.map_cons, List.map_nil, ha.eval hx, hr]
    rw [this]
    exact ⟨rfl, rfl⟩
  · rintro v' w' ⟨rfl, rfl⟩
    exact h _ (hC.turnO hi o') (hB.turnO hi o')
theorem wlEntryH (hC : Cx w0 G0 G w ⟨m, L⟩) (hB : Bxs G w w0.heap.size bl ⟨m, L⟩) (hi : L[i]? = some (b, o)) (hx : opv e x = some (.map (some b))) (hy : opv e y = some k)
    (hr : (Instr.mapEntry t (.map (some b)) k).run P w = .ok u (World.setO w b o')) (hd : okD N d = true)
    (h : ∀ w', Cx w0 G0 G w' ⟨m, L.set i (b, o')⟩ → Bxs G w' w0.heap.size bl ⟨m, L.set i (b, o')⟩ → WL P ops Q N rest (e.putO d u) w') :
    WL P ops Q N (⟨d, .mapEntry t x y, ty, pos, af, none⟩ :: rest) e w := by
  refine wlStep (R := fun v' w' => v' = u ∧ w' = World.setO w b o') hd (fun a ha => ?_) ?_
  · unfold OpR
    have : (execOp a.eval ⟨d, .mapEntry t x y, ty, pos, af, none⟩).run P w = .ok (.value u) (World.setO w b o') := by
      simp [execOp, ha.eval hx, ha.eval hy, hr]
    rw [this]
    exact ⟨rfl, rfl⟩
  · rintro v' w' ⟨rfl, rfl⟩
    exact h _ (hC.turnO hi o') (hB.turnO hi o')
theorem wlEntryStoreH (hC : Cx w0 G0 G w ⟨m, L⟩) (hB : Bxs G w w0.heap.size bl ⟨m, L⟩) (hi : L[i]? = some (b, o)) (hx : opv e x = some (.map (some b))) (hy : opv e y = some k) (hz : opv e z = some v)
    (hr : (Instr.entryStore t (.map (some b)) k v).run P w = .ok () (World.setO w b o')) (hd : okD N d = true)
    (h : ∀ w', Cx w0 G0 G w' ⟨m, L.set i (b, o')⟩ → Bxs G w' w0.heap.size bl ⟨m, L.set i (b, o')⟩ → WL P ops Q N rest (e.putO d undef) w') :
    WL P ops Q N (⟨d, .entryStore t x y z, ty, pos, af, none⟩ :: rest) e w := by
  refine wlStep (R := fun v' w' => v' = undef ∧ w' = World.setO w b o') hd (fun a ha => ?_) ?_
  · unfold OpR
    have : (execOp a.eval ⟨d, .entryStore t x y z, ty, pos, af, none⟩).run P w = .ok .skip (World.setO w b o') := by
      simp [execOp, ha.eval hx, ha.eval hy, ha.eval hz, hr]
    rw [this]
    exact ⟨rfl, rfl⟩
  · rintro v' w' ⟨rfl, rfl⟩
    exact h _ (hC.turnO hi o') (hB.turnO hi o')
variable {f : FuncId} {xs : List Operand} {vs caps first : List Value} {ats : Array TypeId} {R : Gh → List (Nat × Obj) → Value → Prop}
/-- The first object turns. -/
theorem wlCallC (hC : Cx w0 G0 G w ⟨m, O ++ B⟩) (hB : Bxs G w w0.heap.size bl ⟨m, O ++ B⟩)
    (hx : opv e x = some (.func (.func f) first.toArray caps.toArray)) (hf : callOk P f = true) (hvs : opvs e xs = some vs) (hd : okD N d = true) (hc : RetT P f (first ++ vs ++ caps).toArray G w (O.map (·.1)) R)
    (h : ∀ v G' O' w', GLe G G' → Cx w0 G0 G' w' ⟨m, O' ++ B⟩ → Bxs G' w' w0.heap.size bl ⟨m, O' ++ B⟩ → R G' O' v → WL P ops Q N rest (e.putO d v) w') :
    WL P ops Q N (⟨d, .call ⟨.value x, xs.toArray, ats⟩, ty, pos, af, none⟩ :: rest) e w := wlCallT (A := []) hC hB hx hf hvs hd hc h
/-- A new object. -/
theorem wlCallNew (hC : Cx w0 G0 G w ⟨m, B⟩) (hB : Bxs G w w0.heap.size bl ⟨m, B⟩)
    (hx : opv e x = some (.func (.func f) first.toArray caps.toArray)) (hf : callOk P f = true) (hvs : opvs e xs = some vs) (hd : okD N d = true) (hc : RetT P f (first ++ vs ++ caps).toArray G w [] R)
    (h : ∀ v G' O' w', GLe G G' → Cx w0 G0 G' w' ⟨m, O' ++ B⟩ → Bxs G' w' w0.heap.size bl ⟨m, O' ++ B⟩ → R G' O' v → WL P ops Q N rest (e.putO d v) w') :
    WL P ops Q N (⟨d, .call ⟨.value x, xs.toArray, ats⟩, ty, pos, af, none⟩ :: rest) e w := wlCallT (A := []) (O := []) hC hB hx hf hvs hd hc h
theorem Cx.chunkHeld (hC : Cx w0 G0 G w ⟨m, O ++ B⟩) : ∀ x ∈ O, w.heap[x.1]? = some x.2 ∧ G x.1 = none := fun x hx => ⟨(hC.held x (List.mem_append_left _ hx)).1, (hC.held x (List.mem_append_left _ hx)).2.1⟩
theorem Bxs.partH {n : Nat} {H K : List (Nat × Obj)} (h : Bxs G w n bl ⟨m, H⟩) (hs : K.Sublist H) : Bxs G w n bl ⟨m, K⟩ :=
  ⟨h.at_, h.nodup, fun x hx hm => h.apart x hx ((hs.map (·.1)).subset hm)⟩
theorem Cx.chunkNd (hC : Cx w0 G0 G w ⟨m, O ++ B⟩) : (O.map (·.1)).Nodup := by
  have := hC.hnd
  simp only [List.map_append, List.nodup_append] at this
  exact this.1
end
end Go.Gx
