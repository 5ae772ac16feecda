/- Steps over what is kept track of: maps stored into, ranged over; objects handed over to calls. No condition. -/
import Derived.Test.YtpbcabanpppfoaaGreatGxHeld
set_option linter.all false
namespace Go.Gx
open Go Go.RowKit
set_option linter.unusedSectionVars false
variable {M : Mu} {κ : Type} [DecidableEq κ] {β : Type}
def HasO (G : Gh) (b : Nat) (o : Obj) : Prop := G b = some o
theorem HasO.mono {G G' : Gh} {b : Nat} {o : Obj} (hg : GLe G G') (h : HasO G b o) : HasO G' b o := hg _ _ h
theorem HasO.at_ {G : Gh} {b : Nat} {o : Obj} {w : World} (h : HasO G b o) (hh : Holds G w) : w.heap[b]? = some o := hh _ _ h
theorem HasO.row {G : Gh} {b : Nat} {cs : List Value} {T : TypeId} (h : HasO G b (.cells cs.toArray T (0, 0))) : RowG G b 0 cs := ⟨_, _, _, h, fun j u hj => by simpa using hj⟩
abbrev kI : Int → Value := fun x => .int .i64 x
theorem isI {G : Gh} {v : Value} {y : Int} (h : Rp.Is G [v] y) : v = .int .i64 y := by
  have h : [v] = [Value.int .i64 y] := h
  injection h
section
variable {w w0 w' : World} {G0 G G' : Gh} {n b i : Nat} {o o' : Obj} {m : List Nat} {L : List (Nat × Obj)} {bl : List Bx}
theorem Cx.heldAt (h : Cx w0 G0 G w M) (i : Nat) {b : Nat} {o : Obj} (hi : M.held[i]? = some (b, o)) : w.heap[b]? = some o := (h.held _ (List.mem_of_getElem? hi)).1
theorem set_keys (hi : L[i]? = some (b, o)) : (L.set i (b, o')).map (·.1) = L.map (·.1) := by
  rw [List.map_set]
  apply List.ext_getElem?
  intro j
  rw [List.getElem?_set]
  split
  · rename_i h; subst h
    have := (List.getElem?_eq_some_iff.1 hi).1
    simp only [List.length_map, this, if_true, List.getElem?_map, hi, Option.map_some]
  · rfl
theorem Cx.turnO (h : Cx w0 G0 G w ⟨m, L⟩) (hi : L[i]? = some (b, o)) (o' : Obj) : Cx w0 G0 G (World.setO w b o') ⟨m, L.set i (b, o')⟩ := by
  have hb := h.held _ (List.mem_of_getElem? hi)
  have hlt := (Array.getElem?_eq_some_iff.1 hb.1).1
  refine ⟨fun x u hx => ?_, h.os, h.tape, h.output, by simpa [World.setO] using h.size, fun x hx hm => ?_, h.gle, h.fresh, fun x hx => ?_, by rw [set_keys hi]; exact h.hnd⟩
  · have : x ≠ b := by rintro rfl; rw [hb.2.1] at hx; cases hx
    rw [setO_other w b x _ this]; exact h.holds x u hx
  · have : x ≠ b := by
      rintro rfl
      rcases hb.2.2 with h1 | h1
      · simp only [] at h1; omega
      · exact hm h1
    rw [setO_other w b x _ this]; exact h.old' x hx hm
  · obtain ⟨j, hj⟩ := List.getElem?_of_mem hx
    rw [List.getElem?_set] at hj
    split at hj
    · rename_i hij
      split at hj
      · injection hj with hj; subst hj
        exact ⟨by simp [World.setO, hlt], hb.2⟩
      · cases hj
    · rename_i hij
      have hx' := h.held x (List.mem_of_getElem? hj)
      have : x.1 ≠ b := by
        intro e
        have h1 : (L.map (·.1))[j]? = some b := by simp [hj, e]
        have h2 : (L.map (·.1))[i]? = some b := by simp [hi]
        exact hij ((List.getElem?_inj (List.getElem?_eq_some_iff.1 h2).1 h.hnd).1 (h2.trans h1.symm))
      exact ⟨by rw [setO_other w b x.1 _ this]; exact hx'.1, hx'.2⟩
theorem Bxs.turnO (h : Bxs G w n bl ⟨m, L⟩) (hi : L[i]? = some (b, o)) (o' : Obj) : Bxs G (World.setO w b o') n bl ⟨m, L.set i (b, o')⟩ := by
  have hb : b ∈ L.map (·.1) := List.mem_map.2 ⟨_, List.mem_of_getElem? hi, rfl⟩
  refine ⟨fun x hx => ?_, h.nodup, fun x hx => by rw [set_keys hi]; exact h.apart x hx⟩
  have : x.1 ≠ b := fun e => h.apart x hx (by rw [e]; exact hb)
  rw [setO_other w b x.1 _ this]; exact h.at_ x hx
theorem Cx.newO (h : Cx w0 G0 G w ⟨m, L⟩) (o : Obj) : Cx w0 G0 G (w.alloc o) ⟨m, (w.heap.size, o) :: L⟩ := by
  have k := h.trans (Cx.alloc h.holds o)
  refine ⟨k.holds, k.os, k.tape, k.output, k.size, k.old', k.gle, k.fresh, fun x hx => ?_, ?_⟩
  · rcases List.mem_cons.1 hx with rfl | hx
    · exact ⟨heap_alloc_new w o, h.holds.none_ (Nat.le_refl _), .inl h.size⟩
    · exact k.held x hx
  · rw [List.map_cons, List.nodup_cons]
    refine ⟨fun hm => ?_, h.hnd⟩
    obtain ⟨y, hy, he⟩ := List.mem_map.1 hm
    have := h.heldLt y hy
    simp only [] at he
    omega
theorem Bxs.newO (hC : Cx w0 G0 G w ⟨m, L⟩) (h : Bxs G w n bl ⟨m, L⟩) (o : Obj) : Bxs G (w.alloc o) n bl ⟨m, (w.heap.size, o) :: L⟩ := by
  have k := h.ext (Cx.alloc hC.holds o)
  refine ⟨k.at_, k.nodup, fun x hx hm => ?_⟩
  rcases List.mem_cons.1 hm with e | hm
  · have := h.lt x hx; simp only [] at e; omega
  · exact h.apart x hx hm
/-- A box becomes a block that is kept track of. -/
theorem hold {T : TypeId} {cs : List Value} (hC : Cx w0 G0 G w ⟨m, L⟩) (hB : Bxs G w w0.heap.size bl ⟨m, L⟩) (hi : bl[i]? = some (b, T, cs)) :
    Cx w0 G0 G w ⟨m, (b, .cells cs.toArray T (0, 0)) :: L⟩ ∧ Bxs G w w0.heap.size (bl.eraseIdx i) ⟨m, (b, .cells cs.toArray T (0, 0)) :: L⟩ := by
  have hg := hB.get hi
  have hoff := hB.off hi
  have hp := hB.perm (perm_front hi)
  have hnd := hp.nodup
  rw [List.map_cons, List.nodup_cons] at hnd
  refine ⟨⟨hC.holds, hC.os, hC.tape, hC.output, hC.size, hC.old', hC.gle, hC.fresh, fun x hx => ?_, ?_⟩, ⟨fun x hx => hp.at_ x (by simp [hx]), hnd.2, fun x hx hm => ?_⟩⟩
  · rcases List.mem_cons.1 hx with rfl | hx
    · exact hg
    · exact hC.held x hx
  · rw [List.map_cons, List.nodup_cons]; exact ⟨hoff, hC.hnd⟩
  · rcases List.mem_cons.1 hm with e | hm
    · exact hnd.1 (by rw [List.mem_map]; exact ⟨x, hx, e⟩)
    · exact hp.apart x (by simp [hx]) hm
/-- A new block that is kept track of becomes one that stays. -/
theorem Cx.settle {o : Obj} (hC : Cx w0 G0 G w ⟨m, (b, o) :: L⟩) (hn : b ∉ m) : GLe G (G.add b o) ∧ Cx w0 G0 (G.add b o) w ⟨m, L⟩ := by
  have hb := hC.held (b, o) (by simp)
  have hnd := hC.hnd
  rw [List.map_cons, List.nodup_cons] at hnd
  have hC' : Cx w0 G0 G w ⟨m, L⟩ := ⟨hC.holds, hC.os, hC.tape, hC.output, hC.size, hC.old', hC.gle, hC.fresh, fun x hx => hC.held x (by simp [hx]), hnd.2⟩
  exact ⟨Gh.add_le hb.2.1, hC'.freeze hb.1 hb.2.1 (hb.2.2.elim id (fun h => (hn h).elim)) hnd.1⟩
end

section
variable {P : Program} {ops : Array Oper} {Q : Exit → Act → World → Prop} {N : Nat} {e : Env} {w w0 w1 : World} {G0 G : Gh} {rest : List Oper} {d : Option Tmp} {ty : TypeId} {pos : String} {af : Array Edge} {gd : Option (Nat × Bool)} {bl : List Bx}
  {m : List Nat} {L : List (Nat × Obj)} {b r i : Nat} {o o' it it' : Obj} {x y z : Operand} {k v u : Value} {t : Nat}
theorem wlMakeMapH {T : TypeId} (hC : Cx w0 G0 G w ⟨m, L⟩) (hB : Bxs G w w0.heap.size bl ⟨m, L⟩) (hd : okD N d = true)
    (h : ∀ b w', Cx w0 G0 G w' ⟨m, (b, .map #[] 0) :: L⟩ → Bxs G w' w0.heap.size bl ⟨m, (b, .map #[] 0) :: L⟩ → WL P ops Q N rest (e.putO d (.map (some b))) w') :
    WL P ops Q N (⟨d, .makeMap T none, ty, pos, af, none⟩ :: rest) e w := by
  refine wlStep (R := fun v w' => v = .map (some w.heap.size) ∧ w' = w.alloc (.map #[] 0)) hd (fun a ha => ?_) ?_
  · unfold OpR
    have : (execOp a.eval ⟨d, .makeMap T none, ty, pos, af, none⟩).run P w = .ok (.value (.map (some w.heap.size))) (w.alloc (.map #[] 0)) := rfl
    rw [this]
    exact ⟨rfl, rfl⟩
  · rintro v w' ⟨rfl, rfl⟩
    exact h _ _ (hC.newO _) (Bxs.newO hC hB _)
theorem opLookupH (hx : opv e x = some (.map (some b))) (hy : opv e y = some k) (hr : (Instr.lookup t (.map (some b)) k false).run P w = .ok v w) : OpVal P N e w ⟨d, .lookup t x y false, ty, pos, af, gd⟩ v := fun a ha => by
  simp [execOp, ha.eval hx, ha.eval hy, hr]
theorem opEntryH (hx : opv e x = some (.pointer (some ⟨r, 0, none⟩))) (hr : (Instr.entry (.pointer (some ⟨r, 0, none⟩))).run P w = .ok v w) : OpVal P N e w ⟨d, .entry x, ty, pos, af, gd⟩ v := fun a ha => by
  simp [execOp, ha.eval hx, hr]
theorem wlMapPutH (hC : Cx w0 G0 G w ⟨m, L⟩) (hB : Bxs G w w0.heap.size bl ⟨m, L⟩) (hi : L[i]? = some (b, o)) (hx : opv e x = some (.map (some b))) (hy : opv e y = some k) (hz : opv e z = some v)
    (hr : (Instr.mapUpdate t (.map (some b)) k v).run P w = .ok () (World.setO w b o')) (hd : okD N d = true)
    (h : ∀ w', Cx w0 G0 G w' ⟨m, L.set i (b, o')⟩ → Bxs G w' w0.heap.size bl ⟨m, L.set i (b, o')⟩ → WL P ops Q N rest (e.putO d undef) w') :
    WL P ops Q N (⟨d, .mapUpdate t x y z, ty, pos, af, none⟩ :: rest) e w := by
  refine wlStep (R := fun v' w' => v' = undef ∧ w' = World.setO w b o') hd (fun a ha => ?_) ?_
  · unfold OpR
    have : (execOp a.eval ⟨d, .mapUpdate t x y z, ty, pos, af, none⟩).run P w = .ok .skip (World.setO w b o') := by
      simp [execOp, ha.eval hx, ha.eval hy, ha.eval hz, hr]
    rw [this]
    exact ⟨rfl, rfl⟩
  · rintro v' w' ⟨rfl, rfl⟩
    exact h _ (hC.turnO hi o') (hB.turnO hi o')
theorem wlRange {kt et : Nat} [Rl β] {enc : κ → Value} {D : List (κ × β)} (hM : MpO enc G o D) (hb : w.heap[b]? = some o) (hC : Cx w0 G0 G w ⟨m, L⟩) (hB : Bxs G w w0.heap.size bl ⟨m, L⟩) (hx : opv e x = some (.map (some b))) (ht : mapKV P t kt et = true) (hd : okD N d = true)
    (h : ∀ r it w', Cx w0 G0 G w' ⟨m, (r, it) :: L⟩ → Bxs G w' w0.heap.size bl ⟨m, (r, it) :: L⟩ → ItO enc o it b (D.map (·.1)) → WL P ops Q N rest (e.putO d (.pointer (some ⟨r, 0, none⟩))) w') :
    WL P ops Q N (⟨d, .range t x, ty, pos, af, none⟩ :: rest) e w := by
  obtain ⟨es, clock, rfl, hI⟩ := hM.start b
  have hu := mapKV_of ht
  refine wlStep (R := fun v' w' => v' = .pointer (some ⟨w.heap.size, 0, none⟩) ∧ w' = w.alloc (.mapIter (some b) clock #[] clock)) hd (fun a ha => ?_) ?_
  · unfold OpR
    have : (execOp a.eval ⟨d, .range t x, ty, pos, af, none⟩).run P w = .ok (.value (.pointer (some ⟨w.heap.size, 0, none⟩))) (w.alloc (.mapIter (some b) clock #[] clock)) := by
      simp [execOp, ha.eval hx, run_range_map w t kt et b es clock hu hb]
    rw [this]
    exact ⟨rfl, rfl⟩
  · rintro v' w' ⟨rfl, rfl⟩
    exact h _ _ _ (hC.newO _) (Bxs.newO hC hB _) hI
theorem wlNext0 (hx : opv e x = some (.pointer (some ⟨r, 0, none⟩))) (hr : (Instr.next (.pointer (some ⟨r, 0, none⟩)) false ty).run P w = .ok u w) (hd : okD N d = true) (h : WL P ops Q N rest (e.putO d u) w) :
    WL P ops Q N (⟨d, .next x false, ty, pos, af, none⟩ :: rest) e w :=
  wlVal (fun a ha => by simp [execOp, ha.eval hx, hr]) hd h
theorem wlNext1 (hC : Cx w0 G0 G w ⟨m, L⟩) (hB : Bxs G w w0.heap.size bl ⟨m, L⟩) (hi : L[i]? = some (r, it)) (hx : opv e x = some (.pointer (some ⟨r, 0, none⟩))) (hw1 : w1 = w ∨ w1 = w.drew)
    (hr : (Instr.next (.pointer (some ⟨r, 0, none⟩)) false ty).run P w = .ok u (World.setO w1 r it')) (hd : okD N d = true)
    (h : ∀ w', Cx w0 G0 G w' ⟨m, L.set i (r, it')⟩ → Bxs G w' w0.heap.size bl ⟨m, L.set i (r, it')⟩ → WL P ops Q N rest (e.putO d u) w') :
    WL P ops Q N (⟨d, .next x false, ty, pos, af, none⟩ :: rest) e w := by
  refine wlStep (R := fun v' w' => v' = u ∧ w' = World.setO w1 r it') hd (fun a ha => ?_) ?_
  · unfold OpR
    have : (execOp a.eval ⟨d, .next x false, ty, pos, af, none⟩).run P w = .ok (.value u) (World.setO w1 r it') := by simp [execOp, ha.eval hx, hr]
    rw [this]
    exact ⟨rfl, rfl⟩
  · rintro v' w' ⟨rfl, rfl⟩
    rcases hw1 with rfl | rfl
    · exact h _ (hC.turnO hi it') (hB.turnO hi it')
    · exact h _ (hC.drew.turnO hi it') (hB.drew.turnO hi it')

/-! ### Objects handed over to a call -/
theorem Cx.part {H K : List (Nat × Obj)} {m : List Nat} (h : Cx w0 G0 G w ⟨m, H⟩) (hs : K.Sublist H) : Cx w0 G0 G w ⟨m, K⟩ :=
  ⟨h.holds, h.os, h.tape, h.output, h.size, h.old', h.gle, h.fresh, fun x hx => h.held x (hs.subset hx), (hs.map (·.1)).nodup h.hnd⟩
variable {w' : World} {G' : Gh} {A B O O' : List (Nat × Obj)} {n : Nat}
theorem mids_nodup (h : ((A ++ (O ++ B)).map (·.1)).Nodup) (he : O'.map (·.1) = O.map (·.1)) : ((A ++ (O' ++ B)).map (·.1)).Nodup := by
  simpa only [List.map_append, he] using h
theorem Cx.turned (h : Cx w0 G0 G w ⟨m, A ++ (O ++ B)⟩) (k : Cx w G G' w' ⟨O.map (·.1), O'⟩) (he : O'.map (·.1) = O.map (·.1)) : Cx w0 G0 G' w' ⟨m, A ++ (O' ++ B)⟩ := by
  have hnd := h.hnd
  simp only [List.map_append] at hnd
  rw [List.nodup_append] at hnd
  obtain ⟨n1, n2, n3⟩ := hnd
  rw [List.nodup_append] at n2
  obtain ⟨n4, n5, n6⟩ := n2
  refine h.transM' k (fun b hb => ?_) (fun x hx => ?_) (mids_nodup h.hnd he)
  · obtain ⟨y, hy, rfl⟩ := List.mem_map.1 hb
    exact (h.held y (by simp [hy])).2.2
  · rcases List.mem_append.1 hx with hx | hx
    · exact .inl ⟨by simp [hx], fun hk => n3 _ (List.mem_map.2 ⟨x, hx, rfl⟩) _ (by simp only [List.mem_append]; exact .inl hk) rfl⟩
    · rcases List.mem_append.1 hx with hx | hx
      · exact .inr hx
      · exact .inl ⟨by simp [hx], fun hk => n6 _ hk _ (List.mem_map.2 ⟨x, hx, rfl⟩) rfl⟩
theorem Bxs.turned (h : Bxs G w n bl ⟨m, A ++ (O ++ B)⟩) (k : Cx w G G' w' ⟨O.map (·.1), O'⟩) (he : O'.map (·.1) = O.map (·.1)) : Bxs G' w' n bl ⟨m, A ++ (O' ++ B)⟩ := by
  have hkeys : (A ++ (O' ++ B)).map (·.1) = (A ++ (O ++ B)).map (·.1) := by simp only [List.map_append, he]
  refine ⟨fun x hx => ?_, h.nodup, fun x hx => by rw [hkeys]; exact h.apart x hx⟩
  obtain ⟨h1, h2, h3⟩ := h.at_ x hx
  have hlt := h.lt x hx
  have hnk : x.1 ∉ O.map (·.1) := fun hk => h.apart x hx (by simp only [List.map_append, List.mem_append]; exact .inr (.inl hk))
  exact ⟨(k.old' x.1 hlt hnk).trans h1, k.none' hlt h2, h3⟩
section
variable {f : FuncId} {xs : List Operand} {vs caps first : List Value} {ats : Array TypeId} {R : Gh → List (Nat × Obj) → Value → Prop}
end
/-! ### Objects lent to a call that only looks -/
def Gh.plus (G : Gh) : List (Nat × Obj) → Gh
  | [] => G
  | x :: L => (G.plus L).add x.1 x.2
theorem plus_spec : ∀ {L : List (Nat × Obj)}, (L.map (·.1)).Nodup → (∀ x ∈ L, G x.1 = none) → (∀ b, b ∉ L.map (·.1) → G.plus L b = G b) ∧ (∀ x ∈ L, G.plus L x.1 = some x.2)
  | [], _, _ => ⟨fun _ _ => rfl, fun _ h => (List.not_mem_nil h).elim⟩
  | x :: L, hn, hL => by
    rw [List.map_cons, List.nodup_cons] at hn
    obtain ⟨i1, i2⟩ := plus_spec hn.2 (fun y hy => hL y (by simp [hy]))
    refine ⟨fun b hb => ?_, fun y hy => ?_⟩
    · simp only [List.map_cons, List.mem_cons, not_or] at hb
      show (G.plus L).add x.1 x.2 b = _
      unfold Gh.add; rw [if_neg hb.1]; exact i1 b hb.2
    · show (G.plus L).add x.1 x.2 y.1 = _
      rcases List.mem_cons.1 hy with rfl | hy
      · exact Gh.add_self
      · unfold Gh.add
        rw [if_neg (fun e => hn.1 (by rw [← e]; exact List.mem_map.2 ⟨y, hy, rfl⟩))]
        exact i2 y hy
/-- What is kept track of may be looked at as if it stayed. -/
theorem Cx.look (hC : Cx w0 G0 G w M) : ∃ G', GLe G G' ∧ Holds G' w ∧ ∀ x ∈ M.held, HasO G' x.1 x.2 := by
  obtain ⟨i1, i2⟩ := plus_spec (G := G) hC.hnd (fun x hx => (hC.held x hx).2.1)
  refine ⟨G.plus M.held, fun b o hb => ?_, fun b o hb => ?_, i2⟩
  · by_cases hm : b ∈ M.held.map (·.1)
    · obtain ⟨x, hx, rfl⟩ := List.mem_map.1 hm
      rw [(hC.held x hx).2.1] at hb; cases hb
    · rw [i1 b hm]; exact hb
  · by_cases hm : b ∈ M.held.map (·.1)
    · obtain ⟨x, hx, rfl⟩ := List.mem_map.1 hm
      rw [i2 x hx] at hb
      injection hb with hb
      subst hb; exact (hC.held x hx).1
    · rw [i1 b hm] at hb; exact hC.holds b o hb
theorem Rows2.any {α : Type} [Rp α] (hf : ∀ (G G' : Gh) (cs : List Value) (x : α), Rp.Is G cs x → Rp.Is G' cs x) {G G' : Gh} : ∀ {rs : List (List Value)} {xs : List α}, Rows2 G rs xs → Rows2 G' rs xs
  | [], [], _ => trivial
  | _ :: _, _ :: _, h => ⟨hf _ _ _ _ h.1, Rows2.any hf h.2⟩
  | [], _ :: _, h => h.elim
  | _ :: _, [], h => h.elim
theorem Ow.any {α : Type} [Rp α] (hf : ∀ (G G' : Gh) (cs : List Value) (x : α), Rp.Is G cs x → Rp.Is G' cs x) {G G' : Gh} {o : Option Bx} {T : Nat} {v : Value} {xs : List α} (h : Ow G o T v xs) : Ow G' o T v xs := by
  obtain ⟨rows, h1, h2⟩ := h
  exact ⟨rows, h1, h2.any hf⟩
end
end Go.Gx
