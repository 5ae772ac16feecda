/- Objects whose blocks are not counted out: calls that turn them and may make more; own slices kept track of; pointers. No condition. -/
import Derived.Test.YtljcgggflgbenaaGreatDoorGxSort
set_option linter.all false
namespace Go.Gx
open Go Go.RowKit
set_option linter.unusedSectionVars false
variable {M : Mu}
section
variable {w0 w w' : World} {G0 G G' : Gh} {n b i : Nat} {m : List Nat} {A B O O' L : List (Nat × Obj)} {bl r : List Bx} {o : Option Bx}
/-- It may turn the blocks K, may make more, and says what all of them hold behind it. -/
def RetT (P : Program) (f : FuncId) (args : Array Value) (G : Gh) (w : World) (K : List Nat) (R : Gh → List (Nat × Obj) → Value → Prop) : Prop :=
  Calls P f args w fun e w' => ∃ v G' L, e = .returned v ∧ Cx w G G' w' ⟨K, L⟩ ∧ R G' L v
theorem endT {v : Value} {K : List Nat} {H : List (Nat × Obj)} {R : Gh → List (Nat × Obj) → Value → Prop} (hC : Cx w0 G0 G w ⟨K, H⟩) (L : List (Nat × Obj)) (hp : ∃ r, H.Perm (L ++ r)) (hR : R G L v) :
    (fun e w' => ∃ v G' L, e = Ending.returned v ∧ Cx w0 G0 G' w' ⟨K, L⟩ ∧ R G' L v) (.returned v) w := by
  obtain ⟨r, hp⟩ := hp
  exact ⟨v, G, L, rfl, (hC.permH hp).part (List.sublist_append_left _ _), hR⟩
theorem mids_apart (h : Cx w0 G0 G w ⟨m, A ++ (O ++ B)⟩) (k : Cx w G G' w' ⟨O.map (·.1), O'⟩) : ∀ x ∈ O', ∀ y, y ∈ A ∨ y ∈ B → x.1 ≠ y.1 := by
  intro x hx y hy e
  have hnd := h.hnd
  simp only [List.map_append] at hnd
  rw [List.nodup_append] at hnd
  obtain ⟨_, n2, n3⟩ := hnd
  rw [List.nodup_append] at n2
  obtain ⟨_, _, n6⟩ := n2
  rcases (k.held x hx).2.2 with h1 | h1
  · have h2 := h.heldLt y (by simp; rcases hy with hy | hy <;> simp [hy])
    omega
  · rcases hy with hy | hy
    · exact n3 _ (List.mem_map.2 ⟨y, hy, rfl⟩) _ (List.mem_append.2 (.inl (e ▸ h1))) rfl
    · exact n6 _ h1 _ (List.mem_map.2 ⟨y, hy, rfl⟩) e
theorem mids_nodupT (h : Cx w0 G0 G w ⟨m, A ++ (O ++ B)⟩) (k : Cx w G G' w' ⟨O.map (·.1), O'⟩) : ((A ++ (O' ++ B)).map (·.1)).Nodup := by
  have hap := mids_apart h k
  have hnd := h.hnd
  simp only [List.map_append] at hnd ⊢
  rw [List.nodup_append] at hnd
  obtain ⟨n1, n2, n3⟩ := hnd
  rw [List.nodup_append] at n2
  obtain ⟨_, n5, _⟩ := n2
  rw [List.nodup_append]
  refine ⟨n1, ?_, fun a ha c hc => ?_⟩
  · rw [List.nodup_append]
    refine ⟨k.hnd, n5, fun a ha c hc => ?_⟩
    obtain ⟨x, hx, rfl⟩ := List.mem_map.1 ha
    obtain ⟨y, hy, rfl⟩ := List.mem_map.1 hc
    exact hap x hx y (.inr hy)
  · rcases List.mem_append.1 hc with hc | hc
    · obtain ⟨x, hx, rfl⟩ := List.mem_map.1 ha
      obtain ⟨y, hy, rfl⟩ := List.mem_map.1 hc
      exact fun e => hap y hy x (.inl hx) e.symm
    · exact n3 a ha c (List.mem_append.2 (.inr hc))
theorem Cx.turnedT (h : Cx w0 G0 G w ⟨m, A ++ (O ++ B)⟩) (k : Cx w G G' w' ⟨O.map (·.1), O'⟩) : Cx w0 G0 G' w' ⟨m, A ++ (O' ++ B)⟩ := by
  have hnd := h.hnd
  simp only [List.map_append] at hnd
  rw [List.nodup_append] at hnd
  obtain ⟨n1, n2, n3⟩ := hnd
  rw [List.nodup_append] at n2
  obtain ⟨n4, n5, n6⟩ := n2
  refine h.transM' k (fun b hb => ?_) (fun x hx => ?_) (mids_nodupT h k)
  · obtain ⟨y, hy, rfl⟩ := List.mem_map.1 hb
    exact (h.held y (by simp [hy])).2.2
  · rcases List.mem_append.1 hx with hx | hx
    · exact .inl ⟨by simp [hx], fun hk => n3 _ (List.mem_map.2 ⟨x, hx, rfl⟩) _ (by simp only [List.mem_append]; exact .inl hk) rfl⟩
    · rcases List.mem_append.1 hx with hx | hx
      · exact .inr hx
      · exact .inl ⟨by simp [hx], fun hk => n6 _ hk _ (List.mem_map.2 ⟨x, hx, rfl⟩) rfl⟩
theorem Bxs.turnedT (h : Bxs G w n bl ⟨m, A ++ (O ++ B)⟩) (k : Cx w G G' w' ⟨O.map (·.1), O'⟩) : Bxs G' w' n bl ⟨m, A ++ (O' ++ B)⟩ := by
  refine ⟨fun x hx => ?_, h.nodup, fun x hx hm => ?_⟩
  · obtain ⟨h1, h2, h3⟩ := h.at_ x hx
    have hlt := h.lt x hx
    have hnk : x.1 ∉ O.map (·.1) := fun hk => h.apart x hx (by simp only [List.map_append, List.mem_append]; exact .inr (.inl hk))
    exact ⟨(k.old' x.1 hlt hnk).trans h1, k.none' hlt h2, h3⟩
  · simp only [List.map_append, List.mem_append] at hm
    have hap := h.apart x hx
    simp only [List.map_append, List.mem_append] at hap
    rcases hm with hm | hm | hm
    · exact hap (.inl hm)
    · obtain ⟨y, hy, he⟩ := List.mem_map.1 hm
      rcases (k.held y hy).2.2 with h1 | h1
      · have := h.lt x hx; omega
      · exact hap (.inr (.inl (he ▸ h1)))
    · exact hap (.inr (.inr hm))
section
variable {P : Program} {ops : Array Oper} {Q : Exit → Act → World → Prop} {N : Nat} {e : Env} {rest : List Oper} {d : Option Tmp} {ty : TypeId} {pos : String} {af : Array Edge}
  {f : FuncId} {x : Operand} {xs : List Operand} {vs caps first : List Value} {ats : Array TypeId} {R : Gh → List (Nat × Obj) → Value → Prop}
theorem wlCallT (hC : Cx w0 G0 G w ⟨m, A ++ (O ++ B)⟩) (hB : Bxs G w w0.heap.size bl ⟨m, A ++ (O ++ B)⟩)
    (hx : opv e x = some (.func (.func f) first.toArray caps.toArray)) (hf : callOk P f = true) (hvs : opvs e xs = some vs) (hd : okD N d = true) (hc : RetT P f (first ++ vs ++ caps).toArray G w (O.map (·.1)) R)
    (h : ∀ v G' O' w', GLe G G' → Cx w0 G0 G' w' ⟨m, A ++ (O' ++ B)⟩ → Bxs G' w' w0.heap.size bl ⟨m, A ++ (O' ++ B)⟩ → R G' O' v → WL P ops Q N rest (e.putO d v) w') :
    WL P ops Q N (⟨d, .call ⟨.value x, xs.toArray, ats⟩, ty, pos, af, none⟩ :: rest) e w := by
  refine wlStep (R := fun u w' => ∃ G' L, Cx w G G' w' ⟨O.map (·.1), L⟩ ∧ R G' L u) hd (opCall hx hf hvs (Calls.mono hc fun _ _ ⟨v, G', L, h1, h2, h3⟩ => ⟨v, h1, G', L, h2, h3⟩)) ?_
  rintro u w' ⟨G', L, hk, hR⟩
  exact h u G' L w' hk.gle (hC.turnedT hk) (hB.turnedT hk) hR
/-- .. of all that is kept track of. -/
theorem wlCallW (hC : Cx w0 G0 G w ⟨m, O⟩) (hB : Bxs G w w0.heap.size bl ⟨m, O⟩)
    (hx : opv e x = some (.func (.func f) first.toArray caps.toArray)) (hf : callOk P f = true) (hvs : opvs e xs = some vs) (hd : okD N d = true) (hc : RetT P f (first ++ vs ++ caps).toArray G w (O.map (·.1)) R)
    (h : ∀ v G' O' w', GLe G G' → Cx w0 G0 G' w' ⟨m, O'⟩ → Bxs G' w' w0.heap.size bl ⟨m, O'⟩ → R G' O' v → WL P ops Q N rest (e.putO d v) w') :
    WL P ops Q N (⟨d, .call ⟨.value x, xs.toArray, ats⟩, ty, pos, af, none⟩ :: rest) e w := by
  have hC' : Cx w0 G0 G w ⟨m, [] ++ (O ++ [])⟩ := by simpa using hC
  have hB' : Bxs G w w0.heap.size bl ⟨m, [] ++ (O ++ [])⟩ := by simpa using hB
  exact wlCallT hC' hB' hx hf hvs hd hc (fun v G' O' w' hg h1 h2 hR => h v G' O' w' hg (by simpa using h1) (by simpa using h2) hR)
end
/-! ### Own slices among the blocks that are kept track of -/
def ob (o : Option Bx) : List (Nat × Obj) := o.toList.map (fun x => (x.1, .cells x.2.2.toArray x.2.1 (0, 0)))
theorem holdO (hC : Cx w0 G0 G w ⟨m, L⟩) (hB : Bxs G w w0.heap.size (bl ++ (o.toList ++ r)) ⟨m, L⟩) : Cx w0 G0 G w ⟨m, ob o ++ L⟩ ∧ Bxs G w w0.heap.size (bl ++ r) ⟨m, ob o ++ L⟩ := by
  cases o with
  | none => exact ⟨hC, hB⟩
  | some x =>
    obtain ⟨b, T, cs⟩ := x
    have hB' : Bxs G w w0.heap.size ((b, T, cs) :: (bl ++ r)) ⟨m, L⟩ := hB.perm (by simp)
    exact hold hC hB' (i := 0) rfl
theorem unholdO (hC : Cx w0 G0 G w ⟨m, ob o ++ L⟩) (hB : Bxs G w w0.heap.size (bl ++ r) ⟨m, ob o ++ L⟩) : Cx w0 G0 G w ⟨m, L⟩ ∧ Bxs G w w0.heap.size (bl ++ (o.toList ++ r)) ⟨m, L⟩ := by
  cases o with
  | none => exact ⟨hC, hB⟩
  | some x =>
    obtain ⟨b, T, cs⟩ := x
    obtain ⟨h1, h2⟩ := unhold (i := 0) hC hB rfl
    exact ⟨h1, h2.perm (by simpa using List.perm_middle.symm)⟩
end
/-! ### Pointers -/
structure Pt where
  b : Option Nat
  deriving DecidableEq
def Pt.v (p : Pt) : Value := .pointer (p.b.map (fun b => ⟨b, 0, none⟩))
instance : Rl Pt := ⟨fun _ v p => v = p.v, fun _ h => h⟩
theorem isPt' (G : Gh) (p : Pt) : Rl.Is1 G p.v p := rfl
theorem isPt {G : Gh} {v : Value} {p : Pt} (h : Rl.Is1 G v p) : v = p.v := h
section
variable {κ : Type} [DecidableEq κ] {β : Type} [Rl β] {G : Gh} {P : Program} {enc : κ → Value} {o : Obj} {D : List (κ × β)} {t kt et : Nat}
/-- m[k], and whether it is there. -/
theorem MpO.lookupOk {z : Value} {zb : β} (hM : MpO enc G o D) (hK : KeyL P kt enc) (ht : mapKV P t kt et = true) (hz : (P.info? et).bind (fun i => i.zero) = some z) (hzb : Rl.Is1 G z zb) (k : κ) :
    ∃ v, Rl.Is1 G v ((mget D k).getD zb) ∧ ∀ (w : World) (b : Nat), w.heap[b]? = some o → (Instr.lookup t (.map (some b)) (enc k) true).run P w = .ok (.tuple #[v, .bool (mget D k).isSome]) w := by
  obtain ⟨es, c, kvs, rfl, hE, hR, _⟩ := hM
  have hu := mapKV_of ht
  cases hq : P.info? et with
  | none => simp [hq] at hz
  | some i =>
    have hz' : i.zero = some z := by simpa [hq] using hz
    have hzv : ∀ w, (zeroValue et).run P w = .ok z w := fun w => by simp [zeroValue, typeInfo, hq, hz']
    rcases hK.find k es.toList (kvs.map (·.1)) hE.keys with ⟨g1, g2⟩ | ⟨j, e', g1, g2, g3, g4⟩
    · refine ⟨z, ?_, fun w b hb => ?_⟩
      · rw [hR.keys] at g1; rw [mget_none g1]; exact hzb
      · have hc := hK.chk es.isEmpty k w
        rw [hR.keys] at g1
        simp [Instr.lookup, run_underlying hu, MapKept.run_getObj_map hb, hc, g2, hzv, mget_none g1]
    · have hkv : kvs[j]? = some (k, e'.val) := by
        have := congrArg (·[j]?) hE.kv
        simp only [List.getElem?_map, g3, Option.map_some] at this
        rw [List.getElem?_map] at g1
        cases hj : kvs[j]? with
        | none => rw [hj] at g1; cases g1
        | some p =>
          rw [hj] at this g1
          simp only [Option.map_some, Option.some.injEq, Prod.mk.injEq] at this g1
          obtain ⟨p1, p2⟩ := p
          simp only [] at this g1
          rw [← g1, this.2]
      have hg := mget_at hkv rfl g2
      refine ⟨e'.val, ?_, fun w b hb => ?_⟩
      · rcases hR.get k with ⟨h1, _⟩ | ⟨v, y, h1, h2, h3⟩
        · rw [hg] at h1; cases h1
        · rw [hg] at h1; cases h1; rw [h2]; exact h3
      · have hc := hK.chk es.isEmpty k w
        have hs : ∃ y, mget D k = some y := by
          rcases hR.get k with ⟨h1, _⟩ | ⟨v, y, _, h2, _⟩
          · rw [hg] at h1; cases h1
          · exact ⟨y, h2⟩
        obtain ⟨y, hy⟩ := hs
        simp [Instr.lookup, run_underlying hu, MapKept.run_getObj_map hb, hc, g4, hy]
end
section
variable {P : Program} {N : Nat} {e : Env} {w : World} {d : Option Tmp} {ty : TypeId} {pos : String} {af : Array Edge} {gd : Option (Nat × Bool)} {x y : Operand} {b t : Nat} {k v : Value}
theorem opLookup2H (hx : opv e x = some (.map (some b))) (hy : opv e y = some k) (hr : (Instr.lookup t (.map (some b)) k true).run P w = .ok v w) : OpVal P N e w ⟨d, .lookup t x y true, ty, pos, af, gd⟩ v := fun a ha => by
  simp [execOp, ha.eval hx, ha.eval hy, hr]
end
end Go.Gx
