/- The document's slots: rows side by side; Raise, New. No condition. -/
import Derived.Test.YtljcgggflgbenaaGreatDoorZlG9
set_option linter.all false
namespace Go.Proofs.YtljcgggflgbenaaGreatDoor
open Go Go.Gx Go.RowKit
section
variable {G G' : Gh} {b : Nat} {O : List (Nat × Obj)} {m : RfS} {vn : Value} {lb so cap : Nat} {lc : List Value} {R R2 : List RowR} {H H2 : List (Nat × Obj)} {l l2 : List RSlot} {i : Nat} {t e : RSlot}
theorem RfL.nil (G : Gh) : RfL G [] [] [] := ⟨[], [], .refl _, rfl, rfl, fun _ h => (List.not_mem_nil h).elim⟩
theorem RfL.app (h : RfL G R H l) (h2 : RfL G R2 H2 l2) : RfL G (R ++ R2) (H ++ H2) (l ++ l2) := by
  obtain ⟨rs, J, h1, rfl, rfl, h4⟩ := h
  obtain ⟨rs2, J2, k1, rfl, rfl, k4⟩ := h2
  refine ⟨rs ++ rs2, J ++ J2, (h1.append k1).trans ?_, by simp, by simp, fun x hx => ?_⟩
  · simp only [List.flatMap_append, List.append_assoc]
    exact List.Perm.append_left _ (List.perm_append_comm_assoc _ _ _)
  · rcases List.mem_append.1 hx with hx | hx
    · exact h4 x hx
    · exact k4 x hx
theorem RfL.drop (h : RfL G R H l) (d : Nat) : RfL G (R.drop d) H (l.drop d) := by
  obtain ⟨rs, J, h1, rfl, rfl, h4⟩ := h
  refine ⟨rs.drop d, (rs.take d).flatMap (fun x => x.1.blocks) ++ J, h1.trans ?_, by simp, by simp, fun x hx => h4 x (List.mem_of_mem_drop hx)⟩
  conv => lhs; rw [← List.take_append_drop d rs]
  simp only [List.flatMap_append, List.append_assoc]
  exact List.perm_append_comm_assoc _ _ _
theorem RfL.snocE {x : Rw} (h : RfL G R H (List.replicate R.length e)) (hx : RwO G x e) : RfL G (R ++ [x.r]) (x.blocks ++ H) (List.replicate (R ++ [x.r]).length e) := by
  have h1 : RfL G [x.r] x.blocks [e] := ⟨[(x, e)], [], by simp, rfl, rfl, fun y hy => by simp at hy; subst hy; exact hx⟩
  have := RfL.perm (h.app h1) List.perm_append_comm
  rwa [show List.replicate R.length e ++ [e] = List.replicate (R ++ [x.r]).length e from by rw [List.length_append, List.length_singleton, List.replicate_succ']] at this
/-- A row's value. -/
theorem RfN.rowr (h : RfN G b O m vn lb so cap lc R H) (hi : m.l[i]? = some t) : ∃ r, R[i]? = some r ∧ ∀ w : World, Hd w O → w.rangeAt lb (so + i * 71) r.cells := by
  obtain ⟨x, H', e1, e2, e3, _⟩ := h.l.at_ hi
  obtain ⟨row, hrow, hr⟩ := Ow.rowAt h.o e1
  obtain rfl : row = x.r.cells := hrow
  exact ⟨x.r, e1, fun w hw => hr w (hw (lb, .cells (List.toArray lc) 69 (0, 0)) (by rw [h.e]; simp))⟩
end
def newR (c : Crew) (self low : Int) : RfS := ⟨c, self, low, List.replicate 8 (emptyR c.nodes.length)⟩
def raiseR (m : RfS) (low : Int) : RfS × Int :=
  bif decide (low < m.low) || !lowB low then (m, 9) else
  (RfS.mk m.crew m.self low (m.l.drop (low - m.low).toNat ++ List.replicate (min (low - m.low).toNat 8) (emptyR m.crew.nodes.length)), 0)
theorem RfOk.raise {m : RfS} (h : RfOk m) {l : List RSlot} {d n : Nat} (hl : l = m.l.drop d ++ List.replicate n (emptyR m.crew.nodes.length)) (h8 : l.length = 8) : RfOk (RfS.mk m.crew m.self m.low l) := by
  have key : ∀ (i : Nat) (t : RSlot), l[i]? = some t → (∃ j, m.l[j]? = some t) ∨ t = emptyR m.crew.nodes.length := fun i t ht => by
    have := List.mem_of_getElem? ht
    rw [hl] at this
    rcases List.mem_append.1 this with h1 | h1
    · obtain ⟨j, hj⟩ := List.mem_iff_getElem?.1 (List.mem_of_mem_drop h1)
      exact .inl ⟨j, hj⟩
    · exact .inr (List.mem_replicate.1 h1).2
  refine ⟨h.crew, h.low, h8, fun i t ht => ?_, fun i t ht => ?_, fun i t ht => ?_⟩ <;> rcases key i t ht with ⟨j, hj⟩ | rfl
  · exact h.pre j t hj
  · exact List.length_replicate ..
  · exact h.com j t hj
  · exact List.length_replicate ..
  · exact h.q4 j t hj
  · exact Nat.zero_le _
section
variable {P : Program} {ops : Array Oper} {Q : Exit → Act → World → Prop} {N : Nat} {e : Env} {w w0 : World} {G0 G : Gh} {rest : List Oper} {d : Option Tmp} {ty : TypeId} {pos : String} {af : Array Edge} {bl : List Bx}
  {K : List Nat} {B O H L : List (Nat × Obj)} {b lb so cap i o T ty2 : Nat} {m : RfS} {vn : Value} {lc : List Value} {R : List RowR} {x y0 : Operand} {v : Value} {t t' : RSlot}
theorem wlHeld1 {cs cs' : List Value} (hC : Cx w0 G0 G w ⟨K, (b, .cells cs.toArray T (0, 0)) :: L⟩) (hB : Bxs G w w0.heap.size bl ⟨K, (b, .cells cs.toArray T (0, 0)) :: L⟩)
    (hx : opv e x = some (.pointer (some ⟨b, o, none⟩))) (hy : opv e y0 = some v) (ht : (P.info? ty2).map (·.size) = some 1) (hv : v.cells = #[v]) (hone : v.oneCell' = true) (hle : o + 1 ≤ cs.length)
    (hcs : cs.take o ++ [v] ++ cs.drop (o + 1) = cs') (hd : okD N d = true)
    (h : ∀ w', Cx w0 G0 G w' ⟨K, (b, .cells cs'.toArray T (0, 0)) :: L⟩ → Bxs G w' w0.heap.size bl ⟨K, (b, .cells cs'.toArray T (0, 0)) :: L⟩ → WL P ops Q N rest (e.putO d undef) w') :
    WL P ops Q N (⟨d, .store ty2 x y0, ty, pos, af, none⟩ :: rest) e w := by
  obtain ⟨hC1, hB1⟩ := unhold hC hB (i := 0) rfl
  refine wlStore (vs := [v]) 0 hC1 hB1 rfl hx hy ht hv rfl (by simp [hone]) hle hcs hd fun w' k1 k2 => ?_
  obtain ⟨hC3, hB3⟩ := hold k1 k2 (i := 0) rfl
  exact h w' hC3 hB3
/-- L = l -/
theorem wlRfL {ob_ : Option Bx} {r : List Bx} {A : Option Addr} {n c dd : Nat} {ON : List (Nat × Obj)} {rl rn : List RowR} (hN : RfN G b O m vn lb so cap lc R H) (hC : Cx w0 G0 G w ⟨K, ON ++ (O ++ B)⟩) (hB : Bxs G w w0.heap.size (bl ++ (ob_.toList ++ r)) ⟨K, ON ++ (O ++ B)⟩)
    (hO : Ow G ob_ 69 (.slice A n c) rl) (hR : RfL G rn ON (List.replicate rn.length (emptyR m.crew.nodes.length))) (hrl : rl = R.drop dd ++ rn) (h8 : rl.length = 8)
    (hx : opv e x = some (.pointer (some ⟨b, 4, none⟩))) (hy : opv e y0 = some (.slice A n c)) (ht : (P.info? ty2).map (·.size) = some 1) (hd : okD N d = true)
    (h : ∀ O' lb' so' cap' lc' H' w', Cx w0 G0 G w' ⟨K, O' ++ B⟩ → Bxs G w' w0.heap.size (bl ++ r) ⟨K, O' ++ B⟩ → RfN G b O' (RfS.mk m.crew m.self m.low (m.l.drop dd ++ List.replicate rn.length (emptyR m.crew.nodes.length))) vn lb' so' cap' lc' rl H' → WL P ops Q N rest (e.putO d undef) w') :
    WL P ops Q N (⟨d, .store ty2 x y0, ty, pos, af, none⟩ :: rest) e w := by
  obtain ⟨ok, rfl, hn_, ho, hl⟩ := hN
  obtain ⟨g, so', cs, rfl, rfl⟩ := hO.addr (i := 0) (by omega)
  have hn := hO.len; rw [h8] at hn; subst hn
  obtain ⟨hC1, hB1⟩ := holdO (bl := bl) hC hB
  have hp : (ob (some (g, 69, cs)) ++ (ON ++ ((b, rootR m vn (.slice (some ⟨lb, so, none⟩) 8 cap)) :: (lb, .cells (List.toArray lc) 69 (0, 0)) :: H ++ B))).Perm ((b, rootR m vn (.slice (some ⟨lb, so, none⟩) 8 cap)) :: ((g, Obj.cells cs.toArray 69 (0, 0)) :: ([(lb, .cells (List.toArray lc) 69 (0, 0))] ++ (H ++ ON)) ++ B)) := by
    have e1 : (ON ++ ((b, rootR m vn (.slice (some ⟨lb, so, none⟩) 8 cap)) :: (lb, .cells (List.toArray lc) 69 (0, 0)) :: H ++ B)).Perm ((b, rootR m vn (.slice (some ⟨lb, so, none⟩) 8 cap)) :: (([(lb, .cells (List.toArray lc) 69 (0, 0))] ++ (H ++ ON)) ++ B)) := by
      refine (List.perm_middle).trans (List.Perm.cons _ ((List.perm_middle).trans (List.Perm.cons _ ?_)))
      show (ON ++ (H ++ B)).Perm ((H ++ ON) ++ B)
      rw [List.append_assoc]; exact List.perm_append_comm_assoc _ _ _
    exact (e1.cons _).trans (List.Perm.swap _ _ _)
  refine wlHeld1 (hC1.permH hp) (hB1.permH hp) (cs' := [.int .i64 m.crew.faults, vn, .int .i64 m.self, .int .i64 m.low, .slice (some ⟨g, so', none⟩) 8 c]) hx hy ht rfl rfl (by simp) rfl hd fun w' k1 k2 => ?_
  have hl2 : RfL G (R.drop dd ++ rn) ([(lb, .cells (List.toArray lc) 69 (0, 0))] ++ (H ++ ON)) (m.l.drop dd ++ List.replicate rn.length (emptyR m.crew.nodes.length)) := ((hl.drop dd).app hR).junk0
  have h8' : (m.l.drop dd ++ List.replicate rn.length (emptyR m.crew.nodes.length)).length = 8 := by rw [← hl2.length, ← hrl]; exact h8
  rw [← hrl] at hl2
  exact h _ g so' c cs _ w' k1 k2 ⟨ok.raise rfl h8', rfl, hn_, hO, hl2⟩
/-- Mark = low -/
theorem wlRfLow {low : Int} (hN : RfN G b O m vn lb so cap lc R H) (hC : Cx w0 G0 G w ⟨K, O ++ B⟩) (hB : Bxs G w w0.heap.size bl ⟨K, O ++ B⟩) (hlo : 0 ≤ low ∧ low ≤ 9007199254740983)
    (hx : opv e x = some (.pointer (some ⟨b, 3, none⟩))) (hy : opv e y0 = some (.int .i64 low)) (ht : (P.info? ty2).map (·.size) = some 1) (hd : okD N d = true)
    (h : ∀ O' w', Cx w0 G0 G w' ⟨K, O' ++ B⟩ → Bxs G w' w0.heap.size bl ⟨K, O' ++ B⟩ → RfN G b O' (RfS.mk m.crew m.self low m.l) vn lb so cap lc R H → WL P ops Q N rest (e.putO d undef) w') :
    WL P ops Q N (⟨d, .store ty2 x y0, ty, pos, af, none⟩ :: rest) e w := by
  obtain ⟨ok, rfl, hn_, ho, hl⟩ := hN
  refine wlHeld1 hC hB (cs' := [.int .i64 m.crew.faults, vn, .int .i64 m.self, .int .i64 low, .slice (some ⟨lb, so, none⟩) 8 cap]) hx hy ht rfl rfl (by simp) rfl hd fun w' k1 k2 => ?_
  exact h _ w' k1 k2 ⟨⟨ok.crew, hlo, ok.len, ok.pre, ok.com, ok.q4⟩, rfl, hn_, ho, hl⟩
end
/-- New slots, of eight rows. -/
theorem newR_rfo {G : Gh} {b : Nat} {c : Crew} {self low : Int} {vn : Value} {o : Option Bx} {A : Option Addr} {n cp : Nat} {rl : List RowR} {ON : List (Nat × Obj)} (hc : check c = 0) (hlo : 0 ≤ low ∧ low ≤ 9007199254740983) (hn : Sl G vn c.nodes)
    (hO : Ow G o 69 (.slice A n cp) rl) (hR : RfL G rl ON (List.replicate rl.length (emptyR c.nodes.length))) (h8 : rl.length = 8) :
    RfO G b ((b, .cells [.int .i64 c.faults, vn, .int .i64 self, .int .i64 low, .slice A n cp].toArray 64 (0, 0)) :: (ob o ++ ON)) (newR c self low) := by
  obtain ⟨g, so', cs, rfl, rfl⟩ := hO.addr (i := 0) (by omega)
  rw [h8] at hR
  refine ⟨⟨hc, hlo, by simp [newR], fun i t ht => ?_, fun i t ht => ?_, fun i t ht => ?_⟩, vn, _, g, cs, rl, ON, rfl, hn, hO, hR⟩ <;>
    (obtain rfl := (List.mem_replicate.1 (List.mem_of_getElem? ht)).2)
  · exact List.length_replicate ..
  · exact List.length_replicate ..
  · exact Nat.zero_le _
end Go.Proofs.YtljcgggflgbenaaGreatDoor
