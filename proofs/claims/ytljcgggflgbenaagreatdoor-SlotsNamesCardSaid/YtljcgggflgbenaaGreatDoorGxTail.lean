/- A region whose order is drawn, but whose last operations can only come last: the head in whatever order, the tail in the text's. No condition. -/
import Derived.Test.YtljcgggflgbenaaGreatDoorGxRaw
import Derived.Orders
import Derived.Laws.MakeOwn
set_option linter.all false
namespace Go.Gx
open Go Go.RowKit
variable {M : Mu}
section
variable {P : Program} {N : Nat} {e : Env} {w w0 : World} {G0 G : Gh} {d : Option Tmp} {ty : TypeId} {pos : String} {af : Array Edge} {gd : Option (Nat × Bool)} {bl r : List Bx}
end
/-- One of the call's own blocks alone. -/
theorem Bxs.mine {G : Gh} {w : World} {n : Nat} {bl r : List Bx} {o : Option Bx} (h : Bxs G w n (bl ++ (o.toList ++ r)) M) : Bxs G w w.heap.size (Option.toList o) ((Option.toList o).map (·.1)) := by
  have h1 := h.sub (l' := o.toList) ((List.sublist_append_left _ _).trans (List.sublist_append_right _ _))
  exact ⟨fun x hx => ⟨(h1.at_ x hx).1, (h1.at_ x hx).2.1, .inr (List.mem_map.2 ⟨x, hx, rfl⟩)⟩, h1.nodup, fun x _ hm => List.not_mem_nil hm⟩
section
variable {P : Program} {N : Nat} {e : Env} {w : World} {d : Option Tmp} {pos : String} {af : Array Edge} {gd : Option (Nat × Bool)}
end
section
variable {P : Program} {N : Nat} {e : Env} {w w0 : World} {G0 G : Gh} {d : Option Tmp} {ty : TypeId} {pos : String} {af : Array Edge} {gd : Option (Nat × Bool)} {bl r : List Bx} {o : Option Bx}
end
/-- What is kept track of, in another order. -/
theorem Cx.permH {w0 w : World} {G0 G : Gh} {m : List Nat} {L L' : List (Nat × Obj)} (h : Cx w0 G0 G w ⟨m, L⟩) (p : L.Perm L') : Cx w0 G0 G w ⟨m, L'⟩ :=
  ⟨h.holds, h.os, h.tape, h.output, h.size, h.old', h.gle, h.fresh, fun x hx => h.held x (p.mem_iff.2 hx), (p.map (·.1)).nodup_iff.1 h.hnd⟩
theorem Bxs.permH {w : World} {G : Gh} {n : Nat} {bl : List Bx} {m : List Nat} {L L' : List (Nat × Obj)} (h : Bxs G w n bl ⟨m, L⟩) (p : L.Perm L') : Bxs G w n bl ⟨m, L'⟩ :=
  ⟨h.at_, h.nodup, fun x hx hm => h.apart x hx ((p.map (·.1)).mem_iff.2 hm)⟩
theorem Ow.formH {α : Type} [Rp α] {G : Gh} {g T T' : Nat} {cs : List Value} {v : Value} {xs : List α} (h : Ow G (some (g, T', cs)) T v xs) : ∃ so cap, v = .slice (some ⟨g, so, none⟩) xs.length cap := by
  obtain ⟨rows, ⟨_, h2⟩, h3⟩ := h
  obtain ⟨_, so, cap, rfl, _⟩ := h2
  exact ⟨so, cap, by rw [h3.length]⟩
/-- What is behind the first of an own slice. -/
theorem Ow.dropOwn {α : Type} [Rp α] {G : Gh} {g T T' so n cap l : Nat} {cs : List Value} {xs : List α} (h : Ow G (some (g, T', cs)) T (.slice (some ⟨g, so, none⟩) n cap) xs) (hl : l ≤ xs.length) :
    Ow G (some (g, T', cs)) T (.slice (some ⟨g, so + l * Rp.sz α, none⟩) (n - l) (cap - l)) (xs.drop l) := by
  obtain ⟨rows, ⟨h1, h2⟩, h3⟩ := h
  obtain ⟨hT, so', cap', hv, h4, h5, h6, h7⟩ := h2
  injection hv with e1 e2 e3
  injection e1 with e1
  injection e1 with e0 e1
  subst e3; subst e1; subst e2
  have hr := h3.length
  have hmul := Nat.mul_le_mul_right (Rp.sz α) (show l ≤ cap by omega)
  refine ⟨rows.drop l, ⟨fun r hr => h1 r (List.mem_of_mem_drop hr), hT, so + l * Rp.sz α, cap - l, by rw [List.length_drop], by rw [List.length_drop]; omega, by omega, ?_, ?_⟩, h3.drop l⟩
  · rw [h6, Nat.sub_mul]; omega
  · rw [List.length_drop, ← List.drop_drop, Nat.sub_mul]
    have e : rows.flatten = (rows.take l).flatten ++ (rows.drop l).flatten := by rw [← List.flatten_append, List.take_append_drop]
    have hf := flatten_len (rows := rows.take l) (fun r hr => h1 r (List.mem_of_mem_take hr))
    rw [List.length_take, Nat.min_eq_left (by omega)] at hf
    have := congrArg (List.drop (l * Rp.sz α)) h7
    rw [e, ← hf, List.drop_left, List.drop_take] at this
    rw [← hf]; exact this
section
variable {α : Type} [Rp α] {P : Program} {ops : Array Oper} {Q : Exit → Act → World → Prop} {N : Nat} {e : Env} {w w0 : World} {G0 G : Gh} {rest : List Oper} {d : Option Tmp} {ty : TypeId} {pos : String} {af : Array Edge} {bl r : List Bx}
end
section
variable {P : Program} {N : Nat} {e : Env} {w : World} {d : Option Tmp} {ty : TypeId} {pos : String} {af : Array Edge} {gd : Option (Nat × Bool)}
end
/-! ### Functions without results -/
theorem callsOfN {P : Program} {f : FuncId} {fn : Func} {c : Code} {args : Array Value} {w : World} {R : Ending → World → Prop}
    (hf : P.funcs[f]? = some fn) (hb : fn.body = some c) (N : Nat) (hN : fn.ntmps = N) (hle0 : Nat.ble args.size N = true) (e : Env) (he : ∀ t v, e t = some v → args[t]? = some v)
    (h : ∀ Q0 : Exit → Act → World → Prop, (∀ a w v, (results fn a.tmps).run P w = .ok v w → a.defers = [] → R (.returned v) w → Q0 .ret a w) →
      (∀ a w v, (results fn a.tmps).run P w = .ok v w → a.defers = [] → R (.returned v) w → Q0 .normal a w) → WC P Q0 N c e w) : Calls P f args w R := by
  have hle : args.size ≤ N := Nat.le_of_ble_eq_true hle0
  refine calls_of_wp hf hb (h _ (fun a w v h1 h2 h3 => ⟨h2, v, h1, h3⟩) (fun a w v h1 h2 h3 => ⟨h2, v, h1, h3⟩) _ ⟨?_, rfl, fun t v ht => ?_⟩)
  · simp; omega
  · have := he t v ht
    have hlt : t < args.size := by
      rcases Nat.lt_or_ge t args.size with h | h
      · exact h
      · rw [Array.getElem?_eq_none h] at this; cases this
    simp only []
    rw [Array.getElem?_append_left hlt]
    exact this
theorem results0 {P : Program} {N : Nat} {e : Env} {w : World} {fn : Func} {a : Act} (_ : Fr N a e) (hr : fn.results = #[]) : (results fn a.tmps).run P w = .ok (.tuple #[]) w := by
  rw [results_eq, hr]
  simp
end Go.Gx
