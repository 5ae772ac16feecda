/- Boxes lent to a call; slices of an array within a box. No condition. -/
import Derived.Test.YtljcgggflgbenaaGreatDoorGxPtr
import Derived.Laws.Externs
set_option linter.all false
namespace Go.Gx
open Go Go.RowKit
variable {M : Mu}
theorem ItO.mono {κ : Type} {enc : κ → Value} {o it : Obj} {b : Nat} {l : List κ} {G G' : Gh} (_ : GLe G G') (h : ItO enc o it b l) : ItO enc o it b l := h
section
variable {P : Program} {N : Nat} {e : Env} {w : World} {d : Option Tmp} {ty : TypeId} {pos : String} {af : Array Edge} {gd : Option (Nat × Bool)}
theorem opSliceArrO {t : Nat} {x : Operand} {b o : Nat} (ht : bytes32 P t = true) (hx : opv e x = some (.pointer (some ⟨b, o, none⟩))) : OpVal P N e w ⟨d, .slice t x none none none, ty, pos, af, gd⟩ (.slice (some ⟨b, o, none⟩) 32 32) := fun a ha => by
  unfold bytes32 at ht
  revert ht
  split
  · rename_i el hu
    intro ht
    rw [Bool.and_eq_true] at ht
    cases hq : P.info? el with
    | none => simp [hq] at ht
    | some tinf => simp [execOp, ha.eval hx, Instr.sliceAt, run_underlying hu, Instr.sureAddr, Instr.sliceBounds, sizeOf, typeInfo, hq, Addr.add]
  · intro h; cases h
end
section
variable {P : Program} {N : Nat} {e : Env} {w w0 : World} {G0 G : Gh} {d : Option Tmp} {ty : TypeId} {pos : String} {af : Array Edge} {gd : Option (Nat × Bool)} {bl : List Bx}
  {m : List Nat} {L : List (Nat × Obj)} {b i : Nat} {o o' : Obj} {x y z : Operand} {k v u : Value} {t : Nat} {a : Act} {R : Value → World → Prop}
end
theorem Sl.ofDig' {G : Gh} {b o : Nat} {x : Dig} (h : RowG G b o x.cells) : Sl G (.slice (some ⟨b, o, none⟩) 32 32) x.l := by
  refine ⟨_, 32, by rw [x.h], by rw [x.h]; exact Nat.le_refl _, by rw [x.h]; unfold maxL; omega, fun k u hk => ⟨b, o, [.int .u8 (u.toNat : Int)], rfl, ?_, rfl⟩⟩
  have := h.part (i := k) (m := 1) (part := [.int .u8 (u.toNat : Int)]) (by
    obtain ⟨hlt, he⟩ := List.getElem?_eq_some_iff.1 hk
    unfold Dig.cells
    rw [← List.map_drop, ← List.map_take, List.drop_eq_getElem_cons hlt, he]
    simp)
  simpa [Rp.sz] using this
theorem Holds.lendB {G : Gh} {w : World} {n : Nat} {bl : List Bx} (hh : Holds G w) (hB : Bxs G w n bl M) : ∃ G', GLe G G' ∧ Holds G' w ∧ ∀ x ∈ bl, HasO G' x.1 (.cells x.2.2.toArray x.2.1 (0, 0)) := by
  have hk : (bl.map (fun x => (x.1, Obj.cells x.2.2.toArray x.2.1 (0, 0)))).map (·.1) = bl.map (·.1) := by rw [List.map_map]; rfl
  obtain ⟨p1, p2⟩ := plus_spec (G := G) (L := bl.map (fun x => (x.1, Obj.cells x.2.2.toArray x.2.1 (0, 0)))) (by rw [hk]; exact hB.nodup) (fun x hx => by
    obtain ⟨y, hy, rfl⟩ := List.mem_map.1 hx
    exact (hB.at_ y hy).2.1)
  refine ⟨_, fun b o hb => ?_, fun b o hb => ?_, fun x hx => p2 _ (List.mem_map.2 ⟨x, hx, rfl⟩)⟩
  · rw [p1 b (fun hm => ?_)]; · exact hb
    obtain ⟨y, hy, rfl⟩ := List.mem_map.1 (hk ▸ hm)
    rw [(hB.at_ y hy).2.1] at hb; cases hb
  · by_cases hm : b ∈ bl.map (·.1)
    · obtain ⟨y, hy, rfl⟩ := List.mem_map.1 hm
      have := p2 _ (List.mem_map.2 ⟨y, hy, rfl⟩)
      rw [this] at hb
      cases hb
      exact (hB.at_ y hy).1
    · rw [p1 b (by rw [hk]; exact hm)] at hb
      exact hh b o hb
theorem RetS.lendB {P : Program} {f : FuncId} {args : Array Value} {u : Value} {G : Gh} {w : World} {n : Nat} {bl : List Bx} (hh : Holds G w) (hB : Bxs G w n bl M) (k : ∀ G', GLe G G' → Holds G' w → (∀ x ∈ bl, HasO G' x.1 (.cells x.2.2.toArray x.2.1 (0, 0))) → RetS P f args G' w u) : RetS P f args G w u := by
  obtain ⟨G', hg, h1, h2⟩ := hh.lendB hB
  exact (k G' hg h1 h2).lower hh
end Go.Gx

namespace Go.Gx
open Go Go.RowKit
variable {M : Mu}
section
variable {P : Program} {ops : Array Oper} {Q : Exit → Act → World → Prop} {N : Nat} {e : Env} {w w0 : World} {G0 G : Gh} {rest : List Oper} {d : Option Tmp} {ty : TypeId} {pos : String} {af : Array Edge} {gd : Option (Nat × Bool)} {bl : List Bx}
end
section
variable {α : Type} [Rp α] {G : Gh}
theorem Rows2.drop : ∀ {rs : List (List Value)} {xs : List α}, Rows2 G rs xs → ∀ m, Rows2 G (rs.drop m) (xs.drop m)
  | [], [], _, m => by simp; trivial
  | r :: rs, x :: xs, h, 0 => h
  | r :: rs, x :: xs, h, m + 1 => Rows2.drop h.2 m
  | [], _ :: _, h, _ => h.elim
  | _ :: _, [], h, _ => h.elim
theorem Ow.ofRaw {T g n cap : Nat} {cs : List Value} {rows : List (List Value)} {ys : List α} (hR : Rows2 G rows ys) (hn : n = ys.length) (hc : n ≤ cap) (hm : cap ≤ maxLen) (hl : cs.length = cap * Rp.sz α) (ht : cs.take (n * Rp.sz α) = rows.flatten) :
    Ow G (some (g, T, cs)) T (.slice (some ⟨g, 0, none⟩) n cap) ys := by
  subst hn
  have hrl := hR.length
  exact ⟨rows, ⟨fun r hr => (hR.len r hr).1, rfl, 0, cap, by rw [hrl], by omega, hm, by rw [hl, Nat.zero_add], by rw [List.drop_zero, hrl]; exact ht⟩, hR⟩
end
section
variable {cs rest2 : List Value} {rows : List (List Value)} {n i sz cap cap2 : Nat} {xc : List Value}
end
end Go.Gx
