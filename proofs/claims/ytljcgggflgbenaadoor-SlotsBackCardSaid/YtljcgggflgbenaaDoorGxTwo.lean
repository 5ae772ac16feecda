/- More operations: differences of naturals, remainders that are naturals. No condition. -/
import Derived.Test.YtljcgggflgbenaaDoorGxMap
set_option linter.all false
namespace Go.Gx
open Go Go.RowKit
variable {M : Mu}
section
variable {P : Program} {N : Nat} {e : Env} {w : World} {d : Option Tmp} {ty : TypeId} {pos : String} {af : Array Edge} {gd : Option (Nat × Bool)}
theorem opSubN {t yt : TypeId} {x y : Operand} {a b : Nat} (hx : opv e x = some (.int .i64 (a : Int))) (hy : opv e y = some (.int .i64 (b : Int))) (h0 : b ≤ a) (h : a < 4611686018427387904) :
    OpVal P N e w ⟨d, .binOp .sub t x y yt, ty, pos, af, gd⟩ (.int .i64 ((a - b : Nat) : Int)) := opBin hx hy (by
    have : IntKind.i64.wrap ((a : Int) - (b : Int)) = ((a - b : Nat) : Int) := by rw [IntWalk.i64_in _ (by omega)]; omega
    simp [binOp, Op.intArith, this])
end
theorem tmod_nat {k r n : Nat} (hn : 0 < n) (h : k + r < 4611686018427387904) : Int.tmod (IntKind.wrap .i64 ((k : Int) + (r : Int))) (n : Int) = (((k + r) % n : Nat) : Int) := by
  rw [IntWalk.i64_in _ (by omega)]
  have : (k : Int) + (r : Int) = ((k + r : Nat) : Int) := by omega
  rw [this, Int.tmod_eq_emod_of_nonneg (by omega)]
  rfl
theorem drawAppend {α : Type} [Rp α] {P : Program} {N : Nat} {e : Env} {w w0 : World} {G0 G : Gh} {d : Option Tmp} {pos : String} {af : Array Edge} {gd : Option (Nat × Bool)} {bl : List Bx} {ac : Act} {R : Value → World → Prop} {x y : Operand} {t el bytes : Nat} {rt : TypeId} {o : Option Bx} {v v2 : Value} {xs ys : List α} {r : List Bx}
    (hF : Fr N ac e) (he : elemOk P t el (Rp.sz α) bytes = true) (hC : Cx w0 G0 G w M) (hB : Bxs G w w0.heap.size (bl ++ (o.toList ++ r)) M)
    (hx : opv e x = some v) (hy : opv e y = some v2) (hO : Ow G o el v xs) (hS : Sl G v2 ys) (hb : xs.length + ys.length ≤ 1073741824) (hby : Nat.ble bytes 131072 = true)
    (hR : ∀ A cap o' w', Cx w0 G0 G w' M → Bxs G w' w0.heap.size (bl ++ (o'.toList ++ r)) M → Ow G o' el (.slice A (xs ++ ys).length cap) (xs ++ ys) → R (.slice A (xs ++ ys).length cap) w') :
    OpR P ⟨d, .call ⟨.builtin .append, #[x, y], #[t, t]⟩, rt, pos, af, gd⟩ ac w R := by
  have hby := Nat.le_of_ble_eq_true hby
  have hp : (bl ++ (o.toList ++ r)).Perm (o.toList ++ (bl ++ r)) := by
    rw [← List.append_assoc, ← List.append_assoc]; exact List.perm_append_comm.append_right r
  obtain ⟨v', o', w', hr, k1, k2, k3, _, _⟩ := run_append_ow (P := P) (ty := rt) he hC (Nat.le_refl _) hC.size (hB.perm hp) hO hS (by simp only [maxLen]; omega) (by
    calc (xs.length + ys.length) * bytes ≤ 1073741824 * 131072 := Nat.mul_le_mul hb hby
      _ = 140737488355328 := by decide)
  have hp' : (o'.toList ++ (bl ++ r)).Perm (bl ++ (o'.toList ++ r)) := by
    rw [← List.append_assoc, ← List.append_assoc]; exact List.perm_append_comm.append_right r
  obtain ⟨A, cap, rfl⟩ := k3.form
  unfold OpR
  have : (execOp ac.eval ⟨d, .call ⟨.builtin .append, #[x, y], #[t, t]⟩, rt, pos, af, gd⟩).run P w = .ok (.value (.slice A (xs ++ ys).length cap)) w' := by
    simp only [execOp, resolve, Sem.run_bind, Sem.run_pure, Result.andThen_ok, invoke, builtin, List.map_toArray, List.map_cons, List.map_nil, hF.eval hx, hF.eval hy, hr]
  rw [this]
  exact hR A cap o' w' k1 (k2.perm hp') k3
end Go.Gx
