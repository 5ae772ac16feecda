/- internal/bytealg.Compare, as the model has it. No condition. -/
import Derived.Test.YtljcgggflgbenaaGreatDoorGxLit
set_option linter.all false
namespace Go.Gx
open Go Go.RowKit
variable {M : Mu}

def cmpB (a b : List UInt8) : Int := Extern.BytealgCompare.cmp ⟨a.toArray⟩ ⟨b.toArray⟩
section
variable {P : Program} {N : Nat} {e : Env} {w : World} {G : Gh} {d : Option Tmp} {ty : TypeId} {pos : String} {af : Array Edge} {gd : Option (Nat × Bool)}
theorem run_loadBytes8 : ∀ (l : List UInt8) (b o : Nat) (acc : ByteArray), (∀ j x, l[j]? = some x → w.cell? ⟨b, o + j, none⟩ = some (.int .u8 (x.toNat : Int))) →
    (Extern.Bytes.loadBytes ⟨b, o, none⟩ l.length acc).run P w = .ok ⟨acc.data ++ l.toArray⟩ w
  | [], b, o, acc, _ => by simp [Extern.Bytes.loadBytes]
  | x :: l, b, o, acc, h => by
    have h0 : w.cell? ⟨b, o, none⟩ = some (.int .u8 (x.toNat : Int)) := by simpa using h 0 x rfl
    have ih := run_loadBytes8 l b (o + 1) (acc.push x) (fun j y hy => by rw [Nat.add_assoc, Nat.add_comm 1 j]; exact h (j + 1) y (by simpa using hy))
    have hx : (x.toNat : Int).toNat.toUInt8 = x := by simp
    simp only [List.length_cons, Extern.Bytes.loadBytes, Sem.run_bind, run_load, h0, Result.andThen_ok, Addr.add_mid]
    rw [hx, ih]
    congr 1
    apply ByteArray.ext
    simp [ByteArray.push]
theorem run_bytesOf {v : Value} {xs : List UInt8} (hh : Holds G w) (h : Sl G v xs) : (Extern.Bytes.bytesOf v).run P w = .ok ⟨xs.toArray⟩ w := by
  obtain ⟨A, cap, rfl, _, _, h4⟩ := h
  cases A with
  | none =>
    cases xs with
    | nil => simp [Extern.Bytes.bytesOf]; rfl
    | cons x xs => obtain ⟨b, o, row, hA, _⟩ := h4 0 x (by simp); cases hA
  | some a =>
    cases xs with
    | nil => simp [Extern.Bytes.bytesOf, Extern.Bytes.loadBytes]; rfl
    | cons x xs =>
      obtain ⟨b, o, row, hA, _⟩ := h4 0 x (by simp)
      injection hA with hA
      subst hA
      have := run_loadBytes8 (P := P) (w := w) (x :: xs) b o .empty (fun j y hy => by
        obtain ⟨b', o', row', hA', hr, his⟩ := h4 j y hy
        injection hA' with hA'
        injection hA' with e1 e2
        subst e1; subst e2
        have his : row' = [.int .u8 (y.toNat : Int)] := his
        subst his
        have := hr.range hh 0 (.int .u8 (y.toNat : Int)) rfl
        simpa [Rp.sz] using this)
      simp only [Extern.Bytes.bytesOf]
      rw [this]
      congr 1
      apply ByteArray.ext
      simp
theorem run_compare {v1 v2 : Value} {a b : List UInt8} (hh : Holds G w) (ha : Sl G v1 a) (hb : Sl G v2 b) : (Extern.BytealgCompare.compare #[v1, v2]).run P w = .ok (.int .i64 (cmpB a b)) w := by
  show (do pure (goInt (Extern.BytealgCompare.cmp (← Extern.Bytes.bytesOf v1) (← Extern.Bytes.bytesOf v2))) : Sem Value).run P w = _
  simp only [Sem.run_bind, run_bytesOf hh ha, run_bytesOf hh hb, Result.andThen_ok, Sem.run_pure]
  rfl
theorem opCallExt {f : FuncId} {fn : Func} {E : Array Value → Sem Value} {xs : List Operand} {vs : List Value} {ats : Array TypeId} {v : Value} (hfn : P.funcs[f]? = some fn) (hb : fn.body.isNone = true) (hn : (fn.name == "runtime.NumGoroutine") = false)
    (hnext : (Extern.findNext fn).isNone = true) (hfind : Extern.find fn = some E) (hvs : opvs e xs = some vs) (hrun : (E vs.toArray).run P w = .ok v w) :
    OpVal P N e w ⟨d, .call ⟨.value (.func f), xs.toArray, ats⟩, ty, pos, af, gd⟩ v := fun a ha => by
  have hev := ha.evals hvs
  have hn' : fn.name ≠ "runtime.NumGoroutine" := by simpa using hn
  have hnx : Extern.findNext fn = none := by cases h : Extern.findNext fn <;> simp_all
  simp only [execOp, resolve, Act.eval, hev, Deferred.ofValue, Sem.run_bind, Sem.run_pure, Result.andThen_ok, invoke]
  have hbn : fn.body = none := by cases h : fn.body <;> simp_all
  simp [callFunc, hfn, hn', hbn, hnx, hfind, Go.mark]
  show ((Sem.run P (E vs.toArray) w).andThen fun a w' => Result.ok (Next.value a) w') = _
  rw [hrun]; rfl

theorem run_part_row' {t off n : Nat} {cs r : List Value} (ht : rowOk P t n = true) (hr : (cs.drop off).take n = r) (w : World) : (part t cs.toArray off).run P w = .ok (.agg r.toArray) w := by
  rw [run_part_row ht]
  subst hr
  congr 2
  apply Array.ext'
  simp
theorem opMinN {x y : Operand} {a b : Nat} {ats : Array TypeId} {rt : TypeId} (hx : opv e x = some (.int .i64 (a : Int))) (hy : opv e y = some (.int .i64 (b : Int))) :
    OpVal P N e w ⟨d, .call ⟨.builtin .min, #[x, y], ats⟩, rt, pos, af, gd⟩ (.int .i64 ((min a b : Nat) : Int)) := fun s hs => by
  have h : (if (b : Int) < (a : Int) then (b : Int) else (a : Int)) = ((min a b : Nat) : Int) := by split <;> omega
  simp only [execOp, resolve, Sem.run_bind, Sem.run_pure, Result.andThen_ok, invoke, builtin, List.map_toArray, List.map_cons, List.map_nil, hs.eval hx, hs.eval hy, run_min_int2, h]
/-- It is let stay, wherever it stands among the boxes. -/
theorem Ow.freeze' {α : Type} [Rp α] {w0 : World} {G0 : Gh} {n T : Nat} {o : Option Bx} {v : Value} {xs : List α} {bl r : List Bx} (h : Ow G o T v xs) (hC : Cx w0 G0 G w M) (hn : w0.heap.size ≤ n) (hB : Bxs G w n (bl ++ (o.toList ++ r)) M) (hm : xs.length ≤ maxL) (hmay : ∀ m ∈ M.may, m ∈ (bl ++ r).map (·.1) ∨ m ∈ M.held.map (·.1) := by simp) :
    ∃ G', GLe G G' ∧ Cx w0 G0 G' w M ∧ Bxs G' w n (bl ++ r) M ∧ Sl G' v xs :=
  h.freeze hC hn (hB.perm (by rw [← List.append_assoc, ← List.append_assoc]; exact List.perm_append_comm.append_right r)) hm hmay
theorem Bxs.swapOwn {n : Nat} {A B bl r : List Bx} (h : Bxs G w n (bl ++ (A ++ (B ++ r))) M) : Bxs G w n (bl ++ (B ++ (A ++ r))) M :=
  h.perm (List.Perm.append_left bl (by rw [← List.append_assoc, ← List.append_assoc]; exact List.perm_append_comm.append_right r))
end
theorem OpVal.cast {P : Program} {N : Nat} {e : Env} {w : World} {o : Oper} {v v' : Value} (h : OpVal P N e w o v) (hv : v = v') : OpVal P N e w o v' := hv ▸ h
theorem RetS.cast {P : Program} {f : FuncId} {xs : Array Value} {G : Gh} {w : World} {v v' : Value} (h : RetS P f xs G w v) (hv : v = v') : RetS P f xs G w v' := hv ▸ h
end Go.Gx
