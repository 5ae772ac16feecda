/- A part of the proof. No condition. -/
import Derived.Test.YtpbcabanpppfoaaGreatA0
import Derived.Lib.SliceRun
import Derived.Maps.RangeRun
import Derived.WalkSpells
import Derived.Laws.Pointers
import Derived.Laws.Externs
import Derived.Orders
import Derived.Laws.MakeOwn
import Derived.OrdersHeld
set_option linter.all false
namespace Go.Gx
open Go Go.RowKit
section
variable {P : Program} {N : Nat} {e : Env} {w : World} {d : Option Tmp} {ty : TypeId} {pos : String} {af : Array Edge} {gd : Option (Nat × Bool)}
end
variable {M : Mu}
section
variable {α : Type} [Rp α] {P : Program} {ops : Array Oper} {Q : Exit -> Act -> World -> Prop} {N : Nat} {e : Env} {w w0 : World} {G0 G : Gh} {rest : List Oper} {d : Option Tmp} {ty : TypeId} {pos : String} {af : Array Edge} {gd : Option (Nat × Bool)} {bl r : List Bx}
def b8t {t el n bytes : Nat} {ps : List (Nat × Operand)} {vs : List Value} {rows : List (List Value)} {xs : List α} (he : a1i P t el (Rp.sz α) bytes = true) (hsz : Nat.blt 0 (Rp.sz α) = true) (hsm : Nat.ble (n * Rp.sz α) 16777216 = true)
  (hC : Cx w0 G0 G w M) (hB : Bxs G w w0.heap.size (bl ++ r) M) (hi : ps.map (·.1) = List.range' 0 n) (hvs : a4w e (ps.map (·.2)) = some vs) (hrows : vs.map (fun v => v.cells.toList) = rows) (hR : p5 G rows xs) (hd : okD N d = true)
  (h : ∀ b cs w', Cx w G G w' -> Cx w0 G0 G w' M -> Bxs G w' w0.heap.size (bl ++ (Option.toList (some (b, el, cs)) ++ r)) M -> Ow G (some (b, el, cs)) el (.slice (some ⟨b, 0, none⟩) n n) xs -> WL P ops Q N rest (e.putO d (.slice (some ⟨b, 0, none⟩) n n)) w') :
  WL P ops Q N (⟨d, .buildSlice t n ps.toArray, ty, pos, af, none⟩ :: rest) e w := by
 have hn : ps.length = n := by have := congrArg List.length hi; simpa using this
 have hvl := b8s hvs
 have hxl : xs.length = n := by rw [<- hR.length, <- hrows, C5, hvl, C5, hn]
 have hrl : ∀ r ∈ rows, r.length = Rp.sz α := fun r hr => (hR.len r hr).1
 have hle := C2 hsm
 have h1 : n <= n * Rp.sz α := S6 n (C2 hsz)
 have hO : Ow G (some (w.heap.size, el, rows.flatten)) el (.slice (some ⟨w.heap.size, 0, none⟩) n n) xs :=
  ⟨rows, ⟨hrl, rfl, 0, n, by rw [hR.length, hxl], by rw [hR.length, hxl]; exact B9 _, by simp only [maxLen]; omega, by rw [t6 hrl, hR.length, hxl, F2], by rw [N8, <- t6 hrl]; exact D1⟩, hR⟩
 refine x5 (R := fun v w' => v = .slice (some ⟨w.heap.size, 0, none⟩) n n /\ w' = w.alloc (.cells rows.flatten.toArray el)) hd (fun a ha => ?_) ?_
 ·unfold OpR; have hp := ha.parts hvs; have hrun := a9i (P := P) (w := w) (ps := (ps.map (·.1)).zip vs) (rows := rows) (n := n) he (C2 hsz) (by simp [hvl, hn]) (by omega) (by rw [List.map_fst_zip (by simp [hvl])]; exact hi)
   (by rw [<- hrows, <- List.map_snd_zip (l₁ := ps.map (·.1)) (l₂ := vs) (by simp [hvl]), O1, List.map_snd_zip (by simp [hvl])]; rfl) hrl
  have hx : (execOp a.eval ⟨d, .buildSlice t n ps.toArray, ty, pos, af, none⟩).run P w = .ok (.value (.slice (some ⟨w.heap.size, 0, none⟩) n n)) (w.alloc (.cells rows.flatten.toArray el)) := by
   have hpa : (ps.toArray.map fun (p : Nat × Operand) => (p.1, a.eval p.2)) = ((ps.map (·.1)).zip vs).toArray := J5 (by rw [hp]); simp only [execOp, Sem.run_bind]; rw [show (Array.map (fun x : Nat × Operand => match x with | (i, x) => (i, a.eval x)) ps.toArray) = ((ps.map (·.1)).zip vs).toArray from hpa, hrun]
   rfl
  rw [hx]; exact ⟨rfl, rfl⟩
 ·rintro v w' ⟨rfl, rfl⟩; have hk := Cx.alloc hC.holds (.cells rows.flatten.toArray el); refine h w.heap.size rows.flatten _ hk (hC.trans hk) ?_ hO; exact (hB.push hC.holds hC.size hC.heldLt el rows.flatten).perm (by simpa using List.perm_middle.symm)
end
variable {M : Mu}
section
variable {P : Program} {N : Nat} {e : Env} {w : World} {d : Option Tmp} {ty : TypeId} {pos : String} {af : Array Edge} {gd : Option (Nat × Bool)}
def d9s {t : Nat} (h : a3c P t = true) : ∃ el, P.underlying t = some (.slice el) := by
 unfold a3c at h
 split at h
 ·exact ⟨_, by assumption⟩
 ·cases h
def b2i {t yt : TypeId} {x y : Operand} {A : Option Addr} {n cap : Nat} (hx : opv e x = some (.slice A n cap)) (hy : opv e y = some (.slice none 0 0)) (ht : a3c P t = true) :
  j9 P N e w ⟨d, .binOp .eql t x y yt, ty, pos, af, gd⟩ (.bool A.isNone) := fun a ha => by
 obtain ⟨el, hu⟩ := d9s ht
 have := Go.Lib.run_eql_slice_nil (P := P) w t el A n cap 0 0 hu
 have hg : (eqGuard .eql t x y (.slice A n cap) (.slice none 0 0)).run P w = .ok () w := rfl
 simp [execOp, ha.eval hx, ha.eval hy, this, hg]
end
section
variable {α : Type} [Rp α] {P : Program} {G : Gh} {w : World} {n T : Nat} {o : Option Bx} {xs : List α} {bl r : List Bx}
end
def d1c (zc : List Value) : ∀ m : Nat, (Builtin.zeroCells zc.toArray m).toList = (List.replicate m zc).flatten := by
 have key : ∀ m : Nat, List.map (fun i => zc.toArray[i % zc.length]!) (List.range (m * zc.length)) = (List.replicate m zc).flatten := by
  intro m
  induction m with
  | zero => simp
  | succ m ih =>
   rw [Nat.succ_mul, List.range_add, F5, ih, List.replicate_succ', R8]
   congr 1
   simp only [O1, Q9, List.flatten_nil, D6]; apply J1; intro i; rw [C7]; by_cases hi : i < zc.length
   ·rw [X9 hi, B2 hi]; have : (m * zc.length + i) % zc.length = i := by rw [Nat.mul_add_mod_self_right, N3 hi]
    simp [Function.comp, this, hi]
   ·rw [I0 (by simp; omega), I0 (by omega)]; rfl
 intro m
 have := key m
 unfold Builtin.zeroCells
 simp only [Array.toList_map, Array.toList_range, S9]
 exact this
section
variable {P : Program} {ops : Array Oper} {Q : Exit -> Act -> World -> Prop} {N : Nat} {e : Env} {w w0 : World} {G0 G : Gh} {rest : List Oper} {d : Option Tmp} {ty : TypeId} {pos : String} {af : Array Edge} {bl r : List Bx} {o : Option Bx}
def c7z {α : Type} [Rp α] {x : Operand} {t el sz n cap l : Nat} {rt : TypeId} {A : Option Addr} {xs : List α} {z : α} {zc : List Value} (he : P.underlying t = some (.slice el)) (hsz : sz = Rp.sz α) (hz : ∀ G, Rp.Is G zc z) (hzf : (P.info? el).bind (fun i => i.zero.map Value.cells) = some zc.toArray) (hC : Cx w0 G0 G w M) (hB : Bxs G w w0.heap.size (bl ++ (o.toList ++ r)) M)
  (hO : Ow G o el (.slice A n cap) xs) (hl : l <= xs.length) (hx : opv e x = some (.slice (if cap = l then A else A.map (fun a => a.add (l * sz))) (n - l) (cap - l))) (hd : okD N d = true)
  (h : ∀ o' w', Cx w0 G0 G w' M -> Bxs G w' w0.heap.size (bl ++ (o'.toList ++ r)) M -> Ow G o' el (.slice A n cap) (xs.take l ++ List.replicate (xs.length - l) z) -> WL P ops Q N rest (e.putO d (.tuple #[])) w') :
  WL P ops Q N (⟨d, .call ⟨.builtin .clear, #[x], #[t]⟩, rt, pos, af, none⟩ :: rest) e w := by
 obtain ⟨rows, ⟨h1, h2⟩, h3⟩ := hO
 have hl1 := h3.length
 have hzl : ∀ (G : Gh), zc.length = Rp.sz α := fun G => Rp.len (hz G)
 have hzl := hzl G
 by_cases hk : n - l = 0
 ·
  have hn : xs.length = l := by
   have := (show Ow G o el (.slice A n cap) xs from ⟨rows, ⟨h1, h2⟩, h3⟩).len; omega
  refine x5 (R := fun v w' => v = .tuple #[] /\ w' = w) hd (fun a ha => ?_) ?_
  ·unfold OpR; have hr : (execOp a.eval ⟨d, .call ⟨.builtin .clear, #[x], #[t]⟩, rt, pos, af, none⟩).run P w = .ok (.value (.tuple #[])) w := by
    simp only [execOp, resolve, Sem.run_bind, Sem.run_pure, Result.andThen_ok, invoke, builtin, K8, C9, L0, ha.eval hx, hk]; simp [Builtin.clear_, run_underlying he]; cases (if cap = l then A else A.map (fun a => a.add (l * sz))) <;> simp
   rw [hr]; exact ⟨rfl, rfl⟩
  ·rintro v w' ⟨rfl, rfl⟩; refine h o w' hC hB ?_; rw [hn, W0]; simp only [List.replicate_zero, D6]; rw [F9 (by omega)]; exact ⟨rows, ⟨h1, h2⟩, h3⟩
 ·cases o with
  | none => obtain ⟨hr, hv⟩ := h2; injection hv with e1 e2 e3; omega
  | some ob =>
   obtain ⟨g, T', cs⟩ := ob; obtain ⟨hT, off, cap', hv, h4, h5, h6, h7⟩ := h2; injection hv with e1 e2 e3
   subst hT; subst e1; subst e2; subst e3; have hg := hB.at_ (g, T', cs) (by simp); have hcl : ¬ cap = l := by omega
   rw [F7 hcl] at hx; simp only [H8, Addr.add_mid] at hx; obtain ⟨zv, hzv, hzc⟩ : ∃ zv, (∀ w : World, (zeroValue T').run P w = .ok zv w) /\ zv.cells = zc.toArray := by
    cases hq : P.info? T' with
    | none => simp [hq] at hzf
    | some inf =>
     cases hzz : inf.zero with
     | none => simp [hq, hzz] at hzf
     | some zv => exact ⟨zv, fun w => by simp [zeroValue, typeInfo, hq, hzz], by simpa [hq, hzz] using hzf⟩
   have hflat : (Builtin.zeroCells zc.toArray (rows.length - l)).toList = (List.replicate (rows.length - l) zc).flatten := d1c zc _; have hrl : ∀ q ∈ List.replicate (rows.length - l) zc, q.length = Rp.sz α := fun q hq => by rw [V3 hq]; exact hzl
   have hfl := t6 hrl; rw [L9] at hfl; have hmul : rows.length * sz <= cap * sz := M4 _ h4; have hsum : l * sz + (rows.length - l) * sz = rows.length * sz := by rw [<- N0, show l + (rows.length - l) = rows.length by omega]
   have hfit : off + l * sz + (List.replicate (rows.length - l) zc).flatten.length <= cs.length := by rw [hfl, h6, <- hsz]; omega
   have hone : ∀ v ∈ (List.replicate (rows.length - l) zc).flatten, v.oneCell' = true := fun v hv => by
    obtain ⟨q, hq, hv⟩ := List.mem_flatten.1 hv; rw [V3 hq] at hv; exact Rp.one (hz G) v hv
   refine x5 (R := fun v w' => v = .tuple #[] /\ w' = w.setRow g (cs.take (off + l * sz) ++ (List.replicate (rows.length - l) zc).flatten ++ cs.drop (off + l * sz + (List.replicate (rows.length - l) zc).flatten.length)).toArray) hd (fun a ha => ?_) ?_
   ·unfold OpR; have hst := run_storeCells_at (P := P) g (off + l * sz) T' (List.replicate (rows.length - l) zc).flatten 0 cs.toArray w hg.1 (by simpa using hfit) hone; simp only [N5] at hst; have hr : (execOp a.eval ⟨d, .call ⟨.builtin .clear, #[x], #[t]⟩, rt, pos, af, none⟩).run P w = .ok (.value (.tuple #[])) (w.setRow g (cs.take (off + l * sz) ++ (List.replicate (rows.length - l) zc).flatten ++ cs.drop (off + l * sz + (List.replicate (rows.length - l) zc).flatten.length)).toArray) := by
     simp only [execOp, resolve, Sem.run_bind, Sem.run_pure, Result.andThen_ok, invoke, builtin, K8, C9, L0, ha.eval hx]; obtain ⟨m, hm⟩ : ∃ m, rows.length - l = m + 1 := ⟨rows.length - l - 1, by omega⟩; have hflat' := hflat; rw [hm] at hflat' hst ⊢; simp [Builtin.clear_, run_underlying he, hzv, hzc, hflat', hst]
    rw [hr]; exact ⟨rfl, rfl⟩
   ·rintro v w' ⟨rfl, rfl⟩; refine h (some (g, T', cs.take (off + l * sz) ++ (List.replicate (rows.length - l) zc).flatten ++ cs.drop (off + l * sz + (List.replicate (rows.length - l) zc).flatten.length))) _ (hC.setRow' hg.2.1 hg.2.2 (hB.apart (g, T', cs) (by simp)) _) (Bxs.setX (X := bl) hB _) ⟨rows.take l ++ List.replicate (rows.length - l) zc, ⟨?_, rfl, off, cap, ?_, ?_, h5, ?_, ?_⟩, ?_⟩
    ·intro q hq; rcases D4.1 hq with hq | hq
     ·exact h1 q (T5 hq)
     ·exact hrl q hq
    ·simp; omega
    ·simp; omega
    ·simp only [B7, C4, H7]; omega
    ·have t1 : (rows.take l).flatten = (cs.drop off).take (l * sz) := by
      have hf := t6 (rows := rows.take l) (fun q hq => h1 q (T5 hq)); rw [C4, J0 (by omega)] at hf; have e1 : rows.flatten = (rows.take l).flatten ++ (rows.drop l).flatten := by rw [<- R8, E6]
      have e2 : (cs.drop off).take (l * sz) = ((cs.drop off).take (rows.length * Rp.sz α)).take (l * sz) := by rw [List.take_take, J0 (by rw [hsz]; exact M4 _ (by omega))]
      rw [e2, h7, e1, hsz, <- hf, K5]
     have hlo : off + l * sz <= cs.length := by omega
     have hd : (cs.take (off + l * sz) ++ (List.replicate (rows.length - l) zc).flatten ++ cs.drop (off + l * sz + (List.replicate (rows.length - l) zc).flatten.length)).drop off = (cs.drop off).take (l * sz) ++ ((List.replicate (rows.length - l) zc).flatten ++ cs.drop (off + l * sz + (List.replicate (rows.length - l) zc).flatten.length)) := by
      rw [B6, V8, List.drop_take, I2, C4, Nat.sub_eq_zero_of_le (by omega), N8]
     rw [hd, R8, t1, <- B6]; have hl2 : (rows.take l ++ List.replicate (rows.length - l) zc).length * Rp.sz α = ((cs.drop off).take (l * sz) ++ (List.replicate (rows.length - l) zc).flatten).length := by
      rw [B7, B7, C4, L9, C4, H7, hfl, J0 (by omega), J0 (by omega), hsz, <- N0]
     rw [hl2, K5]
    ·have hrep : ∀ m, p5 G (List.replicate m zc) (List.replicate m z) := by
      intro m
      induction m with
      | zero => trivial
      | succ m ih => exact ⟨hz G, ih⟩
     rw [<- hl1]; exact (h3.take l).append (hrep _)
end
end Go.Gx
namespace Go.Gx
open Go Go.RowKit
open Go.ChangeMaps (setBlock)
variable {M : Mu} {κ : Type} [DecidableEq κ] {β : Type}
class Rl (α : Type) where
  Is1 : Gh -> Value -> α -> Prop
  mono1 : ∀ {G G' : Gh} {v x}, GLe G G' -> Is1 G v x -> Is1 G' v x
instance (priority := low) {α : Type} [Rp α] : Rl α := ⟨fun G v x => Rp.Is G [v] x, fun hg h => Rp.mono hg h⟩
def a0y : List (κ × β) -> κ -> Option β
 | [], _ => none
 | p :: r, x => if p.1 = x then some p.2 else a0y r x
def a2t : List (κ × β) -> κ -> β -> List (κ × β)
 | [], x, v => [(x, v)]
 | p :: r, x, v => if p.1 = x then (x, v) :: r else p :: a2t r x v
structure a9j (P : Program) (kt : Nat) (enc : κ -> Value) : Prop where
  inj : ∀ x y, enc x = enc y -> x = y
  chk : ∀ (b : Bool) (x : κ) (w : World), (Instr.checkKey b 10000 kt (enc x)).run P w = .ok () w
  stay : ∀ (x : κ) (w : World), (Instr.keyThatStays (enc x) (enc x)).run P w = .ok (enc x) w
  find : ∀ (x : κ) (es : List MapEntry) (ks : List κ), es.map (·.key) = ks.map enc ->
    (x ∉ ks /\ ∀ w, (Instr.findKey kt (enc x) es).run P w = .ok none w) ∨ ∃ i e, ks[i]? = some x /\ (∀ j, j < i -> ks[j]? ≠ some x) /\ es[i]? = some e /\ ∀ w, (Instr.findKey kt (enc x) es).run P w = .ok (some (i, e.val)) w
def a9k (P : Program) (t kt et : Nat) : Bool := match P.underlying t with | some (.map k e) => Nat.beq k kt && Nat.beq e et | _ => false
def a7h {P : Program} {t kt et : Nat} (h : a9k P t kt et = true) : P.underlying t = some (.map kt et) := by
 unfold a9k at h
 split at h
 ·rename_i hu; rw [A7] at h; rw [hu, A8 h.1, A8 h.2]
 ·cases h
def d9t {P : Program} {kt : Nat} (hk : P.underlying kt = some (.int .i64)) : a9j P kt (fun x : Int => Value.int .i64 x) where
 inj x y h := by simpa using h
 chk b x w := MapKept.run_checkKey hk (by trivial) b 9999
 stay x w := MapKept.run_keyThatStays (d := .int .i64) (by trivial)
 find x es ks h := by
  have key : ∀ (es : List MapEntry) (ks : List Int) (n : Nat), es.map (·.key) = ks.map (fun x : Int => Value.int .i64 x) ->
    (x ∉ ks /\ Instr.findNow (.int .i64) (.int .i64 x) es n = some none) ∨ ∃ i e, ks[i]? = some x /\ (∀ j, j < i -> ks[j]? ≠ some x) /\ es[i]? = some e /\ Instr.findNow (.int .i64) (.int .i64 x) es n = some (some (n + i, e.val)) := by
   intro es
   induction es with
   | nil => intro ks n h; cases ks with | nil => exact .inl ⟨by simp, rfl⟩ | cons _ _ => simp at h
   | cons e es ih =>
    intro ks n h; cases ks with
    | nil => simp at h
    | cons k ks =>
     simp only [C9, K7] at h; obtain ⟨h1, h2⟩ := h; by_cases hx : x = k
     ·subst hx; refine .inr ⟨0, e, by simp, fun j hj => by omega, by simp, ?_⟩; simp [Instr.findNow, h1, Instr.sameNow]
     ·have hs : Instr.findNow (.int .i64) (.int .i64 x) (e :: es) n = Instr.findNow (.int .i64) (.int .i64 x) es (n + 1) := by
       have : (x == k) = false := by simpa using hx
       simp [Instr.findNow, h1, Instr.sameNow, this]
      rw [hs]; rcases ih ks (n + 1) h2 with ⟨a, b⟩ | ⟨i, e', a, b, c, d⟩
      ·exact .inl ⟨by simp [a, hx], b⟩
      ·refine .inr ⟨i + 1, e', by simpa using a, fun j hj => ?_, by simpa using c, by rw [d]; congr 3; omega⟩
       cases j with
       | zero => simp; exact fun h => hx h.symm
       | succ j => simpa using b j (by omega)
  rcases key es ks 0 h with ⟨a, b⟩ | ⟨i, e, a, b, c, d⟩
  ·exact .inl ⟨a, fun w => MapKept.run_findKey hk b⟩
  ·exact .inr ⟨i, e, a, b, c, fun w => by rw [MapKept.run_findKey hk d, F2]⟩
structure d1d (enc : κ -> Value) (es : Array MapEntry) (clock : Nat) (kvs : List (κ × Value)) : Prop where
  kv : es.toList.map (fun e => (e.key, e.val)) = kvs.map (fun p => (enc p.1, p.2))
  old : ∀ e ∈ es.toList, e.born < clock
  nd : (es.toList.map (·.born)).Nodup
def d1d.keys {enc : κ -> Value} {es : Array MapEntry} {clock : Nat} {kvs : List (κ × Value)} (h : d1d enc es clock kvs) : es.toList.map (·.key) = (kvs.map (·.1)).map enc := by
 have := congrArg (List.map Prod.fst) h.kv
 simpa [O1, Z3] using this
def a5h : ∀ {kvs : List (κ × β)} {x : κ}, x ∉ kvs.map (·.1) -> a0y kvs x = none
 | [], _, _ => rfl
 | p :: r, x, h => by
  simp only [C9, D2, not_or] at h; rw [a0y, F7 (fun e => h.1 e.symm)]; exact a5h h.2
def b7u : ∀ {kvs : List (κ × β)} {x : κ} {i : Nat} {p : κ × β}, kvs[i]? = some p -> p.1 = x -> (∀ j, j < i -> (kvs.map (·.1))[j]? ≠ some x) -> a0y kvs x = some p.2
 | [], _, i, _, h, _, _ => by simp at h
 | q :: r, x, 0, p, h, hp, _ => by simp at h; subst h; simp [a0y, hp]
 | q :: r, x, i + 1, p, h, hp, hj => by
  have h0 : q.1 ≠ x := by have := hj 0 (by omega); simpa using this
  rw [a0y, F7 h0]; exact b7u (i := i) (by simpa using h) hp (fun j hj' => by have := hj (j + 1) (by omega); simpa using this)
def b0p : ∀ {kvs : List (κ × β)} {x : κ} {v : β}, x ∉ kvs.map (·.1) -> a2t kvs x v = kvs ++ [(x, v)]
 | [], _, _, _ => rfl
 | p :: r, x, v, h => by
  simp only [C9, D2, not_or] at h; rw [a2t, F7 (fun e => h.1 e.symm), b0p h.2]; rfl
def c4x : ∀ {kvs : List (κ × β)} {x : κ} {v : β} {i : Nat}, (kvs.map (·.1))[i]? = some x -> (∀ j, j < i -> (kvs.map (·.1))[j]? ≠ some x) -> a2t kvs x v = kvs.set i (x, v)
 | [], _, _, i, h, _ => by simp at h
 | q :: r, x, v, 0, h, _ => by simp at h; simp [a2t, h]
 | q :: r, x, v, i + 1, h, hj => by
  have h0 : q.1 ≠ x := by have := hj 0 (by omega); simpa using this
  rw [a2t, F7 h0, List.set_cons_succ, c4x (i := i) (by simpa using h) (fun j hj' => by have := hj (j + 1) (by omega); simpa using this)]
def d7u {l : List (κ × β)} {x : κ} {v : β} (h : x ∈ l.map (·.1)) : (a2t l x v).map (·.1) = l.map (·.1) := by
 induction l with
 | nil => simp at h
 | cons p r ih =>
  by_cases hp : p.1 = x
  ·simp [a2t, hp]
  ·have : x ∈ r.map (·.1) := by
    rw [C9, D2] at h; exact h.elim (fun e => absurd e.symm hp) id
   simp [a2t, hp, ih this]
def a5n {l : List (κ × β)} (x : κ) (v : β) (h : (l.map (·.1)).Nodup) : ((a2t l x v).map (·.1)).Nodup := by
 by_cases hx : x ∈ l.map (·.1)
 ·rw [d7u hx]; exact h
 ·rw [b0p hx, F5, P6]; refine ⟨h, by simp, fun a ha b hb => ?_⟩; have : b = x := by simpa using hb
  subst this; rintro rfl; exact hx ha
def d1e {l : List (κ × β)} {i : Nat} {p : κ × β} (hn : (l.map (·.1)).Nodup) (h : l[i]? = some p) : a0y l p.1 = some p.2 := by
 induction l generalizing i with
 | nil => simp at h
 | cons q r ih =>
  rw [C9, L5] at hn; cases i with
  | zero => simp at h; subst h; simp [a0y]
  | succ i =>
   have hr : r[i]? = some p := by simpa using h
   have : q.1 ≠ p.1 := fun e => hn.1 (by rw [e]; exact E1.2 ⟨p, I1 hr, rfl⟩)
   rw [a0y, F7 this]; exact ih hn.2 hr
def KvR [Rl β] (G : Gh) : List (κ × Value) -> List (κ × β) -> Prop
 | [], [] => True
 | p :: r, q :: s => p.1 = q.1 /\ Rl.Is1 G p.2 q.2 /\ KvR G r s
 | _, _ => False
section
variable [Rl β] {G G' : Gh}
def KvR.mono (hg : GLe G G') : ∀ {a : List (κ × Value)} {b : List (κ × β)}, KvR G a b -> KvR G' a b
 | [], [], _ => trivial
 | _ :: _, _ :: _, h => ⟨h.1, Rl.mono1 hg h.2.1, h.2.2.mono hg⟩
 | [], _ :: _, h => h.elim
 | _ :: _, [], h => h.elim
theorem KvR.keys : ∀ {a : List (κ × Value)} {b : List (κ × β)}, KvR G a b -> a.map (·.1) = b.map (·.1)
 | [], [], _ => rfl
 | _ :: _, _ :: _, h => by rw [C9, C9, h.1, h.2.2.keys]
 | [], _ :: _, h => h.elim
 | _ :: _, [], h => h.elim
def KvR.get : ∀ {a : List (κ × Value)} {b : List (κ × β)}, KvR G a b -> ∀ (x : κ), (a0y a x = none /\ a0y b x = none) ∨ ∃ v y, a0y a x = some v /\ a0y b x = some y /\ Rl.Is1 G v y
 | [], [], _, _ => .inl ⟨rfl, rfl⟩
 | p :: r, q :: s, h, x => by
  by_cases hp : p.1 = x
  ·exact .inr ⟨p.2, q.2, by simp [a0y, hp], by simp [a0y, <- h.1, hp], h.2.1⟩
  ·have hq : ¬ q.1 = x := by rw [<- h.1]; exact hp
   simp only [a0y, F7 hp, F7 hq]; exact h.2.2.get x
 | [], _ :: _, h, _ => h.elim
 | _ :: _, [], h, _ => h.elim
def KvR.put {x : κ} {v : Value} {y : β} (hv : Rl.Is1 G v y) : ∀ {a : List (κ × Value)} {b : List (κ × β)}, KvR G a b -> KvR G (a2t a x v) (a2t b x y)
 | [], [], _ => ⟨rfl, hv, trivial⟩
 | p :: r, q :: s, h => by
  by_cases hp : p.1 = x
  ·have hq : q.1 = x := by rw [<- h.1]; exact hp
   simp only [a2t, F8 hp, F8 hq]; exact ⟨rfl, hv, h.2.2⟩
  ·have hq : ¬ q.1 = x := by rw [<- h.1]; exact hp
   simp only [a2t, F7 hp, F7 hq]; exact ⟨h.1, h.2.1, KvR.put hv h.2.2⟩
 | [], _ :: _, h => h.elim
 | _ :: _, [], h => h.elim
def KvR.at_ : ∀ {a : List (κ × Value)} {b : List (κ × β)}, KvR G a b -> ∀ {i : Nat} {p : κ × Value}, a[i]? = some p -> ∃ y, b[i]? = some (p.1, y) /\ Rl.Is1 G p.2 y
 | [], [], _, i, p, hp => by simp at hp
 | q :: r, t :: s, h, i, p, hp => by
  cases i with
  | zero => simp at hp; subst hp; exact ⟨t.2, by simp [h.1], h.2.1⟩
  | succ i => obtain ⟨y, h1, h2⟩ := h.2.2.at_ (i := i) (by simpa using hp); exact ⟨y, by simpa using h1, h2⟩
 | [], _ :: _, h, _, _, _ => h.elim
 | _ :: _, [], h, _, _, _ => h.elim
def MpO (enc : κ -> Value) (G : Gh) (o : Obj) (D : List (κ × β)) : Prop :=
 ∃ es clock kvs, o = .map es clock /\ d1d enc es clock kvs /\ KvR G kvs D /\ (D.map (·.1)).Nodup
def MpO.mono {enc : κ -> Value} {o : Obj} {D : List (κ × β)} (hg : GLe G G') (h : MpO enc G o D) : MpO enc G' o D := by
 obtain ⟨es, clock, kvs, h1, h2, h3, h4⟩ := h
 exact ⟨es, clock, kvs, h1, h2, h3.mono hg, h4⟩
def MpO.nil_ (enc : κ -> Value) (G : Gh) : MpO enc G (.map #[] 0) ([] : List (κ × β)) := ⟨#[], 0, [], rfl, ⟨rfl, by simp, by simp⟩, trivial, by simp⟩
end
section
variable [Rl β] {G G' : Gh} {P : Program} {enc : κ -> Value} {o it : Obj} {D : List (κ × β)} {w : World} {b r : Nat} {t kt et : Nat} {k : κ}
def MpO.lookup {z : Value} {zb : β} (hM : MpO enc G o D) (hK : a9j P kt enc) (ht : a9k P t kt et = true) (hz : (P.info? et).bind (fun i => i.zero) = some z) (hzb : Rl.Is1 G z zb) (k : κ) :
  ∃ v, Rl.Is1 G v ((a0y D k).getD zb) /\ ∀ (w : World) (b : Nat), w.heap[b]? = some o -> (Instr.lookup t (.map (some b)) (enc k) false).run P w = .ok v w := by
 obtain ⟨es, c, kvs, rfl, hE, hR, _⟩ := hM
 have hu := a7h ht
 cases hq : P.info? et with
 | none => simp [hq] at hz
 | some i =>
  have hz' : i.zero = some z := by simpa [hq] using hz
  have hzv : ∀ w, (zeroValue et).run P w = .ok z w := fun w => by simp [zeroValue, typeInfo, hq, hz']
  rcases hK.find k es.toList (kvs.map (·.1)) hE.keys with ⟨g1, g2⟩ | ⟨j, e', g1, g2, g3, g4⟩
  ·refine ⟨z, ?_, fun w b hb => ?_⟩
   ·rw [hR.keys] at g1; rw [a5h g1]; exact hzb
   ·have hc := hK.chk es.isEmpty k w; simp [Instr.lookup, run_underlying hu, MapKept.run_getObj_map hb, hc, g2, hzv]
  ·have hkv : kvs[j]? = some (k, e'.val) := by
    have := congrArg (·[j]?) hE.kv; simp only [C7, g3, H8] at this; rw [C7] at g1; cases hj : kvs[j]? with
    | none => rw [hj] at g1; cases g1
    | some p =>
     rw [hj] at this g1; simp only [H8, A3, I4] at this g1; obtain ⟨p1, p2⟩ := p; simp only [] at this g1; rw [<- g1, this.2]
   have hg := b7u hkv rfl g2; refine ⟨e'.val, ?_, fun w b hb => ?_⟩
   ·rcases hR.get k with ⟨h1, _⟩ | ⟨v, y, h1, h2, h3⟩
    ·rw [hg] at h1; cases h1
    ·rw [hg] at h1; cases h1; rw [h2]; exact h3
   ·have hc := hK.chk es.isEmpty k w; simp [Instr.lookup, run_underlying hu, MapKept.run_getObj_map hb, hc, g4]
def ItO (enc : κ -> Value) (o it : Obj) (b : Nat) (left : List κ) : Prop :=
 ∃ es clock seen, o = .map es clock /\ it = .mapIter (some b) clock seen clock /\ (leftOf es seen).toList.map (·.key) = left.map enc
def d9u (enc : κ -> Value) (o it : Obj) (b : Nat) (k : κ) : Prop :=
 ∃ (es : Array MapEntry) (clock : Nat) (seen : Array Nat) (e : MapEntry), o = .map es clock /\ it = .mapIter (some b) clock (seen.push e.born) clock /\ e ∈ es.toList /\ e.key = enc k
def b6k {α : Type} {f : α -> Nat × Value} {p : Nat -> Bool} : ∀ {l l' : List α}, l.map f = l'.map f -> (l.filter (fun x => p (f x).1)).map (fun x => (f x).2) = (l'.filter (fun x => p (f x).1)).map (fun x => (f x).2)
 | [], [], _ => rfl
 | [], _ :: _, h => by simp at h
 | _ :: _, [], h => by simp at h
 | a :: l, b :: l', h => by
  simp only [C9, K7] at h; have ih := b6k (p := p) h.2; simp only [K9, h.1]; split
  ·simp [h.1, ih]
  ·exact ih
def b5b (es : Array MapEntry) (seen : Array Nat) : (leftOf es seen).toList = es.toList.filter (fun e => !seen.contains e.born) := by unfold leftOf; rw [Array.toList_filter]
def MpO.put {v : Value} {y : β} (hM : MpO enc G o D) (hK : a9j P kt enc) (ht : a9k P t kt et = true) (hv : Rl.Is1 G v y) (k : κ) :
  ∃ o', MpO enc G o' (a2t D k y) /\ (∀ (w : World) (b : Nat), w.heap[b]? = some o -> (Instr.mapUpdate t (.map (some b)) (enc k) v).run P w = .ok () (World.setO w b o')) /\
   (k ∈ D.map (·.1) -> ∀ it b left, ItO enc o it b left -> ItO enc o' it b left) := by
 obtain ⟨es, clock, kvs, rfl, hE, hR, hn⟩ := hM
 have hu := a7h ht
 rcases hK.find k es.toList (kvs.map (·.1)) hE.keys with ⟨g1, g2⟩ | ⟨j, e', g1, g2, g3, g4⟩
 ·refine ⟨.map (es.push ⟨enc k, v, clock⟩) (clock + 1), ⟨_, _, a2t kvs k v, rfl, ⟨?_, ?_, ?_⟩, hR.put hv, a5n k y hn⟩, fun w b hb => ?_, fun h => absurd (by rw [hR.keys]; exact h) g1⟩
  ·rw [b0p g1]; simp [hE.kv]
  ·intro x hx; simp only [V2, D4, F3] at hx; rcases hx with hx | rfl
   ·have := hE.old x hx; omega
   ·simp
  ·simp only [V2, F5, C9, L0]; rw [P6]; refine ⟨hE.nd, by simp, fun a ha c hc => ?_⟩; obtain ⟨y, hy, rfl⟩ := E1.1 ha; have : c = clock := by simpa using hc
   have := hE.old y hy; omega
  ·have hc := hK.chk false k w; simp [Instr.mapUpdate, run_underlying hu, MapKept.run_getObj_map hb, hc, g2, MapKept.run_setObj_map _ hb, World.setO]
 ·have hj : es[j]? = some e' := by simpa using g3
  have hlt := (E4.1 hj).1; have hje : es[j] = e' := (E4.1 hj).2; have hke : e'.key = enc k := by
   have := congrArg (·[j]?) hE.keys; simp only [C7, g3, H8] at this; rw [<- C7, g1] at this; simpa using this
  have hmod : (es.modify j fun e => { e with key := enc k, val := v }).toList = es.toList.set j { e' with key := enc k, val := v } := by
   rw [Y2]; apply J1; intro i; rw [X3, M9]; by_cases hij : j = i
   ·subst hij; simp [hlt]; exact congrArg MapEntry.born hje
   ·simp [hij]
  have hkb : (es.modify j fun e => { e with key := enc k, val := v }).toList.map (fun e => (e.born, e.key)) = es.toList.map (fun e => (e.born, e.key)) := by
   rw [hmod, P7]; apply J1; intro i; rw [M9]; split
   ·rename_i h; subst h; simp [hlt]; exact ⟨congrArg MapEntry.born hje.symm, by rw [<- hke]; exact congrArg MapEntry.key hje.symm⟩
   ·rfl
  refine ⟨.map (es.modify j fun e => { e with key := enc k, val := v }) clock, ⟨_, _, a2t kvs k v, rfl, ⟨?_, ?_, ?_⟩, hR.put hv, a5n k y hn⟩, fun w b hb => ?_, fun _ it b left => ?_⟩
  ·rw [hmod, c4x g1 g2, P7, P7, hE.kv]
  ·intro x hx; rw [hmod] at hx; rcases U5 hx with hx | rfl
   ·exact hE.old x hx
   ·exact hE.old e' (I1 g3)
  ·have := congrArg (List.map Prod.fst) hkb; simp only [O1, Z3] at this; rw [this]; exact hE.nd
  ·have hc := hK.chk false k w; simp [Instr.mapUpdate, run_underlying hu, MapKept.run_getObj_map hb, hc, g4, hj, hje, hlt, hke, hK.stay, MapKept.run_setObj_map _ hb, World.setO]
  ·rintro ⟨es2, c2, seen, h1, h2, h3⟩; injection h1 with h1 h1'
   subst h1; subst h1'; refine ⟨_, _, seen, rfl, h2, ?_⟩; rw [b5b] at h3 ⊢; rw [<- h3]; exact b6k (f := fun e : MapEntry => (e.born, e.key)) (p := fun n => !seen.contains n) hkb
def MpO.start (hM : MpO enc G o D) (b : Nat) : ∃ es clock, o = .map es clock /\ ItO enc o (.mapIter (some b) clock #[] clock) b (D.map (·.1)) := by
 obtain ⟨es, clock, kvs, rfl, hE, hR, hn⟩ := hM
 refine ⟨es, clock, rfl, es, clock, #[], rfl, rfl, ?_⟩
 rw [b5b, <- hR.keys, <- hE.keys]
 congr 1
 rw [R9]
 intro a _; simp
def ItO.next {ty : TypeId} {left : List κ} (hM : MpO enc G o D) (hI : ItO enc o it b left) (hr : w.heap[r]? = some it) (hb : w.heap[b]? = some o) :
  (left = [] /\ (Instr.next (.pointer (some ⟨r, 0, none⟩)) false ty).run P w = .ok (.tuple #[.bool false]) w) ∨
  ∃ l1 k l2 v it' w1, left = l1 ++ k :: l2 /\ (w1 = w ∨ w1 = w.drew) /\ (Instr.next (.pointer (some ⟨r, 0, none⟩)) false ty).run P w = .ok (.tuple #[.bool true, enc k, v]) (World.setO w1 r it') /\ ItO enc o it' b (l1 ++ l2) /\ d9u enc o it' b k := by
 obtain ⟨es, clock, kvs, rfl, hE, hR, hn⟩ := hM
 obtain ⟨es2, c2, seen, h1, rfl, h3⟩ := hI
 injection h1 with h1 h1'
 subst h1; subst h1'
 rcases run_next_at w ty r b clock clock seen es clock hr hb hE.old (B9 _) with ⟨g1, g2⟩ | ⟨e, he, w1, g1, g2⟩
 ·refine .inl ⟨?_, g2⟩; have : (leftOf es seen).toList = [] := by rw [<- H6, S0]; exact g1
  rw [this] at h3; simpa using h3.symm
 ·obtain ⟨m1, m2, hm⟩ := Y6 he; rw [hm, F5, C9] at h3; obtain ⟨l1, l2', rfl, e1, e2⟩ := List.map_eq_append_iff.1 h3.symm; obtain ⟨k, l2, rfl, e3, e4⟩ := List.map_eq_cons_iff.1 e2; have hme := mem_left he; refine .inr ⟨l1, k, l2, e.val, .mapIter (some b) clock (seen.push e.born) clock, w1, rfl, g1, by rw [e3]; exact g2, ⟨es, clock, _, rfl, rfl, ?_⟩, ⟨es, clock, seen, e, rfl, rfl, hme.1, e3.symm⟩⟩; rw [F5, e1, e4, <- F5]
  congr 1
  rw [b5b] at hm ⊢; have hf : es.toList.filter (fun x => !(seen.push e.born).contains x.born) = (es.toList.filter (fun x => !seen.contains x.born)).filter (fun x => !(x.born == e.born)) := by
   rw [List.filter_filter]
   congr 1
   funext x
   rw [contains_push, Bool.not_or, Bool.and_comm]
  rw [hf, hm, L4, K9]; have hnd : ((m1 ++ e :: m2).map (·.born)).Nodup := by
   rw [<- hm]; exact (List.filter_sublist.map _).nodup hE.nd
  rw [F5, C9, P6, L5] at hnd; obtain ⟨_, ⟨n1, _⟩, n2⟩ := hnd; have f1 : m1.filter (fun x => !(x.born == e.born)) = m1 := by
   rw [R9]; intro x hx; have : x.born ≠ e.born := n2 _ (E1.2 ⟨x, hx, rfl⟩) _ (by simp); simpa using this
  have f2 : m2.filter (fun x => !(x.born == e.born)) = m2 := by
   rw [R9]; intro x hx; have : x.born ≠ e.born := fun h => n1 (E1.2 ⟨x, hx, h⟩)
   simpa using this
  simp [f1, f2]
def d9u.entry (hK : ∀ x y, enc x = enc y -> x = y) (hM : MpO enc G o D) (hc : d9u enc o it b k) : ∃ v y, a0y D k = some y /\ Rl.Is1 G v y /\
  ∀ (w : World) (r : Nat), w.heap[r]? = some it -> w.heap[b]? = some o -> (Instr.entry (.pointer (some ⟨r, 0, none⟩))).run P w = .ok (.tuple #[enc k, v]) w := by
 obtain ⟨es, clock, kvs, rfl, hE, hR, hn⟩ := hM
 obtain ⟨es2, c2, seen, e, h1, rfl, h3, h4⟩ := hc
 injection h1 with h1 h1'
 subst h1; subst h1'
 obtain ⟨i, hi⟩ := List.getElem?_of_mem h3
 have hkv : kvs[i]? = some (k, e.val) := by
  have := congrArg (·[i]?) hE.kv; simp only [C7, hi, H8] at this; cases hj : kvs[i]? with
  | none => rw [hj] at this; cases this
  | some p =>
   rw [hj] at this; simp only [H8, A3, I4] at this; obtain ⟨p1, p2⟩ := p; simp only [] at this; rw [<- hK _ _ (h4.symm.trans this.1), this.2]
 obtain ⟨y, hy, hv⟩ := hR.at_ hkv
 refine ⟨e.val, y, d1e hn hy, hv, fun w r hr hb => ?_⟩
 rw [<- h4]
 exact run_entry_at w r b clock seen es clock e hr hb h3 hE.nd
end
end Go.Gx
namespace Go.Gx
open Go Go.RowKit
variable {M : Mu} {κ : Type} [DecidableEq κ] {β : Type}
section
variable {w w0 w' : World} {G0 G G' : Gh} {n b i : Nat} {o o' : Obj} {m : List Nat} {L : List (Nat × Obj)} {bl : List Bx}
def c8a (hi : L[i]? = some (b, o)) : (L.set i (b, o')).map (·.1) = L.map (·.1) := by
 rw [P7]
 apply J1
 intro j
 rw [M9]
 split
 ·rename_i h; subst h; have := (C8.1 hi).1; simp only [C5, this, X7, C7, hi, H8]
 ·rfl
def Cx.turnO (h : Cx w0 G0 G w ⟨m, L⟩) (hi : L[i]? = some (b, o)) (o' : Obj) : Cx w0 G0 G (World.setO w b o') ⟨m, L.set i (b, o')⟩ := by
 have hb := h.held _ (I1 hi)
 have hlt := (E4.1 hb.1).1
 refine ⟨fun x u hx => ?_, h.os, h.tape, h.output, by simpa [World.setO] using h.size, fun x hx hm => ?_, h.gle, h.fresh, fun x hx => ?_, by rw [c8a hi]; exact h.hnd⟩
 ·have : x ≠ b := by rintro rfl; rw [hb.2.1] at hx; cases hx
  rw [a7z w b x _ this]; exact h.holds x u hx
 ·have : x ≠ b := by
   rintro rfl; rcases hb.2.2 with h1 | h1
   ·simp only [] at h1; omega
   ·exact hm h1
  rw [a7z w b x _ this]; exact h.old' x hx hm
 ·obtain ⟨j, hj⟩ := List.getElem?_of_mem hx; rw [M9] at hj; split at hj
  ·rename_i hij; split at hj
   ·injection hj with hj; subst hj
    exact ⟨by simp [World.setO, hlt], hb.2⟩
   ·cases hj
  ·rename_i hij; have hx' := h.held x (I1 hj); have : x.1 ≠ b := by
    intro e; have h1 : (L.map (·.1))[j]? = some b := by simp [hj, e]
    have h2 : (L.map (·.1))[i]? = some b := by simp [hi]
    exact hij ((Z1 (C8.1 h2).1 h.hnd).1 (h2.trans h1.symm))
   exact ⟨by rw [a7z w b x.1 _ this]; exact hx'.1, hx'.2⟩
def Bxs.turnO (h : Bxs G w n bl ⟨m, L⟩) (hi : L[i]? = some (b, o)) (o' : Obj) : Bxs G (World.setO w b o') n bl ⟨m, L.set i (b, o')⟩ := by
 have hb : b ∈ L.map (·.1) := E1.2 ⟨_, I1 hi, rfl⟩
 refine ⟨fun x hx => ?_, h.nodup, fun x hx => by rw [c8a hi]; exact h.apart x hx⟩
 have : x.1 ≠ b := fun e => h.apart x hx (by rw [e]; exact hb)
 rw [a7z w b x.1 _ this]; exact h.at_ x hx
def Cx.newO (h : Cx w0 G0 G w ⟨m, L⟩) (o : Obj) : Cx w0 G0 G (w.alloc o) ⟨m, (w.heap.size, o) :: L⟩ := by
 have k := h.trans (Cx.alloc h.holds o)
 refine ⟨k.holds, k.os, k.tape, k.output, k.size, k.old', k.gle, k.fresh, fun x hx => ?_, ?_⟩
 ·rcases D2.1 hx with rfl | hx
  ·exact ⟨heap_alloc_new w o, h.holds.none_ (B9 _), .inl h.size⟩
  ·exact k.held x hx
 ·rw [C9, L5]; refine ⟨fun hm => ?_, h.hnd⟩; obtain ⟨y, hy, he⟩ := E1.1 hm; have := h.heldLt y hy; simp only [] at he; omega
def Bxs.newO (hC : Cx w0 G0 G w ⟨m, L⟩) (h : Bxs G w n bl ⟨m, L⟩) (o : Obj) : Bxs G (w.alloc o) n bl ⟨m, (w.heap.size, o) :: L⟩ := by
 have k := h.ext (Cx.alloc hC.holds o)
 refine ⟨k.at_, k.nodup, fun x hx hm => ?_⟩
 rcases D2.1 hm with e | hm
 ·have := h.lt x hx; simp only [] at e; omega
 ·exact h.apart x hx hm
end
section
variable {P : Program} {ops : Array Oper} {Q : Exit -> Act -> World -> Prop} {N : Nat} {e : Env} {w w0 w1 : World} {G0 G : Gh} {rest : List Oper} {d : Option Tmp} {ty : TypeId} {pos : String} {af : Array Edge} {gd : Option (Nat × Bool)} {bl : List Bx}
  {m : List Nat} {L : List (Nat × Obj)} {b r i : Nat} {o o' it it' : Obj} {x y z : Operand} {k v u : Value} {t : Nat}
def d1f {T : TypeId} (hC : Cx w0 G0 G w ⟨m, L⟩) (hB : Bxs G w w0.heap.size bl ⟨m, L⟩) (hd : okD N d = true)
  (h : ∀ b w', Cx w0 G0 G w' ⟨m, (b, .map #[] 0) :: L⟩ -> Bxs G w' w0.heap.size bl ⟨m, (b, .map #[] 0) :: L⟩ -> WL P ops Q N rest (e.putO d (.map (some b))) w') :
  WL P ops Q N (⟨d, .makeMap T none, ty, pos, af, none⟩ :: rest) e w := by
 refine x5 (R := fun v w' => v = .map (some w.heap.size) /\ w' = w.alloc (.map #[] 0)) hd (fun a ha => ?_) ?_
 ·unfold OpR; have : (execOp a.eval ⟨d, .makeMap T none, ty, pos, af, none⟩).run P w = .ok (.value (.map (some w.heap.size))) (w.alloc (.map #[] 0)) := rfl; rw [this]; exact ⟨rfl, rfl⟩
 ·rintro v w' ⟨rfl, rfl⟩; exact h _ _ (hC.newO _) (Bxs.newO hC hB _)
def d7v (hx : opv e x = some (.map (some b))) (hy : opv e y = some k) (hr : (Instr.lookup t (.map (some b)) k false).run P w = .ok v w) : j9 P N e w ⟨d, .lookup t x y false, ty, pos, af, gd⟩ v := fun a ha => by
 simp [execOp, ha.eval hx, ha.eval hy, hr]
def d9v (hx : opv e x = some (.pointer (some ⟨r, 0, none⟩))) (hr : (Instr.entry (.pointer (some ⟨r, 0, none⟩))).run P w = .ok v w) : j9 P N e w ⟨d, .entry x, ty, pos, af, gd⟩ v := fun a ha => by
 simp [execOp, ha.eval hx, hr]
def d7w (hC : Cx w0 G0 G w ⟨m, L⟩) (hB : Bxs G w w0.heap.size bl ⟨m, L⟩) (hi : L[i]? = some (b, o)) (hx : opv e x = some (.map (some b))) (hy : opv e y = some k) (hz : opv e z = some v)
  (hr : (Instr.mapUpdate t (.map (some b)) k v).run P w = .ok () (World.setO w b o')) (hd : okD N d = true)
  (h : ∀ w', Cx w0 G0 G w' ⟨m, L.set i (b, o')⟩ -> Bxs G w' w0.heap.size bl ⟨m, L.set i (b, o')⟩ -> WL P ops Q N rest (e.putO d undef) w') :
  WL P ops Q N (⟨d, .mapUpdate t x y z, ty, pos, af, none⟩ :: rest) e w := by
 refine x5 (R := fun v' w' => v' = undef /\ w' = World.setO w b o') hd (fun a ha => ?_) ?_
 ·unfold OpR; have : (execOp a.eval ⟨d, .mapUpdate t x y z, ty, pos, af, none⟩).run P w = .ok .skip (World.setO w b o') := by
   simp [execOp, ha.eval hx, ha.eval hy, ha.eval hz, hr]
  rw [this]; exact ⟨rfl, rfl⟩
 ·rintro v' w' ⟨rfl, rfl⟩; exact h _ (hC.turnO hi o') (hB.turnO hi o')
def e7u {kt et : Nat} [Rl β] {enc : κ -> Value} {D : List (κ × β)} (hM : MpO enc G o D) (hb : w.heap[b]? = some o) (hC : Cx w0 G0 G w ⟨m, L⟩) (hB : Bxs G w w0.heap.size bl ⟨m, L⟩) (hx : opv e x = some (.map (some b))) (ht : a9k P t kt et = true) (hd : okD N d = true)
  (h : ∀ r it w', Cx w0 G0 G w' ⟨m, (r, it) :: L⟩ -> Bxs G w' w0.heap.size bl ⟨m, (r, it) :: L⟩ -> ItO enc o it b (D.map (·.1)) -> WL P ops Q N rest (e.putO d (.pointer (some ⟨r, 0, none⟩))) w') :
  WL P ops Q N (⟨d, .range t x, ty, pos, af, none⟩ :: rest) e w := by
 obtain ⟨es, clock, rfl, hI⟩ := hM.start b
 have hu := a7h ht
 refine x5 (R := fun v' w' => v' = .pointer (some ⟨w.heap.size, 0, none⟩) /\ w' = w.alloc (.mapIter (some b) clock #[] clock)) hd (fun a ha => ?_) ?_
 ·unfold OpR; have : (execOp a.eval ⟨d, .range t x, ty, pos, af, none⟩).run P w = .ok (.value (.pointer (some ⟨w.heap.size, 0, none⟩))) (w.alloc (.mapIter (some b) clock #[] clock)) := by
   simp [execOp, ha.eval hx, run_range_map w t kt et b es clock hu hb]
  rw [this]; exact ⟨rfl, rfl⟩
 ·rintro v' w' ⟨rfl, rfl⟩; exact h _ _ _ (hC.newO _) (Bxs.newO hC hB _) hI
def e7v (hx : opv e x = some (.pointer (some ⟨r, 0, none⟩))) (hr : (Instr.next (.pointer (some ⟨r, 0, none⟩)) false ty).run P w = .ok u w) (hd : okD N d = true) (h : WL P ops Q N rest (e.putO d u) w) :
  WL P ops Q N (⟨d, .next x false, ty, pos, af, none⟩ :: rest) e w :=
 a3b (fun a ha => by simp [execOp, ha.eval hx, hr]) hd h
def e7w (hC : Cx w0 G0 G w ⟨m, L⟩) (hB : Bxs G w w0.heap.size bl ⟨m, L⟩) (hi : L[i]? = some (r, it)) (hx : opv e x = some (.pointer (some ⟨r, 0, none⟩))) (hw1 : w1 = w ∨ w1 = w.drew)
  (hr : (Instr.next (.pointer (some ⟨r, 0, none⟩)) false ty).run P w = .ok u (World.setO w1 r it')) (hd : okD N d = true)
  (h : ∀ w', Cx w0 G0 G w' ⟨m, L.set i (r, it')⟩ -> Bxs G w' w0.heap.size bl ⟨m, L.set i (r, it')⟩ -> WL P ops Q N rest (e.putO d u) w') :
  WL P ops Q N (⟨d, .next x false, ty, pos, af, none⟩ :: rest) e w := by
 refine x5 (R := fun v' w' => v' = u /\ w' = World.setO w1 r it') hd (fun a ha => ?_) ?_
 ·unfold OpR; have : (execOp a.eval ⟨d, .next x false, ty, pos, af, none⟩).run P w = .ok (.value u) (World.setO w1 r it') := by simp [execOp, ha.eval hx, hr]
  rw [this]; exact ⟨rfl, rfl⟩
 ·rintro v' w' ⟨rfl, rfl⟩; rcases hw1 with rfl | rfl
  ·exact h _ (hC.turnO hi it') (hB.turnO hi it')
  ·exact h _ (hC.drew.turnO hi it') (hB.drew.turnO hi it')
variable {w' : World} {G' : Gh} {A B O O' : List (Nat × Obj)} {n : Nat}
section
variable {f : FuncId} {xs : List Operand} {vs caps first : List Value} {ats : Array TypeId} {R : Gh -> List (Nat × Obj) -> Value -> Prop}
end
end
variable {M : Mu} {κ : Type} [DecidableEq κ] {β : Type}
section
variable {P : Program} {N : Nat} {e : Env} {w w0 : World} {G0 G : Gh} {d : Option Tmp} {ty : TypeId} {pos : String} {af : Array Edge} {gd : Option (Nat × Bool)} {x y : Operand} {t yt : TypeId}
def a8a {a' : Addr} (hx : opv e x = some (.pointer (some a'))) : j9 P N e w ⟨d, .nilCheck x, ty, pos, af, gd⟩ (.pointer (some a')) := fun a ha => by simp [execOp, ha.eval hx]
def a2z (P : Program) (t : Nat) : Bool := match P.underlying t with | some (.pointer e) => Nat.beq e (P.pointee t) | _ => false
def d9w (h : a2z P t = true) : P.underlying t = some (.pointer (P.pointee t)) := by
 unfold a2z at h
 split at h
 ·rename_i hu; rw [hu, A8 h]
 ·cases h
def b3c {p : Option Addr} (ht : a2z P t = true) (hx : opv e x = some (.pointer p)) (hy : opv e y = some (.pointer none)) : j9 P N e w ⟨d, .binOp .eql t x y yt, ty, pos, af, gd⟩ (.bool p.isNone) := fun a ha => by
 have := run_eql_pointer_nil (P := P) w t p (d9w ht)
 have hg : (eqGuard .eql t x y (.pointer p) (.pointer none)).run P w = .ok () w := rfl
 simp [execOp, ha.eval hx, ha.eval hy, this, hg]
def c8b {kt et : Nat} {r : Option Nat} (ht : a9k P t kt et = true) (hx : opv e x = some (.map r)) (hy : opv e y = some (.map none)) : j9 P N e w ⟨d, .binOp .eql t x y yt, ty, pos, af, gd⟩ (.bool r.isNone) := fun a ha => by
 have := run_eql_map_nil (P := P) w t kt et r (a7h ht)
 have hg : (eqGuard .eql t x y (.map r) (.map none)).run P w = .ok () w := rfl
 simp [execOp, ha.eval hx, ha.eval hy, this, hg]
def d9x {p q : Bool} (ht : P.underlying t = some .bool) (hx : opv e x = some (.bool p)) (hy : opv e y = some (.bool q)) : j9 P N e w ⟨d, .binOp .neq t x y yt, ty, pos, af, gd⟩ (.bool (p != q)) := fun a ha => by
 have hg : (eqGuard .neq t x y (.bool p) (.bool q)).run P w = .ok () w := rfl
 have h1 : (Op.equal t (.bool p) (.bool q)).run P w = .ok (p == q) w := run_equalIn_bool' w 9999 t p q ht
 have : (binOp .neq t (.bool p) (.bool q)).run P w = .ok (.bool (p != q)) w := by simp only [binOp]; simp [h1, bne]
 simp [execOp, ha.eval hx, ha.eval hy, this, hg]
def d9y {p q : Bool} (ht : P.underlying t = some .bool) (hx : opv e x = some (.bool p)) (hy : opv e y = some (.bool q)) : j9 P N e w ⟨d, .binOp .eql t x y yt, ty, pos, af, gd⟩ (.bool (p == q)) := fun a ha => by
 have hg : (eqGuard .eql t x y (.bool p) (.bool q)).run P w = .ok () w := rfl
 have h1 : (Op.equal t (.bool p) (.bool q)).run P w = .ok (p == q) w := run_equalIn_bool' w 9999 t p q ht
 have : (binOp .eql t (.bool p) (.bool q)).run P w = .ok (.bool (p == q)) w := by simp only [binOp]; simp [h1]
 simp [execOp, ha.eval hx, ha.eval hy, this, hg]
end
section
variable {P : Program}
def b3d {t : Nat} {k : IntKind} (hu : P.underlying t = some (.int k)) (em : Bool) (n : Nat) (v : Value) (w : World) : (Instr.checkKey em (n + 1) t v).run P w = .ok () w := by
 cases v <;> simp [Instr.checkKey, run_underlying hu]
def a9l {t el len : Nat} {k : IntKind} (hu : P.underlying t = some (.array len el)) (he : P.underlying el = some (.int k)) (ho : a0h P el = true) (hs : (P.info? el).map (·.size) = some 1) (em : Bool) (n : Nat) (cs : Array Value) (hl : len <= cs.size) (w : World) :
  (Instr.checkKey em (n + 2) t (.agg cs)).run P w = .ok () w := by
 have hsz := a3l hs w
 rw [show n + 2 = (n + 1) + 1 from rfl, Instr.checkKey]
 simp only [Sem.run_bind, run_underlying hu, Result.andThen_ok]
 simp only [Std.Legacy.Range.forIn_eq_forIn_range', Std.Legacy.Range.size, Nat.sub_zero, Nat.add_one_sub_one, Nat.div_one]
 have each : ∀ j ∈ List.range' 0 len, j < cs.size := fun j hj => by simp at hj; omega
 generalize List.range' 0 len = is at each
 induction is with
 | nil => simp
 | cons j is ih =>
  have hj := each j (by simp); have hp := o8 (P := P) ho (off := j * 1) (cs := cs) (v := cs[j]) (by rw [R2]; exact U7 hj) w; have hc := b3d he em n cs[j] w; simp only [List.forIn_cons, Sem.run_bind, hsz, Result.andThen_ok, hp, hc, Sem.run_pure]; exact ih (fun y hy => each y (by simp [hy]))
def b7h {t : Nat} {L : List (Nat × Nat)} {xs : Array Value} (hf : a2e P t L = true) (em : Bool) (n : Nat) (w : World)
  (h : ∀ p ∈ L, ∃ v, (part p.1 xs p.2).run P w = .ok v w /\ (Instr.checkKey em n p.1 v).run P w = .ok () w) : (Instr.checkKey em (n + 1) t (.agg xs)).run P w = .ok () w := by
 unfold a2e at hf
 split at hf
 ·rename_i fs hu; simp only [A7, J4, K4] at hf; have hf := hf.1; have h' : ∀ f ∈ fs.toList, f.name ≠ "_" /\ ∃ v, (part f.type xs f.offset).run P w = .ok v w /\ (Instr.checkKey em n f.type v).run P w = .ok () w := fun f hm => by
   have : (f.name == "_", f.type, f.offset) ∈ L.map (fun p => (false, p.1, p.2)) := by rw [<- hf]; exact E1.2 ⟨f, hm, rfl⟩
   obtain ⟨q, hq, he⟩ := E1.1 this; simp only [I4] at he; obtain ⟨e1, e2, e3⟩ := he; refine ⟨fun hh => ?_, ?_⟩
   ·rw [hh] at e1; simp at e1
   ·rw [<- e2, <- e3]; exact h q hq
  clear h hf; rw [Instr.checkKey]; simp only [Sem.run_bind, run_underlying hu, Result.andThen_ok]; rw [<- Array.forIn_toList]; generalize fs.toList = L at h'
  induction L with
  | nil => simp
  | cons f L ih =>
   obtain ⟨hn', v, p1, p2⟩ := h' f (by simp); simp only [List.forIn_cons, Sem.run_bind, hn', ne_eq, not_false_eq_true, X7, Result.andThen_ok, p1, p2, Sem.run_pure]; exact ih (fun y hy => h' y (by simp [hy]))
 ·cases hf
def b8u : Value -> Bool | .int _ _ => true | _ => false
def c4y (cs : List Value) (h : ∀ v ∈ cs, b8u v = true) (n : Nat) : Instr.sameBits (n + 1) (.agg cs.toArray) (.agg cs.toArray) = true := by
 have : ∀ l : List Value, (∀ v ∈ l, b8u v = true) -> (l.zip l).all (fun x => Instr.sameBits n x.1 x.2) = true := by
  intro l
  induction l with
  | nil => intro _; rfl
  | cons v r ih =>
   intro hl; simp only [S5, N6, A7]; refine ⟨?_, ih (fun u hu => hl u (by simp [hu]))⟩; have := hl v (by simp); cases v <;> simp [b8u] at this
   simp [Instr.sameBits]
 simp [Instr.sameBits]
 have := this cs h
 rw [J6] at this
 intro a b hab
 exact this (a, b) hab
end
section
variable [Rl β] {G G' : Gh} {P : Program} {enc : κ -> Value} {o it : Obj} {D : List (κ × β)} {w : World} {b r : Nat} {t kt et : Nat}
end
variable {M : Mu}
section
variable {P : Program} {N : Nat} {e : Env} {w : World} {d : Option Tmp} {ty : TypeId} {pos : String} {af : Array Edge} {gd : Option (Nat × Bool)}
def b6l {t : Nat} {x : Operand} {b o : Nat} (ht : q0 P t = true) (hx : opv e x = some (.pointer (some ⟨b, o, none⟩))) : j9 P N e w ⟨d, .slice t x none none none, ty, pos, af, gd⟩ (.slice (some ⟨b, o, none⟩) 32 32) := fun a ha => by
 unfold q0 at ht
 revert ht
 split
 ·rename_i el hu; intro ht; rw [A7] at ht; cases hq : P.info? el with
  | none => simp [hq] at ht
  | some tinf => simp [execOp, ha.eval hx, Instr.sliceAt, run_underlying hu, Instr.sureAddr, Instr.sliceBounds, sizeOf, typeInfo, hq, Addr.add]
 ·intro h; cases h
end
section
variable {P : Program} {N : Nat} {e : Env} {w w0 : World} {G0 G : Gh} {d : Option Tmp} {ty : TypeId} {pos : String} {af : Array Edge} {gd : Option (Nat × Bool)} {bl : List Bx}
  {m : List Nat} {L : List (Nat × Obj)} {b i : Nat} {o o' : Obj} {x y z : Operand} {k v u : Value} {t : Nat} {a : Act} {R : Value -> World -> Prop}
end
variable {M : Mu}
def b6m {P : Program} {t el sz : Nat} (h : x6 P t el sz = true) : P.underlying t = some (.slice el) /\ (P.info? el).map (·.size) = some sz := by
 unfold x6 at h
 rw [A7] at h
 obtain ⟨h1, h2⟩ := h
 constructor
 ·revert h1
  split
  ·rename_i e' hu; intro h1; rw [hu, A8 h1]
  ·intro h; cases h
 ·cases hq : P.info? el with
  | none => simp [hq] at h2
  | some i => simp only [hq] at h2; simp [A8 h2]
def d9z {w : World} {b o : Nat} {row : List Value} (h : w.rangeAt b o row) : ∀ j v, row[j]? = some v -> w.cell? ((⟨b, o, none⟩ : Addr).add j) = some v := by
 intro j v hj
 rw [Addr.add_mid]; exact h j v hj
def c1z {P : Program} (w : World) {dT sT ty elem sz : Nat} {g o dLen dCap b2 o2 sLen sCap : Nat} {cur row : List Value} {t : TypeId}
  (hs : x6 P dT elem sz = true) (hg : w.heap[g]? = some (.cells cur.toArray t (0, 0))) (hn : row.length = Nat.min sLen dLen * sz)
  (hsrc : w.rangeAt b2 o2 row) (hfit : o + row.length <= cur.length) (h1 : ∀ v ∈ row, v.oneCell' = true) :
  (Builtin.copy_ #[dT, sT] ty #[.slice (some ⟨g, o, none⟩) dLen dCap, .slice (some ⟨b2, o2, none⟩) sLen sCap]).run P w =
   .ok (goInt (Nat.min sLen dLen)) (w.setRow g (cur.take o ++ row ++ cur.drop (o + row.length)).toArray) := by
 obtain ⟨hu, hz⟩ := b6m hs
 have hl := run_loadCells_list (P := P) w ⟨b2, o2, none⟩ row (d9z hsrc)
 have hst := run_storeCells_at (P := P) g o t row 0 cur.toArray w hg (by simpa using hfit) h1
 cases hq : P.info? elem with
 | none => simp [hq] at hz
 | some i =>
  have hi : i.size = sz := by simpa [hq] using hz
  simp only [N5] at hst; simp [Builtin.copy_, run_underlying hu, Builtin.lenOf, Builtin.firstCells, sizeOf, typeInfo, hq, hi, <- hn, hl, hst]
section
variable {P : Program} {ops : Array Oper} {Q : Exit -> Act -> World -> Prop} {N : Nat} {e : Env} {w w0 : World} {G0 G : Gh} {rest : List Oper} {d : Option Tmp} {ty : TypeId} {pos : String} {af : Array Edge} {gd : Option (Nat × Bool)} {bl : List Bx}
def d7x {a : Act} {R : Value -> World -> Prop} {x y : Operand} {t1 t2 rt el sz g T o n1 c1 b2 o2 n2 c2 : Nat} {cs cs' row : List Value} (ha : Fr N a e) (i : Nat) (hC : Cx w0 G0 G w M) (hB : Bxs G w w0.heap.size bl M) (hi : bl[i]? = some (g, T, cs))
  (hx : opv e x = some (.slice (some ⟨g, o, none⟩) n1 c1)) (hy : opv e y = some (.slice (some ⟨b2, o2, none⟩) n2 c2)) (hs : x6 P t1 el sz = true) (hsrc : w.rangeAt b2 o2 row) (hn : row.length = Nat.min n2 n1 * sz)
  (hfit : o + row.length <= cs.length) (h1 : ∀ v ∈ row, v.oneCell' = true) (he : cs.take o ++ row ++ cs.drop (o + row.length) = cs')
  (h : ∀ w', Cx w0 G0 G w' M -> Bxs G w' w0.heap.size (bl.set i (g, T, cs')) M -> R (goInt (Nat.min n2 n1)) w') :
  OpR P ⟨d, .call ⟨.builtin .copy, #[x, y], #[t1, t2]⟩, rt, pos, af, gd⟩ a w R := by
 have hg := hB.get hi
 have hr := c1z (P := P) (ty := rt) (sT := t2) (dCap := c1) (sCap := c2) w hs hg.1 hn hsrc hfit h1
 unfold OpR
 have : (execOp a.eval ⟨d, .call ⟨.builtin .copy, #[x, y], #[t1, t2]⟩, rt, pos, af, gd⟩).run P w = .ok (.value (goInt (Nat.min n2 n1))) (w.setRow g cs'.toArray) := by
  simp only [execOp, resolve, Sem.run_bind, Sem.run_pure, Result.andThen_ok, invoke, builtin, K8, C9, L0, ha.eval hx, ha.eval hy, hr, he]
 rw [this]
 exact h _ (hC.setRow' hg.2.1 hg.2.2 (hB.off hi) _) (hB.set hi cs')
def e7x {x y : Operand} {t1 t2 rt el sz g T o n1 c1 b2 o2 n2 c2 : Nat} {cs cs' row : List Value} (i : Nat) (hC : Cx w0 G0 G w M) (hB : Bxs G w w0.heap.size bl M) (hi : bl[i]? = some (g, T, cs))
  (hx : opv e x = some (.slice (some ⟨g, o, none⟩) n1 c1)) (hy : opv e y = some (.slice (some ⟨b2, o2, none⟩) n2 c2)) (hs : x6 P t1 el sz = true) (hsrc : w.rangeAt b2 o2 row) (hn : row.length = Nat.min n2 n1 * sz)
  (hfit : o + row.length <= cs.length) (h1 : ∀ v ∈ row, v.oneCell' = true) (he : cs.take o ++ row ++ cs.drop (o + row.length) = cs') (hd : okD N d = true)
  (h : ∀ w', Cx w0 G0 G w' M -> Bxs G w' w0.heap.size (bl.set i (g, T, cs')) M -> WL P ops Q N rest (e.putO d (goInt (Nat.min n2 n1))) w') :
  WL P ops Q N (⟨d, .call ⟨.builtin .copy, #[x, y], #[t1, t2]⟩, rt, pos, af, none⟩ :: rest) e w := by
 refine x5 (R := fun v w' => v = goInt (Nat.min n2 n1) /\ Cx w0 G0 G w' M /\ Bxs G w' w0.heap.size (bl.set i (g, T, cs')) M) hd (fun a ha => d7x ha i hC hB hi hx hy hs hsrc hn hfit h1 he fun w' k1 k2 => ⟨rfl, k1, k2⟩) ?_
 rintro v w' ⟨rfl, k1, k2⟩
 exact h w' k1 k2
end
section
variable {α : Type} [Rp α] {G : Gh}
end
section
variable {cs rest2 : List Value} {rows : List (List Value)} {n i sz cap cap2 : Nat} {xc : List Value}
end
variable {M : Mu}
section
variable {P : Program} {N : Nat} {e : Env} {w w0 : World} {G0 G : Gh} {d : Option Tmp} {ty : TypeId} {pos : String} {af : Array Edge} {gd : Option (Nat × Bool)} {bl r : List Bx}
end
section
variable {P : Program} {N : Nat} {e : Env} {w : World} {d : Option Tmp} {pos : String} {af : Array Edge} {gd : Option (Nat × Bool)}
def g1x {x y : Operand} {a b : Int} {ats : Array TypeId} {rt : TypeId} {k : IntKind} (hx : opv e x = some (.int k a)) (hy : opv e y = some (.int k b)) :
  j9 P N e w ⟨d, .call ⟨.builtin .max, #[x, y], ats⟩, rt, pos, af, gd⟩ (.int k (max a b)) := fun s hs => by
 have h : (if a < b then b else a) = max a b := by split <;> omega
 simp only [execOp, resolve, Sem.run_bind, Sem.run_pure, Result.andThen_ok, invoke, builtin, K8, C9, L0, hs.eval hx, hs.eval hy, run_max_int2, gt_iff_lt, h]
end
section
variable {P : Program} {N : Nat} {e : Env} {w w0 : World} {G0 G : Gh} {d : Option Tmp} {ty : TypeId} {pos : String} {af : Array Edge} {gd : Option (Nat × Bool)} {bl r : List Bx} {o : Option Bx}
end
section
variable {α : Type} [Rp α] {P : Program} {ops : Array Oper} {Q : Exit -> Act -> World -> Prop} {N : Nat} {e : Env} {w w0 : World} {G0 G : Gh} {rest : List Oper} {d : Option Tmp} {ty : TypeId} {pos : String} {af : Array Edge} {bl r : List Bx}
end
def b0q (P : Program) (s i ft off : Nat) : Bool :=
 match P.underlying s with
 | some (.struct fs) => match fs[i]? with
  | some f => Nat.beq f.type ft && Nat.beq f.offset off
  | none => false
 | _ => false
section
variable {P : Program} {N : Nat} {e : Env} {w : World} {d : Option Tmp} {ty : TypeId} {pos : String} {af : Array Edge} {gd : Option (Nat × Bool)}
def c2q {s i ft off : Nat} {cs : Array Value} {v : Value} (hf : b0q P s i ft off = true) (h : (part ft cs off).run P w = .ok v w) : (Instr.field s (.agg cs) i).run P w = .ok v w := by
 unfold b0q at hf
 revert hf
 cases hu : P.underlying s with
 | none => intro h; cases h
 | some dd =>
  cases dd <;> (try (intro h; cases h; done))
  rename_i fs; simp only []; cases hfi : fs[i]? with
  | none => intro h; cases h
  | some f =>
   simp only [A7]; rintro ⟨h1, h2⟩; have h1 := A8 h1; have h2 := A8 h2; subst h1; subst h2; simp [Instr.field, run_underlying hu, hfi, asAgg, h]
def d1g {s i ft off n : Nat} {x : Operand} {cs r : List Value} (hx : opv e x = some (.agg cs.toArray)) (hf : b0q P s i ft off = true) (hr : a5k P ft n = true) (hp : (cs.drop off).take n = r) :
  j9 P N e w ⟨d, .field s x i, ty, pos, af, gd⟩ (.agg r.toArray) := fun a ha => by
 have := c2q (w := w) hf (c1x hr hp w)
 simp [execOp, ha.eval hx, this]
def d1h {s i ft off : Nat} {x : Operand} {cs : List Value} {v : Value} (hx : opv e x = some (.agg cs.toArray)) (hf : b0q P s i ft off = true) (hr : a0h P ft = true) (hp : cs[off]? = some v) :
  j9 P N e w ⟨d, .field s x i, ty, pos, af, gd⟩ v := fun a ha => by
 have := c2q (w := w) hf (o8 (cs := cs.toArray) hr (by simpa using hp) w)
 simp [execOp, ha.eval hx, this]
end
def e0a {P : Program} {f : FuncId} {fn : Func} {c : Code} {args : Array Value} {w : World} {R : Ending -> World -> Prop}
  (hf : P.funcs[f]? = some fn) (hb : fn.body = some c) (N : Nat) (hN : fn.ntmps = N) (hle0 : Nat.ble args.size N = true) (e : Env) (he : ∀ t v, e t = some v -> args[t]? = some v)
  (h : ∀ Q0 : Exit -> Act -> World -> Prop, (∀ a w v, (results fn a.tmps).run P w = .ok v w -> a.defers = [] -> R (.returned v) w -> Q0 .ret a w) ->
   (∀ a w v, (results fn a.tmps).run P w = .ok v w -> a.defers = [] -> R (.returned v) w -> Q0 .normal a w) -> WC P Q0 N c e w) : Calls P f args w R := by
 have hle : args.size <= N := C2 hle0
 refine calls_of_wp hf hb (h _ (fun a w v h1 h2 h3 => ⟨h2, v, h1, h3⟩) (fun a w v h1 h2 h3 => ⟨h2, v, h1, h3⟩) _ ⟨?_, rfl, fun t v ht => ?_⟩)
 ·simp; omega
 ·have := he t v ht; have hlt : t < args.size := by
   rcases R6 t args.size with h | h
   ·exact h
   ·rw [Array.getElem?_eq_none h] at this; cases this
  simp only []; rw [U4 hlt]; exact this
section
variable {P : Program} {N : Nat} {e : Env} {w : World} {d : Option Tmp} {ty : TypeId} {pos : String} {af : Array Edge} {gd : Option (Nat × Bool)}
def d1i {t : Nat} {x y : Operand} {s : ByteArray} {i m : Nat} {k : IntKind} (ht : P.underlying t = some .string) (hx : opv e x = some (.string s)) (hy : opv e y = some (.int k (i : Int))) (h : ∃ u, s[i]? = some u /\ u.toNat = m) :
  j9 P N e w ⟨d, .index t x y, ty, pos, af, gd⟩ (.int .u8 (m : Int)) := fun a ha => by
 obtain ⟨u, h1, h2⟩ := h
 simp [execOp, ha.eval hx, ha.eval hy, Instr.index, asIntOf, run_underlying ht, h1, h2]
def b7v {x y : Operand} {t yt : TypeId} {p : Option Addr} (ht : a2z P t = true) (hx : opv e x = some (.pointer p)) (hy : opv e y = some (.pointer none)) : j9 P N e w ⟨d, .binOp .neq t x y yt, ty, pos, af, gd⟩ (.bool (!p.isNone)) := fun a ha => by
 have := run_neq_pointer_nil (P := P) w t p (d9w ht)
 have hg : (eqGuard .neq t x y (.pointer p) (.pointer none)).run P w = .ok () w := rfl
 simp [execOp, ha.eval hx, ha.eval hy, this, hg]
end
variable {M : Mu}
section
variable {w0 w w' : World} {G0 G G' : Gh} {n b i : Nat} {m : List Nat} {A B O O' L : List (Nat × Obj)} {bl r : List Bx} {o : Option Bx}
section
variable {P : Program} {ops : Array Oper} {Q : Exit -> Act -> World -> Prop} {N : Nat} {e : Env} {rest : List Oper} {d : Option Tmp} {ty : TypeId} {pos : String} {af : Array Edge}
  {f : FuncId} {x : Operand} {xs : List Operand} {vs caps first : List Value} {ats : Array TypeId} {R : Gh -> List (Nat × Obj) -> Value -> Prop}
end
end
section
variable {κ : Type} [DecidableEq κ] {β : Type} [Rl β] {G : Gh} {P : Program} {enc : κ -> Value} {o : Obj} {D : List (κ × β)} {t kt et : Nat}
def MpO.lookupOk {z : Value} {zb : β} (hM : MpO enc G o D) (hK : a9j P kt enc) (ht : a9k P t kt et = true) (hz : (P.info? et).bind (fun i => i.zero) = some z) (hzb : Rl.Is1 G z zb) (k : κ) :
  ∃ v, Rl.Is1 G v ((a0y D k).getD zb) /\ ∀ (w : World) (b : Nat), w.heap[b]? = some o -> (Instr.lookup t (.map (some b)) (enc k) true).run P w = .ok (.tuple #[v, .bool (a0y D k).isSome]) w := by
 obtain ⟨es, c, kvs, rfl, hE, hR, _⟩ := hM
 have hu := a7h ht
 cases hq : P.info? et with
 | none => simp [hq] at hz
 | some i =>
  have hz' : i.zero = some z := by simpa [hq] using hz
  have hzv : ∀ w, (zeroValue et).run P w = .ok z w := fun w => by simp [zeroValue, typeInfo, hq, hz']
  rcases hK.find k es.toList (kvs.map (·.1)) hE.keys with ⟨g1, g2⟩ | ⟨j, e', g1, g2, g3, g4⟩
  ·refine ⟨z, ?_, fun w b hb => ?_⟩
   ·rw [hR.keys] at g1; rw [a5h g1]; exact hzb
   ·have hc := hK.chk es.isEmpty k w; rw [hR.keys] at g1; simp [Instr.lookup, run_underlying hu, MapKept.run_getObj_map hb, hc, g2, hzv, a5h g1]
  ·have hkv : kvs[j]? = some (k, e'.val) := by
    have := congrArg (·[j]?) hE.kv; simp only [C7, g3, H8] at this; rw [C7] at g1; cases hj : kvs[j]? with
    | none => rw [hj] at g1; cases g1
    | some p =>
     rw [hj] at this g1; simp only [H8, A3, I4] at this g1; obtain ⟨p1, p2⟩ := p; simp only [] at this g1; rw [<- g1, this.2]
   have hg := b7u hkv rfl g2; refine ⟨e'.val, ?_, fun w b hb => ?_⟩
   ·rcases hR.get k with ⟨h1, _⟩ | ⟨v, y, h1, h2, h3⟩
    ·rw [hg] at h1; cases h1
    ·rw [hg] at h1; cases h1; rw [h2]; exact h3
   ·have hc := hK.chk es.isEmpty k w; have hs : ∃ y, a0y D k = some y := by
     rcases hR.get k with ⟨h1, _⟩ | ⟨v, y, _, h2, _⟩
     ·rw [hg] at h1; cases h1
     ·exact ⟨y, h2⟩
    obtain ⟨y, hy⟩ := hs; simp [Instr.lookup, run_underlying hu, MapKept.run_getObj_map hb, hc, g4, hy]
end
section
variable {P : Program} {N : Nat} {e : Env} {w : World} {d : Option Tmp} {ty : TypeId} {pos : String} {af : Array Edge} {gd : Option (Nat × Bool)} {x y : Operand} {b t : Nat} {k v : Value}
def d1j (hx : opv e x = some (.map (some b))) (hy : opv e y = some k) (hr : (Instr.lookup t (.map (some b)) k true).run P w = .ok v w) : j9 P N e w ⟨d, .lookup t x y true, ty, pos, af, gd⟩ v := fun a ha => by
 simp [execOp, ha.eval hx, ha.eval hy, hr]
end
variable {M : Mu}
def QN (Q : Act -> World -> Prop) : Exit -> Act -> World -> Prop
 | .normal, a, w => Q a w
 | _, _, _ => False
def d1k (o : Oper) (A : List Nat) : Nat := o.after.toList.foldl (fun m x => bif Region.binds .any x then m ||| ((1 <<< x.on) ||| A.getD x.on 0) else m) 0
def b1u (A : List Nat) : Nat -> List Oper -> Bool
 | _, [] => true
 | k, o :: r => Nat.beq (A.getD k 0) (d1k o A) && b1u A (k + 1) r
def rdyB (l : List Oper) (done i : Nat) : Bool := !(done.testBit i) && match l[i]? with | none => false | some o => o.after.toList.all (fun x => !Region.binds .any x || done.testBit x.on)
def a1x (l : List Oper) (done : Nat) : List Nat := (List.range l.length).filter (rdyB l done)
abbrev Tk := List (Nat × (World -> Prop))
def Tk.all (T : Tk) (w : World) : Prop := ∀ p ∈ T, p.2 w
def Tk.keep (A : List Nat) (k : Nat) (T : Tk) : Tk := List.filter (fun p => !(A.getD k 0).testBit p.1) T
def Tk.nil (w : World) : Tk.all [] w := fun _ h => by cases h
def Tk.cons {T : Tk} {w : World} {p : Nat × (World -> Prop)} (h : p.2 w) (hT : Tk.all T w) : Tk.all (p :: T) w := fun q hq => by
 rcases D2.1 hq with rfl | hq
 ·exact h
 ·exact hT q hq
def Tk.sub {T T' : Tk} {w : World} (h : T'.Sublist T) (hT : Tk.all T w) : Tk.all T' w := fun p hp => hT p (h.subset hp)
def Tk.keepK {A : List Nat} {k : Nat} {T : Tk} {w : World} (h : Tk.all T w) : Tk.all (T.keep A k) w := Tk.sub List.filter_sublist h
def wpS (P : Program) (l : List Oper) (A : List Nat) (Q : Act -> World -> Prop) : Nat -> Nat -> Tk -> Act -> World -> Prop
 | 0, done, _, a, w => a1x l done = [] /\ Q a w
 | n + 1, done, T, a, w => (a1x l done = [] -> Q a w) /\ ∀ k ∈ a1x l done, wpOp P l.toArray (QN Q) k (fun a' w' => (T.keep A k).all w' /\ wpS P l A Q n (done ||| (1 <<< k)) (T.keep A k) a' w') a w
section
variable {P : Program} {l : List Oper} {A : List Nat} {Q : Act -> World -> Prop}
def a3z (d k i : Nat) : (d ||| (1 <<< k)).testBit i = (d.testBit i || decide (k = i)) := by
 rw [Nat.testBit_or, Nat.one_shiftLeft, Nat.testBit_two_pow]
def a4a {done i : Nat} : i ∈ a1x l done ↔ rdyB l done i = true := by
 unfold a1x
 rw [H9, T0]
 refine ⟨fun h => h.2, fun h => ⟨?_, h⟩⟩
 unfold rdyB at h
 rcases R6 i l.length with h1 | h1
 ·exact h1
 ·rw [I0 h1] at h; simp at h
def a7i {done i : Nat} : rdyB l done i = true ↔ done.testBit i = false /\ ∃ o, l[i]? = some o /\ ∀ x ∈ o.after.toList, Region.binds .any x = true -> done.testBit x.on = true := by
 unfold rdyB
 rw [A7, K4]
 cases h : l[i]? with
 | none => simp
 | some o =>
  simp only [A3, exists_eq_left', J6, P2, K4]; refine and_congr_right fun _ => forall₂_congr fun x _ => ?_
  cases Region.binds .any x <;> simp
def d3z : ∀ {n done : Nat} {T T' : Tk} {a : Act} {w : World}, T'.Sublist T -> wpS P l A Q n done T a w -> wpS P l A Q n done T' a w
 | 0, _, _, _, _, _, _, h => h
 | _ + 1, _, _, _, _, _, hs, h => ⟨h.1, fun k hk => wpOp_mono (fun _ _ ⟨h1, h2⟩ => ⟨Tk.sub (hs.filter _) h1, d3z (hs.filter _) h2⟩) (h.2 k hk)⟩
def b8v {done : Nat} {listed : Array Bool} (hs : listed.size = l.length) (hl : ∀ i, listed.getD i false = done.testBit i) : Region.ready .any l.toArray listed = a1x l done := by
 unfold Region.ready a1x
 rw [S9]
 refine List.filter_congr fun i hi => ?_
 have hi' : i < listed.size := by rw [hs]; simpa using hi
 have h1 := hl i
 unfold rdyB
 rw [J8, U7 hi'] at h1 ⊢
 simp only [O4] at h1 ⊢
 rw [h1, N2]
 cases l[i]? with
 | none => simp
 | some o =>
  simp only [H8, O4]
  congr 1
  rw [<- Array.all_toList]
  congr 1
  funext x
  rw [<- hl, J8]
def b8w : ∀ {n done : Nat} {T : Tk} {a : Act} {w : World} {listed : Array Bool}, listed.size = l.length -> (∀ i, listed.getD i false = done.testBit i) -> wpS P l A Q n done T a w -> wpAny P .any l.toArray (QN Q) n listed a w
 | 0, _, _, _, _, _, hs, hl, h => ⟨by rw [b8v hs hl]; exact h.1, h.2⟩
 | n + 1, done, _, _, _, listed, hs, hl, h => ⟨fun h0 => h.1 (by rw [<- b8v hs hl]; exact h0), fun i hi => by
  have hi' := hi; rw [b8v hs hl] at hi; refine wpOp_mono (fun _ _ ⟨_, h2⟩ => b8w (by simpa using hs) (fun j => ?_) h2) (h.2 i hi); obtain ⟨_, o, ho, _⟩ := a7i.1 (a4a.1 hi); have hil : i < listed.size := by rw [hs]; exact (C8.1 ho).1
  rw [a3z, <- hl j, J8, Array.getElem?_setIfInBounds, J8]; by_cases h1 : i = j
  ·subst h1; simp [hil]
  ·simp [h1]⟩
def b5c (A : List Nat) (done : Nat) : Prop := ∀ j, done.testBit j = true -> ∀ i, (A.getD j 0).testBit i = true -> done.testBit i = true
def c8c {A : List Nat} {i : Nat} : ∀ (es : List Edge) (m : Nat), (es.foldl (fun m x => bif Region.binds .any x then m ||| ((1 <<< x.on) ||| A.getD x.on 0) else m) m).testBit i = true ->
  m.testBit i = true ∨ ∃ x ∈ es, Region.binds .any x = true /\ (x.on = i ∨ (A.getD x.on 0).testBit i = true)
 | [], m, h => .inl h
 | x :: es, m, h => by
  rw [X0] at h; rcases c8c es _ h with h1 | ⟨y, hy, h2, h3⟩
  ·cases hb : Region.binds .any x with
   | false => rw [hb] at h1; exact .inl h1
   | true =>
    rw [hb] at h1; simp only [B5, Nat.testBit_or, P2, Nat.one_shiftLeft, Nat.testBit_two_pow, C6] at h1; rcases h1 with h1 | h1 | h1
    ·exact .inl h1
    ·exact .inr ⟨x, by simp, hb, .inl h1⟩
    ·exact .inr ⟨x, by simp, hb, .inr h1⟩
  ·exact .inr ⟨y, by simp [hy], h2, h3⟩
def c2r : ∀ {r : List Oper} {k : Nat}, b1u A k r = true -> ∀ {j : Nat} {o : Oper}, r[j]? = some o -> A.getD (k + j) 0 = d1k o A
 | [], _, _, j, o, h => by simp at h
 | x :: r, k, hA, j, o, h => by
  simp only [b1u, A7] at hA; cases j with
  | zero => simp at h; subst h; exact A8 hA.1
  | succ j => have := c2r hA.2 (j := j) (o := o) (by simpa using h); rwa [show k + 1 + j = k + (j + 1) from by omega] at this
def c2s (hA : b1u A 0 l = true) {done k : Nat} (hc : b5c A done) (hk : rdyB l done k = true) {i : Nat} (hi : (A.getD k 0).testBit i = true) : done.testBit i = true := by
 obtain ⟨_, o, ho, hall⟩ := a7i.1 hk
 have := c2r hA ho
 rw [F2] at this
 rw [this] at hi
 rcases c8c _ _ hi with h1 | ⟨x, hx, hb, h1⟩
 ·simp at h1
 ·rcases h1 with rfl | h1
  ·exact hall x hx hb
  ·exact hc _ (hall x hx hb) _ h1
def b5c.add (hA : b1u A 0 l = true) {done k : Nat} (hc : b5c A done) (hk : rdyB l done k = true) : b5c A (done ||| (1 <<< k)) := by
 intro j hj i hi
 rw [a3z, P2, C6] at hj ⊢
 rcases hj with hj | rfl
 ·exact .inl (hc j hj i hi)
 ·exact .inl (c2s hA hc hk hi)
def b8x {done i k : Nat} (hk : rdyB l done k = true) (hne : k ≠ i) : rdyB l (done ||| (1 <<< i)) k = true := by
 rw [a7i] at hk ⊢
 obtain ⟨h1, o, ho, hall⟩ := hk
 refine ⟨?_, o, ho, fun x hx hb => ?_⟩
 ·rw [a3z, h1]; simp [Ne.symm hne]
 ·rw [a3z, hall x hx hb]; rfl
def e7y (a b c : Nat) : a ||| b ||| c = a ||| c ||| b := by rw [Nat.or_assoc, Nat.or_comm b c, <- Nat.or_assoc]
def e0b {i : Nat} {oi : Oper} {v : Value} {Y : World -> Prop} (hi : l[i]? = some oi) (hsel : Region.noSelect l.toArray = true) (hA : b1u A 0 l = true) :
  ∀ (n done : Nat) (T : Tk) (a : Act) (w : World), b5c A done -> (∀ j oj, l[j]? = some oj -> j ≠ i -> done.testBit j = false -> (A.getD j 0).testBit i = false -> oi.apart l.toArray oj = true) ->
   rdyB l done i = true -> YieldsIf P l.toArray Y oi v a -> Y w -> Tk.all T w -> wpS P l A Q n (done ||| (1 <<< i)) ((i, Y) :: T) (a.put oi.dst v) w -> wpS P l A Q (n + 1) done T a w := by
 intro n
 have hi' : l.toArray[i]? = some oi := by rw [N2]; exact hi
 have hs := Region.noSelect_spec hsel
 have first : ∀ (n done : Nat) (T : Tk) (a : Act) (w : World), YieldsIf P l.toArray Y oi v a -> Y w -> Tk.all T w -> wpS P l A Q n (done ||| (1 <<< i)) ((i, Y) :: T) (a.put oi.dst v) w ->
   wpOp P l.toArray (QN Q) i (fun a' w' => (T.keep A i).all w' /\ wpS P l A Q n (done ||| (1 <<< i)) (T.keep A i) a' w') a w := fun n done T a w hy hY hT H =>
  hy.wpOp hi' hY ⟨Tk.keepK hT, d3z (List.filter_sublist.trans (W5 _ _)) H⟩
 induction n with
 | zero =>
  intro done T a w hc hfree hr hy hY hT H; refine ⟨fun h => (by have := a4a.2 hr; rw [h] at this; cases this), fun k hk => ?_⟩; by_cases hki : k = i
  ·subst hki; exact first 0 done T a w hy hY hT H
  ·have := a4a.2 (b8x (a4a.1 hk) hki); rw [H.1] at this; cases this
 | succ n ih =>
  intro done T a w hc hfree hr hy hY hT H; refine ⟨fun h => (by have := a4a.2 hr; rw [h] at this; cases this), fun k hk => ?_⟩; by_cases hki : k = i
  ·subst hki; exact first _ done T a w hy hY hT H
  ·have hkr := a4a.1 hk; obtain ⟨hkd, ok, hok, _⟩ := a7i.1 hkr; have hnot : (A.getD k 0).testBit i = false := by
    cases hb : (A.getD k 0).testBit i with
    | false => rfl
    | true => have := c2s hA hc hkr hb; rw [(a7i.1 hr).1] at this; cases this
   have hkeep : Tk.keep A k ((i, Y) :: T) = (i, Y) :: Tk.keep A k T := by unfold Tk.keep; rw [K9]; rw [F8 (by simpa using hnot)]
   have h1 := H.2 k (a4a.2 (b8x hkr hki)); have h2 := wpOp_putIf (by rw [N2]; exact hok) (hfree k ok hok hki hkd hnot) (fun cs b => hs i oi cs b hi') (fun cs b => hs k ok cs b (by rw [N2]; exact hok)) (fun _ _ _ h => h) hy h1; refine wpOp_mono (fun a' w' ⟨g1, g2, g3⟩ => ?_) h2; rw [hkeep] at g2 g3; have gT : (Tk.keep A k T).all w' := Tk.sub (W5 _ _) g2; refine ⟨gT, ih (done ||| (1 <<< k)) _ a' w' (hc.add hA hkr) (fun j oj hj hji hd ha => hfree j oj hj hji ?_ ha) (b8x hr (Ne.symm hki)) g1 (g2 (i, Y) (by simp)) gT ?_⟩
   ·rw [a3z, X4] at hd; exact hd.1
   ·rw [e7y]; exact g3
end
structure Good (l : List Oper) (A : List Nat) (done : Nat) : Prop where
  sel : Region.noSelect l.toArray = true
  anc : b1u A 0 l = true
  cl : b5c A done
def WD (P : Program) (l : List Oper) (A : List Nat) (Q : Act -> World -> Prop) (N n done : Nat) (T : Tk) (e : Env) (w : World) : Prop :=
 Good l A done -> T.all w -> ∀ a, Fr N a e -> wpS P l A Q n done T a w
def b3e (l : List Oper) (A : List Nat) (done i : Nat) (oi : Oper) : Nat -> List Oper -> Bool
 | _, [] => true
 | j, oj :: r => (Nat.beq j i || done.testBit j || (A.getD j 0).testBit i || oi.apart l.toArray oj) && b3e l A done i oi (j + 1) r
def b3f {l : List Oper} {A : List Nat} {done i : Nat} {oi : Oper} : ∀ {r : List Oper} {k : Nat}, b3e l A done i oi k r = true -> ∀ {j : Nat} {oj : Oper}, r[j]? = some oj -> k + j ≠ i -> done.testBit (k + j) = false -> (A.getD (k + j) 0).testBit i = false -> oi.apart l.toArray oj = true
 | [], _, _, j, oj, h => by simp at h
 | x :: r, k, hf, j, oj, h => by
  simp only [b3e, A7] at hf; intro h1 h2 h3; cases j with
  | zero =>
   simp at h; subst h; have h4 := hf.1; simp only [N5] at h1 h2 h3; rw [beq_false h1, h2, h3] at h4; simpa using h4
  | succ j =>
   have e : k + 1 + j = k + (j + 1) := by omega
   exact b3f hf.2 (j := j) (oj := oj) (by simpa using h) (by rw [e]; exact h1) (by rw [e]; exact h2) (by rw [e]; exact h3)
def tkB (l : List Oper) (A : List Nat) (done i : Nat) : Bool := rdyB l done i && match l[i]? with | none => false | some oi => b3e l A done i oi 0 l
section
variable {P : Program} {l : List Oper} {A : List Nat} {Q : Act -> World -> Prop} {N n done done' : Nat} {T T' : Tk} {e : Env} {w w0 : World} {G0 G : Gh} {d : Option Tmp} {op : Op} {ty : TypeId} {pos : String} {af : Array Edge} {v : Value} {bl : List Bx}
def c4z (ρ : Operand -> Value) (g g' : Option (Nat × Bool)) : execOp ρ ⟨d, op, ty, pos, af, g⟩ = execOp ρ ⟨d, op, ty, pos, af, g'⟩ := by
 cases op <;> rfl
def b7w (i : Nat) {gd : Option (Nat × Bool)} (Y : World -> Prop) (hi : l[i]? = some ⟨d, op, ty, pos, af, gd⟩) (hk : tkB l A done i = true) (hd' : done ||| (1 <<< i) = done')
  (hy : ∀ a, Fr N a e -> YieldsIf P l.toArray Y ⟨d, op, ty, pos, af, gd⟩ v a) (hY : Y w) (hd : okD N d = true) (h : WD P l A Q N n done' ((i, Y) :: T) (e.putO d v) w) : WD P l A Q N (n + 1) done T e w := by
 intro hG hT a ha
 subst hd'
 unfold tkB at hk
 rw [hi] at hk
 simp only [A7] at hk
 refine e0b hi hG.sel hG.anc n done T a w hG.cl (fun j oj hj h1 h2 h3 => ?_) hk.1 (hy a ha) hY hT ?_
 ·have := b3f hk.2 hj; rw [F2] at this; exact this h1 h2 h3
 ·exact h ⟨hG.sel, hG.anc, hG.cl.add hG.anc hk.1⟩ (Tk.cons hY hT) _ (ha.put hd v)
def f4o (i : Nat) (hi : l[i]? = some ⟨d, op, ty, pos, af, none⟩) (hk : tkB l A done i = true) (hd' : done ||| (1 <<< i) = done') (hop : j9 P N e w ⟨d, op, ty, pos, af, none⟩ v) (hd : okD N d = true)
  (h : WD P l A Q N n done' ((i, fun w => j9 P N e w ⟨d, op, ty, pos, af, none⟩ v) :: T) (e.putO d v) w) : WD P l A Q N (n + 1) done T e w :=
 b7w i _ hi hk hd' (fun a ha => .inl ⟨rfl, fun _ hw => hw a ha⟩) hop hd h
def e7z (i : Nat) {j k : Nat} {b : Bool} (hi : l[i]? = some ⟨d, op, ty, pos, af, some (j, b)⟩) (hk : tkB l A done i = true) (hd' : done ||| (1 <<< i) = done') (hj : a4s l.toArray j = some k) (hb : e k = some (.bool b)) (hop : j9 P N e w ⟨d, op, ty, pos, af, none⟩ v) (hd : okD N d = true)
  (h : WD P l A Q N n done' ((i, fun w => j9 P N e w ⟨d, op, ty, pos, af, none⟩ v) :: T) (e.putO d v) w) : WD P l A Q N (n + 1) done T e w :=
 b7w i _ hi hk hd' (fun a ha => .inl ⟨by simp only [Region.wanted]; rw [a7y ha hj hb]; simp, fun _ hw => by rw [c4z _ _ none]; exact hw a ha⟩) hop hd h
def WD.drop {p : Nat × (World -> Prop)} (h : WD P l A Q N n done T e w) (hp : ∀ w, p.2 w) : WD P l A Q N n done (p :: T) e w := by
 have key : ∀ (n done : Nat) (T T' : Tk) (a : Act) (w : World), (∀ q ∈ T', q ∈ T ∨ ∀ w, q.2 w) -> wpS P l A Q n done T a w -> wpS P l A Q n done T' a w := by
  intro n
  induction n with
  | zero => intro done T T' a w _ h; exact h
  | succ n ih =>
   intro done T T' a w hs h; have hs' : ∀ k, ∀ q ∈ Tk.keep A k T', q ∈ Tk.keep A k T ∨ ∀ w, q.2 w := fun k q hq => by
    unfold Tk.keep at *; rw [H9] at hq ⊢; rcases hs q hq.1 with h1 | h1
    ·exact .inl ⟨h1, hq.2⟩
    ·exact .inr h1
   refine ⟨h.1, fun k hk => wpOp_mono (fun a w ⟨h1, h2⟩ => ⟨fun q hq => ?_, ih _ _ _ a w (hs' k) h2⟩) (h.2 k hk)⟩; rcases hs' k q hq with h3 | h3
   ·exact h1 q h3
   ·exact h3 w
 intro hG hT a ha
 refine key _ _ T _ a w (fun q hq => ?_) (h hG (Tk.sub (W5 _ _) hT) a ha)
 rcases D2.1 hq with rfl | hq
 ·exact .inr hp
 ·exact .inl hq
def g1y (i : Nat) {j k : Nat} {b b' : Bool} (hi : l[i]? = some ⟨d, op, ty, pos, af, some (j, b)⟩) (hk : tkB l A done i = true) (hd' : done ||| (1 <<< i) = done') (hj : a4s l.toArray j = some k) (hb : e k = some (.bool b')) (hne : (b' == b) = false) (hd : okD N d = true)
  (h : WD P l A Q N n done' T (e.putO d undef) w) : WD P l A Q N (n + 1) done T e w :=
 b7w i (fun _ => True) hi hk hd' (fun a ha => .inr ⟨by simp only [Region.wanted]; rw [a7y ha hj hb]; simpa using hne, rfl⟩) trivial hd (h.drop fun _ => trivial)
def f4p (i : Nat) {j k : Nat} {b : Bool} (hi : l[i]? = some ⟨d, op, ty, pos, af, some (j, b)⟩) (hk : tkB l A done i = true) (hd' : done ||| (1 <<< i) = done') (hj : a4s l.toArray j = some k) (hb : e k = some undef) (hd : okD N d = true)
  (h : WD P l A Q N n done' T (e.putO d undef) w) : WD P l A Q N (n + 1) done T e w :=
 b7w i (fun _ => True) hi hk hd' (fun a ha => .inr ⟨by
  have h2 := ha.at_ k _ hb; have hy : yielded l.toArray a.tmps j = none := by simp only [a4s] at hj; simp only [yielded, hj, Option.bind_some, h2]; rfl
  simp only [Region.wanted, hy]; rfl, rfl⟩) trivial hd (h.drop fun _ => trivial)
def WD1 (P : Program) (l : List Oper) (A : List Nat) (Q : Act -> World -> Prop) (N n done : Nat) (T : Tk) (e : Env) (w : World) (k : Nat) : Prop :=
 Good l A (done ||| (1 <<< k)) -> T.all w -> ∀ a, Fr N a e -> wpOp P l.toArray (QN Q) k (fun a' w' => (T.keep A k).all w' /\ wpS P l A Q n (done ||| (1 <<< k)) (T.keep A k) a' w') a w
def WDs (P : Program) (l : List Oper) (A : List Nat) (Q : Act -> World -> Prop) (N n done : Nat) (T : Tk) (e : Env) (w : World) : List Nat -> Prop
 | [] => True
 | k :: r => WD1 P l A Q N n done T e w k /\ WDs P l A Q N n done T e w r
def WDs.get {ks : List Nat} (h : WDs P l A Q N n done T e w ks) : ∀ k ∈ ks, WD1 P l A Q N n done T e w k := by
 induction ks with
 | nil => intro k hk; cases hk
 | cons x r ih =>
  intro k hk; rcases D2.1 hk with rfl | hk
  ·exact h.1
  ·exact ih h.2 k hk
def g1z (ks : List Nat) (hr : a1x l done = ks) (hne : ks.isEmpty = false) (h : WDs P l A Q N n done T e w ks) : WD P l A Q N (n + 1) done T e w := by
 intro hG hT a ha
 refine ⟨fun h0 => ?_, fun k hk => ?_⟩
 ·rw [<- hr, h0] at hne; cases hne
 ·have hk' := a4a.1 hk; rw [hr] at hk; exact h.get k hk ⟨hG.sel, hG.anc, hG.cl.add hG.anc hk'⟩ hT a ha
def Oper.wp_QN {o : Oper} {a : Act} {K : Act -> World -> Prop} {Q1 Q2 : Act -> World -> Prop} (h : o.wp P a w K (QN Q1)) : o.wp P a w K (QN Q2) := by
 unfold Oper.wp at *
 generalize (execOp a.eval o).run P w = r at *
 cases r with
 | ok n w' =>
  cases n <;> simp only [Oper.upon] at h ⊢ <;>
   first
    | exact h
    | exact Calls.mono h (fun e w'' he => by cases e <;> first | exact he | exact he.elim)
 | halt x w' => cases x <;> simp only [Oper.upon] at h ⊢ <;> exact h
def wd1 {k : Nat} {o : Oper} (ho : l[k]? = some o)
  (h : Good l A (done ||| (1 <<< k)) -> WL P l.toArray (QN (fun a' w' => (T.keep A k).all w' /\ wpS P l A Q n (done ||| (1 <<< k)) (T.keep A k) a' w')) N [o] e w) : WD1 P l A Q N n done T e w k := by
 intro hG hT a ha
 have h1 := h hG a ha
 unfold wpOp
 rw [N2, ho]
 simp only []
 unfold wpList at h1
 split
 ·rename_i hw; rw [F8 hw] at h1; rcases h1 with h1 | ⟨h1, h2⟩
  ·exact .inl (Oper.wp_QN h1)
  ·exact .inr ⟨h1, h2⟩
 ·rename_i hw; rw [F7 hw] at h1; exact h1
def f4q {k : Nat} {ops : Array Oper} (hG : Good l A (done ||| (1 <<< k))) (hd' : done ||| (1 <<< k) = done') (hK : T.keep A k = T') (hT : T'.all w) (h : WD P l A Q N n done' T' e w) :
  WL P ops (QN (fun a' w' => (T.keep A k).all w' /\ wpS P l A Q n (done ||| (1 <<< k)) (T.keep A k) a' w')) N [] e w := by
 subst hd' hK
 exact fun a ha => ⟨hT, h hG hT a ha⟩
def e0c (hr : a1x l done = []) (h : ∀ a, Fr N a e -> Q a w) : WD P l A Q N n done T e w := by
 intro _ _ a ha
 cases n with
 | zero => exact ⟨hr, h a ha⟩
 | succ n => exact ⟨fun _ => h a ha, fun k hk => by rw [hr] at hk; cases hk⟩
def e8a {id : Nat} {Q : Exit -> Act -> World -> Prop} (n : Nat) (A : List Nat) (hm : P.follows .mixedOrders = true) (hA : b1u A 0 l = true) (hs : Region.noSelect l.toArray = true) (hn : l.length = n) (hC : Cx w0 G0 G w M) (hB : Bxs G w w0.heap.size bl M)
  (h : ∀ w', Cx w0 G0 G w' M -> Bxs G w' w0.heap.size bl M -> WD P l A (fun a w => Q .normal a w) N n 0 [] e w') : WC P Q N (.region id l.toArray true) e w := by
 intro a ha
 refine Code.wp_mono (Q := QN (fun a w => Q .normal a w)) (fun e a w h => by cases e <;> first | exact h | exact h.elim) ?_
 refine wp_region_any hm ?_
 have hsz : l.toArray.size = l.length := by simp
 rw [hsz, hn]
 refine b8w (by simp [hn]) (fun i => ?_) (h w.drew hC.drew hB.drew ⟨hs, hA, fun j hj => by simp at hj⟩ (Tk.nil _) a ha)
 rw [J8, Array.getElem?_replicate]
 split <;> simp
end
variable {M : Mu}
section
variable {P : Program} {N : Nat} {e : Env} {w : World} {ops : Array Oper} {rest : List Oper} {Q : Exit -> Act -> World -> Prop}
end
section
variable {P : Program} {l : List Oper} {A : List Nat} {Q : Act -> World -> Prop} {N n done done' : Nat} {T : Tk} {e : Env} {w : World} {d : Option Tmp} {op : Op} {ty : TypeId} {pos : String} {af : Array Edge} {v : Value}
end
variable {M : Mu}
section
variable {κ β : Type} [DecidableEq κ] [Rl β] {G G' : Gh} {P : Program} {enc : κ -> Value} {o it : Obj} {D : List (κ × β)} {w : World} {b r : Nat} {t kt et : Nat} {k : κ}
end
section
variable {P : Program} {ops : Array Oper} {Q : Exit -> Act -> World -> Prop} {N : Nat} {e : Env} {w w0 : World} {G0 G : Gh} {rest : List Oper} {d : Option Tmp} {ty : TypeId} {pos : String} {af : Array Edge} {bl : List Bx}
  {m : List Nat} {L O B : List (Nat × Obj)} {i b t t2 : Nat} {o o' : Obj} {x y z : Operand} {k v u : Value}
def e0d (hC : Cx w0 G0 G w ⟨m, L⟩) (hB : Bxs G w w0.heap.size bl ⟨m, L⟩) (hi : L[i]? = some (b, o)) (hx : opv e x = some (.map (some b))) (hy : opv e y = some k)
  (hr : (Instr.mapEntry t (.map (some b)) k).run P w = .ok u (World.setO w b o')) (hd : okD N d = true)
  (h : ∀ w', Cx w0 G0 G w' ⟨m, L.set i (b, o')⟩ -> Bxs G w' w0.heap.size bl ⟨m, L.set i (b, o')⟩ -> WL P ops Q N rest (e.putO d u) w') :
  WL P ops Q N (⟨d, .mapEntry t x y, ty, pos, af, none⟩ :: rest) e w := by
 refine x5 (R := fun v' w' => v' = u /\ w' = World.setO w b o') hd (fun a ha => ?_) ?_
 ·unfold OpR; have : (execOp a.eval ⟨d, .mapEntry t x y, ty, pos, af, none⟩).run P w = .ok (.value u) (World.setO w b o') := by
   simp [execOp, ha.eval hx, ha.eval hy, hr]
  rw [this]; exact ⟨rfl, rfl⟩
 ·rintro v' w' ⟨rfl, rfl⟩; exact h _ (hC.turnO hi o') (hB.turnO hi o')
def c2a (hC : Cx w0 G0 G w ⟨m, L⟩) (hB : Bxs G w w0.heap.size bl ⟨m, L⟩) (hi : L[i]? = some (b, o)) (hx : opv e x = some (.map (some b))) (hy : opv e y = some k) (hz : opv e z = some v)
  (hr : (Instr.entryStore t (.map (some b)) k v).run P w = .ok () (World.setO w b o')) (hd : okD N d = true)
  (h : ∀ w', Cx w0 G0 G w' ⟨m, L.set i (b, o')⟩ -> Bxs G w' w0.heap.size bl ⟨m, L.set i (b, o')⟩ -> WL P ops Q N rest (e.putO d undef) w') :
  WL P ops Q N (⟨d, .entryStore t x y z, ty, pos, af, none⟩ :: rest) e w := by
 refine x5 (R := fun v' w' => v' = undef /\ w' = World.setO w b o') hd (fun a ha => ?_) ?_
 ·unfold OpR; have : (execOp a.eval ⟨d, .entryStore t x y z, ty, pos, af, none⟩).run P w = .ok .skip (World.setO w b o') := by
   simp [execOp, ha.eval hx, ha.eval hy, ha.eval hz, hr]
  rw [this]; exact ⟨rfl, rfl⟩
 ·rintro v' w' ⟨rfl, rfl⟩; exact h _ (hC.turnO hi o') (hB.turnO hi o')
variable {f : FuncId} {xs : List Operand} {vs caps first : List Value} {ats : Array TypeId} {R : Gh -> List (Nat × Obj) -> Value -> Prop}
end
section
variable {κ : Type} [DecidableEq κ] {β : Type} [Rl β] {G G' : Gh} {P : Program} {enc : κ -> Value} {o it : Obj} {D : List (κ × β)} {w : World} {b r : Nat} {t kt et : Nat}
def StO (enc : κ -> Value) (o : Obj) (k : κ) (s : Int) : Prop := ∃ (es : Array MapEntry) (c j : Nat) (e1 : MapEntry), o = .map es c /\ es[j]? = some e1 /\ e1.key = enc k /\ s = (e1.born : Int)
def d1d.store {k : κ} {es1 : Array MapEntry} {c1 : Nat} {kvs1 : List (κ × Value)} {j : Nat} {e1 : MapEntry} {v' : Value} (hE1 : d1d enc es1 c1 kvs1) (hj : es1[j]? = some e1) (hk1 : e1.key = enc k) (g1 : (kvs1.map (·.1))[j]? = some k) (g2 : ∀ i, i < j -> (kvs1.map (·.1))[i]? ≠ some k) :
  ∃ es2, d1d enc es2 c1 (a2t kvs1 k v') /\ ∀ (w : World) (b : Nat), w.heap[b]? = some (.map es1 c1) -> (Instr.entryStore t (.map (some b)) (.int .i64 (e1.born : Int)) v').run P w = .ok () (World.setO w b (.map es2 c1)) := by
 have hlt := (E4.1 hj).1
 have hje : es1[j] = e1 := (E4.1 hj).2
 have g3 : es1.toList[j]? = some e1 := by simpa using hj
 have hmod : (es1.modify j fun e => { e with val := v' }).toList = es1.toList.set j { e1 with val := v' } := by
  rw [Y2]; apply J1; intro i; rw [X3, M9]; by_cases hij : j = i
  ·subst hij; simp [hlt]; rw [hje]; exact ⟨rfl, rfl⟩
  ·simp [hij]
 have hfind : es1.findIdx? (fun e => (e.born : Int) == (e1.born : Int)) = some j := by
  rw [Array.findIdx?_eq_some_iff_getElem]; refine ⟨hlt, by rw [hje]; simp, fun i hi => ?_⟩
  have hne : es1[i].born ≠ e1.born := by
   intro he; have h1 : (es1.toList.map (·.born))[i]? = some e1.born := by
    rw [C7, Array.getElem?_toList, U7 (by omega)]; simp [he]
   have h2 : (es1.toList.map (·.born))[j]? = some e1.born := by rw [C7, g3]; rfl
   have := (Z1 (by simp; omega) hE1.nd).1 (h1.trans h2.symm)
   omega
  simp; omega
 refine ⟨es1.modify j fun e => { e with val := v' }, ⟨?_, ?_, ?_⟩, fun w b hb => ?_⟩
 ·rw [hmod, c4x g1 g2, P7, P7, hE1.kv]; simp [hk1]
 ·intro x hx; rw [hmod] at hx; rcases U5 hx with hx | rfl
  ·exact hE1.old x hx
  ·exact hE1.old e1 (I1 g3)
 ·rw [hmod, P7]; have : (es1.toList.map (·.born)).set j e1.born = es1.toList.map (·.born) := by
   apply J1; intro i; rw [M9]; split
   ·rename_i h; subst h; simp [hlt]; exact (congrArg MapEntry.born hje).symm
   ·rfl
  rw [this]; exact hE1.nd
 ·simp only [Instr.entryStore, Sem.run_bind, MapKept.run_getObj_map hb, Result.andThen_ok]; simp [asInt, asIntOf, hfind, MapKept.run_setObj_map _ hb, World.setO]
def MpO.estore {v' : Value} {y' : β} {k : κ} {s : Int} (hM : MpO enc G o D) (hK : a9j P kt enc) (hs : StO enc o k s) (hv : Rl.Is1 G v' y') :
  ∃ o2, MpO enc G o2 (a2t D k y') /\ ∀ (w : World) (b : Nat), w.heap[b]? = some o -> (Instr.entryStore t (.map (some b)) (.int .i64 s) v').run P w = .ok () (World.setO w b o2) := by
 obtain ⟨es, clock, kvs, rfl, hE, hR, hn⟩ := hM
 obtain ⟨es', c, j, e1, ho, hj, hk, rfl⟩ := hs
 injection ho with h1 h2
 subst h1; subst h2
 have hkey : (kvs.map (·.1))[j]? = some k := by
  have := congrArg (·[j]?) hE.keys; have hj' : es.toList[j]? = some e1 := by simpa using hj
  simp only [C7, hj', H8] at this; cases hq : kvs[j]? with
  | none => rw [hq] at this; simp at this
  | some p =>
   rw [hq] at this; simp only [H8, A3] at this; rw [C7, hq, H8, hK.inj _ _ (hk.symm.trans this)]
 have hnd : (kvs.map (·.1)).Nodup := by rw [hR.keys]; exact hn
 obtain ⟨es2, g1, g2⟩ := hE.store (P := P) (t := t) (v' := v') hj hk hkey fun i hi he => by
  have := (Z1 (C8.1 he).1 hnd).1 (he.trans hkey.symm); omega
 exact ⟨_, ⟨es2, _, _, rfl, g1, hR.put hv, a5n k _ hn⟩, g2⟩
def MpO.entry2 {z : Value} {zb : β} (hM : MpO enc G o D) (hK : a9j P kt enc) (ht : a9k P t kt et = true) (hz : (P.info? et).bind (fun i => i.zero) = some z) (hzb : Rl.Is1 G z zb) (k : κ) :
  ∃ o1 v s, MpO enc G o1 (a2t D k ((a0y D k).getD zb)) /\ Rl.Is1 G v ((a0y D k).getD zb) /\
   (∀ (w : World) (b : Nat), w.heap[b]? = some o -> (Instr.mapEntry t (.map (some b)) (enc k)).run P w = .ok (.tuple #[v, .int .i64 s]) (World.setO w b o1)) /\
   StO enc o1 k s := by
 obtain ⟨es, clock, kvs, rfl, hE, hR, hn⟩ := hM
 have hu := a7h ht
 cases hq : P.info? et with
 | none => simp [hq] at hz
 | some i =>
 have hz' : i.zero = some z := by simpa [hq] using hz
 have hzv : ∀ w, (zeroValue et).run P w = .ok z w := fun w => by simp [zeroValue, typeInfo, hq, hz']
 rcases hK.find k es.toList (kvs.map (·.1)) hE.keys with ⟨g1, g2⟩ | ⟨j, e', g1, g2, g3, g4⟩
 ·have g1' : k ∉ D.map (·.1) := by rw [<- hR.keys]; exact g1
  have hE1 : d1d enc (es.push ⟨enc k, z, clock⟩) (clock + 1) (kvs ++ [(k, z)]) := by
   refine ⟨by simp [hE.kv], ?_, ?_⟩
   ·intro x hx; simp only [V2, D4, F3] at hx; rcases hx with hx | rfl
    ·have := hE.old x hx; omega
    ·simp
   ·simp only [V2, F5, C9, L0]; rw [P6]; refine ⟨hE.nd, by simp, fun a ha c hc => ?_⟩; obtain ⟨y, hy, rfl⟩ := E1.1 ha; have : c = clock := by simpa using hc
    have := hE.old y hy; omega
  have hlen : es.size = kvs.length := by
   have := congrArg List.length hE.kv; simpa using this
  refine ⟨.map (es.push ⟨enc k, z, clock⟩) (clock + 1), z, (clock : Int), ⟨_, _, a2t kvs k z, rfl, by rw [b0p g1]; exact hE1, ?_, a5n k _ hn⟩, by rw [a5h g1']; exact hzb, fun w b hb => ?_, ⟨_, _, es.size, ⟨enc k, z, clock⟩, rfl, by simp, rfl, rfl⟩⟩
  ·rw [a5h g1']; exact hR.put hzb
  ·have hc := hK.chk false k w; simp [Instr.mapEntry, run_underlying hu, MapKept.run_getObj_map hb, hc, g2, hzv, MapKept.run_setObj_map _ hb, World.setO, goInt]
 ·have hj : es[j]? = some e' := by simpa using g3
  have hlt := (E4.1 hj).1; have hje : es[j] = e' := (E4.1 hj).2; have hke : e'.key = enc k := by
   have := congrArg (·[j]?) hE.keys; simp only [C7, g3, H8] at this; rw [<- C7, g1] at this; simpa using this
  have hsame : (es.modify j fun e => { e with key := enc k }) = es := by
   apply J5; rw [Y2]; apply J1; intro i; rw [X3]; by_cases hij : j = i
   ·subst hij; rw [g3]; simp [<- hke]
   ·simp [hij]
  have hkv : kvs[j]? = some (k, e'.val) := by
   have := congrArg (·[j]?) hE.kv; simp only [C7, g3, H8] at this; rw [C7] at g1; cases hj : kvs[j]? with
   | none => rw [hj] at g1; cases g1
   | some p =>
    rw [hj] at this g1; simp only [H8, A3, I4] at this g1; obtain ⟨p1, p2⟩ := p; simp only [] at this g1; rw [<- g1, this.2]
  have hg := b7u hkv rfl g2; have hy : ∃ y, a0y D k = some y /\ Rl.Is1 G e'.val y := by
   rcases hR.get k with ⟨h1, _⟩ | ⟨v, y, h1, h2, h3⟩
   ·rw [hg] at h1; cases h1
   ·rw [hg] at h1; cases h1; exact ⟨y, h2, h3⟩
  obtain ⟨y, hy1, hy2⟩ := hy; have hput : a2t D k ((a0y D k).getD zb) = D := by
   rw [hy1]; have : ∀ l : List (κ × β), a0y l k = some y -> a2t l k y = l := by
    intro l
    induction l with
    | nil => intro h; simp [a0y] at h
    | cons p r ih =>
     intro h; by_cases hp : p.1 = k
     ·simp only [a0y, hp, X7, A3] at h; simp only [a2t, hp, X7]; rw [<- h, <- hp]
     ·simp only [a0y, hp, Aq] at h; simp [a2t, hp, ih h]
   exact this D hy1
  refine ⟨.map es clock, e'.val, (e'.born : Int), by rw [hput]; exact ⟨es, clock, kvs, rfl, hE, hR, hn⟩, by rw [hy1]; exact hy2, fun w b hb => ?_, ⟨es, clock, j, e', rfl, hj, hke, rfl⟩⟩
  ·have hc := hK.chk false k w; simp [Instr.mapEntry, run_underlying hu, MapKept.run_getObj_map hb, hc, g4, hj, hje, hlt, hke, hK.stay, hsame, MapKept.run_setObj_map _ hb, World.setO, goInt]
end
end Go.Gx
