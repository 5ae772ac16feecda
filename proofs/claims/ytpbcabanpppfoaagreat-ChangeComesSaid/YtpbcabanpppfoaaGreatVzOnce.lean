/- Walks by reckoning: zeros. No condition. -/
import Derived.Test.YtpbcabanpppfoaaGreatVzCall
import Derived.Laws.LoneSync
import Derived.Laws.Externs
set_option linter.all false
namespace Go.Vz
open Go Go.Gx
variable {E : DE}
def z1 : SV E → Value → Bool
  | .i k n, .int k' n' => decide (k = k') && decide (n = n')
  | .u8 x, .int .u8 n => decide (n = (x.toNat : Int))
  | .lit x, .bool y => x == y
  | .str x, .string y => x.isEmpty && Nat.beq y.data.size 0
  | .nils, .slice none 0 0 => true
  | .nilp, .pointer none => true
  | .nilm, .map none => true
  | .nilf, .nilFunc => true
  | _, _ => false
def zv (k : IntKind) : List Int → List Value → Option (List Value)
  | [], cs => some cs
  | x :: l, c :: cs => match c with
    | .int k' y => bif decide (k' = k) && decide (y = x) then zv k l cs else none
    | _ => none
  | _ :: _, [] => none
theorem zv_ok {k : IntKind} : ∀ {l : List Int} {cs r : List Value}, zv k l cs = some r → cs = l.map (Value.int k) ++ r
  | [], cs, r, h => by simp only [zv, Option.some.injEq] at h; subst h; rfl
  | x :: l, c :: cs, r, h => by
    simp only [zv] at h
    split at h
    · rename_i k' y
      cases hc : decide (k' = k) && decide (y = x) with
      | false => rw [hc] at h; cases h
      | true =>
        rw [hc] at h
        simp only [Bool.and_eq_true, decide_eq_true_eq] at hc
        obtain ⟨rfl, rfl⟩ := hc
        rw [zv_ok (show zv k' l cs = some r from h)]; rfl
    · cases h
  | _ :: _, [], _, h => by simp [zv] at h
def zl : List (SV E) → List Value → Bool
  | [], [] => true
  | .dig d :: r, cs => decide (d = Dig.zero) && Nat.ble 32 cs.length && (cs.take 32).all (fun v => z1 (.u8 0 : SV E) v) && zl r (cs.drop 32)
  | .vec k n l :: r, cs => Nat.beq l.length n && (match zv k l cs with | some cs' => zl r cs' | none => false)
  | x :: r, v :: cs => leaf x && z1 x v && zl r cs
  | _, _ => false
theorem z1_ok {m : Mn E} {x : SV E} {v : Value} (h : z1 x v = true) : L m x v := by
  unfold z1 at h
  split at h <;> first
    | (cases h; done)
    | rfl
    | (simp only [Bool.and_eq_true, decide_eq_true_eq] at h; obtain ⟨rfl, rfl⟩ := h; rfl)
    | (simp only [decide_eq_true_eq] at h; subst h; rfl)
    | (simp only [beq_iff_eq] at h; subst h; rfl)
    | (rename_i x y
       simp only [Bool.and_eq_true] at h
       obtain ⟨h1, h2⟩ := h
       have h1 : x = [] := by cases x <;> first | rfl | cases h1
       have h2 : y.data = #[] := Array.eq_empty_of_size_eq_zero (Nat.eq_of_beq_eq_true h2)
       subst h1
       show Value.string y = .string ⟨#[]⟩
       cases y; simp only at h2; rw [h2])
theorem zeros_cells (E : DE) : ∀ (cs : List Value), (cs.all fun v => z1 (.u8 0 : SV E) v) = true → cs = List.replicate cs.length (.int .u8 0)
  | [], _ => rfl
  | v :: cs, ha => by
    simp only [List.all_cons, Bool.and_eq_true] at ha
    have h1 : L (E := E) ⟨fun _ => none, fun _ => undef, 0, [], fun _ => .box 0 [], fun _ => [], fun _ => []⟩ (.u8 0) v := z1_ok ha.1
    have h1 : v = _ := h1
    have h2 := zeros_cells E cs ha.2
    rw [List.length_cons, List.replicate_succ, ← h2, h1]; rfl
theorem zl_ok {m : Mn E} : ∀ {l : List (SV E)} {cs : List Value}, zl l cs = true → RC m l cs := by
  intro l
  induction l with
  | nil => intro cs h; cases cs with | nil => rfl | cons _ _ => simp [zl] at h
  | cons x r ih =>
    intro cs h
    have key : ∀ {v : Value} {cs' : List Value}, leaf x = true → z1 x v = true → zl r cs' = true → RC m (x :: r) (v :: cs') := fun hl hz hr => ⟨[_], _, rfl, leaf_C1 hl (z1_ok hz), ih hr⟩
    cases x with
    | dig d =>
      simp only [zl, Bool.and_eq_true, decide_eq_true_eq] at h
      obtain ⟨⟨⟨rfl, h2⟩, h3⟩, h4⟩ := h
      refine ⟨cs.take 32, cs.drop 32, (List.take_append_drop 32 cs).symm, ?_, ih h4⟩
      have h5 : (cs.take 32).length = 32 := by rw [List.length_take]; have := Nat.le_of_ble_eq_true h2; omega
      have := zeros_cells E (cs.take 32) h3
      rw [h5] at this
      show cs.take 32 = Dig.zero.cells
      rw [this]; rfl
    | vec k n l =>
      simp only [zl, Bool.and_eq_true] at h
      obtain ⟨h1, h2⟩ := h
      split at h2
      · rename_i cs' hz
        exact ⟨_, cs', zv_ok hz, ⟨rfl, Nat.eq_of_beq_eq_true h1⟩, ih h2⟩
      · cases h2
    | _ =>
      all_goals
        cases cs with
        | nil => simp [zl] at h
        | cons v cs' =>
          simp only [zl, Bool.and_eq_true] at h
          exact key h.1.1 h.1.2 h.2
/-- A table of zeros, looked at. -/
def ZF.of (P : Program) (t : Nat → Option Ty) (tbl : Nat → Option (List (SV E))) (ky : Nat → Option Ty := fun _ => none)
    (kok : ∀ t k, ky t = some k → KeyL P t (k.enc E) ∧ ∀ (G : Gh) (x : k.den E) (v : Value), IsV G k x v ↔ v = k.enc E x := by intro _ _ h; cases h)
    (ex : Nat → Option XK := fun _ => none) (exok : ∀ f k, ex f = some k → XOk P f k := by intro _ _ h; cases h) : ZF P E where
  ex := ex
  exok := exok
  ky := ky
  kok := kok
  zs := fun n => match tbl n, (P.info? n).bind (fun i => i.zero) with
    | some l, some (.agg a) => bif zl l a.toList then some (mkRow l) else none
    | some [x], some v => bif leaf x && z1 x v then some x else none
    | _, _ => none
  zok := fun n x h => by
    split at h
    · rename_i l a _ ha
      cases hz : zl l a.toList with
      | false => rw [hz] at h; cases h
      | true =>
        rw [hz] at h; simp only [cond_true, Option.some.injEq] at h; subst h
        exact ⟨_, ha, fun m => mkRow_ok (cs := a.toList) (zl_ok hz)⟩
    · rename_i y v _ _ ha
      cases hz : leaf y && z1 y v with
      | false => rw [hz] at h; cases h
      | true =>
        rw [hz] at h; simp only [cond_true, Option.some.injEq] at h; subst h
        rw [Bool.and_eq_true] at hz
        exact ⟨_, ha, fun m => leaf_RV hz.1 (z1_ok hz.2)⟩
    · cases h
  t := t
  z := fun n => match tbl n with
    | some l => match (P.info? n).bind (fun i => i.zero.map Value.cells) with
      | some a => bif zl l a.toList then some l else none
      | none => none
    | none => none
  ok := fun n l h => by
    split at h
    · rename_i l' _
      split at h
      · rename_i a ha
        cases hz : zl l' a.toList with
        | false => rw [hz] at h; cases h
        | true => rw [hz] at h; simp only [cond_true, Option.some.injEq] at h; subst h; exact ⟨a.toList, by rw [ha], fun m => zl_ok hz⟩
      · cases h
    · cases h
/-! ### What the model stands in for -/
theorem xok_add64 {P : Program} {f : Nat} {fn : Func} (hf : P.funcs[f]? = some fn) (hname : (fn.name == "runtime.NumGoroutine") = false) (hb : fn.body.isNone = true) (hn : Extern.findNext fn = none) (he : Extern.find fn = some add64Entry) : XOk P f .add64 := fun x y c w h1 h2 h3 h4 => by
  rw [run_callFunc_extern hf hname hb hn he, run_add64 x y c h1 h2 h3 h4]; rfl
theorem xok_addT {P : Program} {f : Nat} {fn : Func} (k : IntKind) (hf : P.funcs[f]? = some fn) (hname : (fn.name == "runtime.NumGoroutine") = false) (hb : fn.body.isNone = true) (hn : Extern.findNext fn = none) (he : Extern.find fn = some (Extern.Atomic.update (Op.intArith .add) k true)) : XOk P f (.addT k) := fun a x y w h1 h2 =>
  run_call_add hf hname hb hn k he h1 h2 (by simp [Op.intArith])
theorem xok_cmp {P : Program} {f : Nat} {fn : Func} (hf : P.funcs[f]? = some fn) (hname : (fn.name == "runtime.NumGoroutine") = false) (hb : fn.body.isNone = true) (hn : Extern.findNext fn = none) (he : Extern.find fn = some Extern.BytealgCompare.compare) : XOk P f .cmp := fun G v1 v2 a b w h0 h1 h2 => by
  rw [run_callFunc_extern hf hname hb hn he, run_compare h0 h1 h2]; rfl
end Go.Vz

namespace Go.Vz
open Go Go.Gx
variable {E : DE} {P : Program}
/-- What the slow road does with a closure, where nothing is done yet and the lock is free. -/
structure OnceOk (P : Program) (f : FuncId) : Prop where
  run : ∀ (b off : Nat) (g : FuncId) (caps : Array Value) (w : World) (R : World → Prop), callOk P g = true →
    w.cell? ⟨b, off, none⟩ = some (.int .u32 0) → w.cell? ⟨b, off + 1, none⟩ = some (.int .i32 0) → w.frozen? ⟨b, off, none⟩ = false → w.frozen? ⟨b, off + 1, none⟩ = false →
    Calls P g caps (w.setCell ⟨b, off + 1, none⟩ (.int .i32 1)) (fun e w2 => e = .returned (.tuple #[]) ∧ w2.cell? ⟨b, off, none⟩ = some (.int .u32 0) ∧ w2.cell? ⟨b, off + 1, none⟩ = some (.int .i32 1) ∧
      w2.frozen? ⟨b, off, none⟩ = false ∧ w2.frozen? ⟨b, off + 1, none⟩ = false ∧ R ((w2.drew.setCell ⟨b, off, none⟩ (.int .u32 1)).setCell ⟨b, off + 1, none⟩ (.int .i32 0))) →
    Calls P f #[.pointer (some ⟨b, off, none⟩), .func (.func g) #[] caps] w fun e w' => e = .returned (.tuple #[]) ∧ R w'
  done : ∀ (b off : Nat) (v : Value) (w : World), w.cell? ⟨b, off, none⟩ = some (.int .u32 1) → Calls P f #[.pointer (some ⟨b, off, none⟩), v] w fun e w' => e = .returned (.tuple #[]) ∧ w' = w
/-- A number in a box, from one to another one. -/
def seti (s : St E) (id off : Nat) (q : IntKind) (x y : Int) : Option (St E) := match hget s.hp id with
  | some (_, .box T c) => match takeW off c, dropW off c with
    | some a, some (.i q' x' :: r) => bif decide (q' = q) && decide (x' = x) then some (s.turn id (.box T (a ++ .i q y :: r))) else none
    | _, _ => none
  | _ => none
def onceH (P : Program) (fo : Nat) (call els : CallH E) : CallH E := fun f l s K => bif Nat.beq f fo then match l with
    | [.ptr id off, .fn g caps] => cond (callOk P g) (match seti s id off .u32 0 0, seti s id (off + 1) .i32 0 1 with
      | some _, some s1 => call g caps s1 fun s2 x => match x with
        | .tup [] => match seti s2 id (off + 1) .i32 1 1, seti s2 id off .u32 0 1 with
          | some _, some s3 => match seti s3 id (off + 1) .i32 1 0 with
            | some s4 => K s4 (.tup [])
            | none => No f
          | _, _ => No f
        | _ => No f
      | _, _ => match seti s id off .u32 1 1 with
        | some _ => K s (.tup [])
        | none => No f) (No f)
    | _ => No f
  else els f l s K
section
variable {w0 w : World} {G0 : Gh} {s s' : St E} {m : Mn E}
theorem RelH.drew (r : RelH w0 G0 s m w) : RelH w0 G0 s m w.drew := by
  obtain ⟨⟨bl, L, hC, hB, hH⟩, h1, h2⟩ := r
  exact ⟨⟨bl, L, hC.drew, hB.drew, hH⟩, h1, h2⟩
theorem seti_ok (r : RelH w0 G0 s m w) {id off : Nat} {q : IntKind} {x y : Int} (h : seti s id off q x y = some s') : ∃ b, m.ν id = .pointer (some ⟨b, 0, none⟩) ∧ id < m.n ∧ w.cell? ⟨b, off, none⟩ = some (.int q x) ∧ w.frozen? ⟨b, off, none⟩ = false ∧
    ∃ m', Up m m' ∧ RelH w0 G0 s' m' (w.setCell ⟨b, off, none⟩ (.int q y)) := by
  unfold seti at h
  split at h
  · rename_i ver T c hgt
    split at h
    · rename_i A' q' x' rr ht hdr
      cases hc : decide (q' = q) && decide (x' = x) with
      | false => rw [hc] at h; cases h
      | true =>
        rw [hc] at h
        simp only [cond_true, Option.some.injEq] at h
        subst h
        simp only [Bool.and_eq_true, decide_eq_true_eq] at hc
        obtain ⟨rfl, rfl⟩ := hc
        obtain ⟨_, hid, _, ⟨b, cs, e1, e2, e3, e4⟩, _⟩ := r.wd hgt
        obtain ⟨p, q, A, B, hC, hB, hT⟩ := r.turn hgt
        rw [e1] at hB
        rw [e2] at hC hB
        have hA := e4.take ht
        obtain ⟨d1, d2, f0, f1, f2⟩ := e4.drop hdr
        obtain ⟨u, rfl, f9⟩ := f1.leaf_ rfl
        have f9 : u = _ := f9
        subst f9
        have hlen : off + 1 ≤ cs.length := by
          have := congrArg List.length f0
          simp at this; omega
        have hcell : cs[off]? = some (.int q' x') := by
          have := congrArg (·[0]?) f0
          simpa using this
        have hi : (p ++ ([(b, T, cs)] ++ q))[p.length]? = some (b, T, cs) := by simp
        have hgb := hB.get hi
        obtain ⟨k1, k2⟩ := cell_of_box hgb.1 hcell
        have hdrop : cs.drop (off + 1) = d2 := by
          rw [← List.drop_drop, f0]; rfl
        have f3 : RC m (A' ++ .i q' y :: rr) (cs.take off ++ [.int q' y] ++ cs.drop (off + 1)) := by
          rw [hdrop, List.append_assoc]
          exact hA.append ⟨[_], d2, rfl, ⟨_, rfl, rfl⟩, f2⟩
        refine ⟨b, e3, hid, k1, k2, ?_⟩
        rw [setCell_row hgb.1 hlen]
        have hC' := hC.setRow' hgb.2.1 hgb.2.2 (hB.off hi) (cs.take off ++ [Value.int q' y] ++ cs.drop (off + 1)).toArray
        have hB' := hB.set hi (cs.take off ++ [Value.int q' y] ++ cs.drop (off + 1))
        rw [List.set_append_right _ _ (Nat.le_refl _), Nat.sub_self] at hB'
        obtain ⟨u, r'⟩ := hT m.G _ (.box T _) [(b, T, _)] [] (GLe.refl _) hC' hB' ⟨b, _, rfl, rfl, e3, f3⟩
        exact ⟨_, u, r'⟩
    · cases h
  · cases h
theorem LL_at {m : Mn E} : ∀ {xs : List (SV E)} {vs : List Value}, LL m xs vs → xs.length = vs.length ∧ ∀ (i : Nat) (x : SV E), xs[i]? = some x → ∃ v, vs[i]? = some v ∧ L m x v
  | [], vs, h => by have h : vs = [] := h; subst h; exact ⟨rfl, fun i x hi => by simp at hi⟩
  | a :: r, vs, ⟨v, us, e, h1, h2⟩ => by
    subst e
    obtain ⟨g1, g2⟩ := LL_at h2
    refine ⟨by simp [g1], fun i x hi => ?_⟩
    cases i with
    | zero => simp only [List.getElem?_cons_zero, Option.some.injEq] at hi; subst hi; exact ⟨v, rfl, h1⟩
    | succ i => simpa using g2 i x (by simpa using hi)
theorem L_RV {m : Mn E} {x : SV E} {v : Value} (h : L m x v) : RV m x v := by
  cases x <;> first | exact h | exact h.elim
end
theorem onceH_ok {fo : Nat} (ho : OnceOk P fo) {call els : CallH E} (hc : CallAll P call) (he : CallAll P els) : CallAll P (onceH P fo call els) := by
  intro w0 G0 f args s K m w vs rh hl hv h
  unfold onceH at h
  cases hb : Nat.beq f fo with
  | false => rw [hb] at h; exact he w0 G0 f args s K m w vs rh hl hv h
  | true =>
    rw [hb] at h
    simp only [cond_true] at h
    obtain rfl := Nat.eq_of_beq_eq_true hb
    split at h
    · rename_i id off g caps
      cases hco : callOk P g with
      | false => rw [hco] at h; exact h.elim
      | true =>
      rw [hco, cond_true] at h
      split at h
      · rename_i s0 s1 h0 h1
        obtain ⟨v1, a1, b1⟩ := hv 0 _ rfl
        obtain ⟨v2, a2, b2⟩ := hv 1 _ rfl
        obtain ⟨_, b', o', h6, b1⟩ := leaf_L rfl b1
        obtain ⟨cv, b2, hcv⟩ : ∃ cv : List Value, v2 = .func (.func g) #[] cv.toArray ∧ LL m caps cv := b2
        subst b1 b2
        have hvl : vs = [.pointer (some ⟨b', o' + off, none⟩), .func (.func g) #[] cv.toArray] := by
          match vs, hl with
          | [p, q], _ => simp at a1 a2; rw [a1, a2]
        subst hvl
        obtain ⟨b, e3, hid, k1, k2, _⟩ := seti_ok rh h0
        obtain ⟨b2, e4, _, k3, k4, m1, u1, r1⟩ := seti_ok rh h1
        rw [e3] at h6 e4
        simp only [Value.pointer.injEq, Option.some.injEq, Addr.mk.injEq, and_true] at h6 e4
        obtain ⟨rfl, rfl⟩ := h6
        subst e4
        obtain ⟨g1, g2⟩ := LL_at hcv
        rw [Nat.zero_add]
        refine (ho.run b off g cv.toArray w (fun w' => ∃ s' m' x, Up m m' ∧ RelH w0 G0 s' m' w' ∧ RV m' x (.tuple #[]) ∧ K s' x) hco k1 k3 k2 k4 ?_).mono ?_
        · refine (hc w0 G0 g caps s1 _ m1 _ cv r1 g1 (fun i x hi => by obtain ⟨v, q1, q2⟩ := g2 i x hi; exact ⟨v, q1, L_RV (q2.up u1)⟩) h).mono ?_
          rintro e w2 ⟨v, rfl, s2, m2, x, u2, r2, hx, hK⟩
          split at hK
          · split at hK
            · rename_i s5 s3 h5 h3
              split at hK
              · rename_i s4 h4
                have u := u1.trans u2
                have eν : m2.ν id = .pointer (some ⟨b, 0, none⟩) := (u.ν _ hid).trans e3
                obtain ⟨b5, e5, _, c1, c2, _⟩ := seti_ok r2 h5
                obtain ⟨b3, e6, _, c3, c4, _⟩ := seti_ok r2 h3
                obtain ⟨b3', e6', hid2, _, _, m3, u3, r3⟩ := seti_ok r2.drew h3
                rw [eν] at e5 e6 e6'
                simp only [Value.pointer.injEq, Option.some.injEq, Addr.mk.injEq, and_true] at e5 e6 e6'
                subst e5 e6 e6'
                obtain ⟨b4, e7, _, _, _, m4, u4, r4⟩ := seti_ok r3 h4
                rw [u3.ν _ hid2, eν] at e7
                simp only [Value.pointer.injEq, Option.some.injEq, Addr.mk.injEq, and_true] at e7
                subst e7
                obtain ⟨vs, hx, hx2⟩ := hx
                have hx2 : vs = [] := hx2
                subst hx2
                exact ⟨by rw [hx], c3, c1, c4, c2, s4, m4, .tup [], (u.trans u3).trans u4, r4, ⟨[], rfl, rfl⟩, hK⟩
              · exact hK.elim
            · exact hK.elim
          · exact hK.elim
        · rintro e w' ⟨rfl, s', m', x, u, r', hx, hK⟩
          exact ⟨_, rfl, s', m', x, u, r', hx, hK⟩
      · split at h
        · rename_i s0 h0
          obtain ⟨v1, a1, b1⟩ := hv 0 _ rfl
          obtain ⟨v2, a2, b2⟩ := hv 1 _ rfl
          obtain ⟨_, b', o', h6, b1⟩ := leaf_L rfl b1
          subst b1
          have hvl : vs = [.pointer (some ⟨b', o' + off, none⟩), v2] := by
            match vs, hl with
            | [p, q], _ => simp at a1 a2; rw [a1, a2]
          subst hvl
          obtain ⟨b, e3, hid, k1, k2, _⟩ := seti_ok rh h0
          rw [e3] at h6
          simp only [Value.pointer.injEq, Option.some.injEq, Addr.mk.injEq, and_true] at h6
          obtain ⟨rfl, rfl⟩ := h6
          rw [Nat.zero_add]
          refine (ho.done b off v2 w k1).mono ?_
          rintro e w' ⟨rfl, rfl⟩
          exact ⟨_, rfl, s, m, .tup [], Up.refl m, rh, ⟨[], rfl, rfl⟩, h⟩
        · exact h.elim
    · exact h.elim
variable (F : DF E) (Z : ZF P E)
/-- A function keeps its promise; calls as told. -/
theorem OCon.proveH {c : OCon E} {H : CL E c.ash → EL E c.es → Nat → Nat → Option (Hint E)} {call : CL E c.ash → EL E c.es → CallH E} (hc : ∀ a e, CallAll P (call a e)) {f : Nat} {T : Prop} (t : T)
    (h : T = (∀ a e, c.holds a e → inH F Z (H a e) (call a e) f (opnA F c.es (List.range c.es.length) c.ash a) (ocS F c e) (fun s x => finO F c s x = some (c.post a e))) := by kernel_rfl) : c.ok F P f := by
  replace h := h.mp t
  intro a e w0 G0 m w vs hp rh hv
  obtain ⟨g1, g2⟩ := LV_at hv
  exact inH_ok F Z (hc a e) w0 G0 f _ _ _ m w vs rh g1 (fun i x hi => by obtain ⟨v, h1, h2⟩ := g2 i x hi; exact ⟨v, h1, V1_RV h2⟩) (h a e hp)
/-- .. of one shape, or the other. -/
theorem OCon.proveHS2 {ι κ : Type} {c : OCon E} (sh : ι → CL E c.ash × EL E c.es) (sk : κ → CL E c.ash × EL E c.es) (hs : ∀ a e, c.holds a e → (∃ i, (a, e) = sh i) ∨ (∃ i, (a, e) = sk i)) {H : ι → Nat → Nat → Option (Hint E)} {H2 : κ → Nat → Nat → Option (Hint E)} {call : CallH E} (hc : CallAll P call) {f : Nat} {T T2 : Prop} (t : T) (t2 : T2)
    (h : T = (∀ i, inH F Z (H i) call f (opnA F c.es (List.range c.es.length) c.ash (sh i).1) (ocS F c (sh i).2) (fun s x => finO F c s x = some (c.post (sh i).1 (sh i).2))) := by kernel_rfl)
    (h2 : T2 = (∀ i, inH F Z (H2 i) call f (opnA F c.es (List.range c.es.length) c.ash (sk i).1) (ocS F c (sk i).2) (fun s x => finO F c s x = some (c.post (sk i).1 (sk i).2))) := by kernel_rfl) : c.ok F P f := by
  replace h := h.mp t
  replace h2 := h2.mp t2
  intro a e w0 G0 m w vs hp rh hv
  obtain ⟨g1, g2⟩ := LV_at hv
  rcases hs a e hp with ⟨i, hi⟩ | ⟨i, hi⟩
  · obtain ⟨rfl, rfl⟩ := Prod.mk.inj hi
    exact inH_ok F Z hc w0 G0 f _ _ _ m w vs rh g1 (fun j x hj => by obtain ⟨v, h1, h2⟩ := g2 j x hj; exact ⟨v, h1, V1_RV h2⟩) (h i)
  · obtain ⟨rfl, rfl⟩ := Prod.mk.inj hi
    exact inH_ok F Z hc w0 G0 f _ _ _ m w vs rh g1 (fun j x hj => by obtain ⟨v, h1, h2⟩ := g2 j x hj; exact ⟨v, h1, V1_RV h2⟩) (h2 i)
/-- What a promise answers, where nothing turns. -/
def pcV (Γ : Nat → Option (Con E)) (f : Nat) (l : List (SV E)) (s : St E) : Option (SV E) := match Γ f with
  | some c => match c.pre with
    | some _ => none
    | none => match shutVs F s.bs c.ts (l.map (rsv s.hp)) with
      | some a => some (outV F c.rt (c.ret a))
      | none => none
  | none => none
theorem pcV_ok {Γ : Nat → Option (Con E)} (hΓ : ∀ f c, Γ f = some c → c.ok P f) : PcOk P (pcV F Γ) := by
  intro f l s x h w0 G0 m w vs rh hl hv
  unfold pcV at h
  split at h
  · rename_i c hc
    split at h
    · cases h
    · rename_i hpre
      split at h
      · rename_i a ha
        simp only [Option.some.injEq] at h
        subst h
        obtain ⟨bl, L, hC, hB, hH⟩ := rh.bx
        rw [← rh.bs] at ha
        have hIs := shutVs_ok F ha (vs := vs) (by rw [List.length_map]; exact hl) fun i x hi => by
          rw [List.getElem?_map] at hi
          obtain ⟨y, hy, rfl⟩ := Option.map_eq_some_iff.1 hi
          obtain ⟨v, h1, h2⟩ := hv i y hy
          exact ⟨v, h1, h2.rsv hH⟩
        refine Calls.mono (hΓ f c hc a m.G w vs rh.holds (by unfold Con.holds; rw [hpre]; trivial) hIs) ?_
        rintro e w' ⟨v, G', he, hk, hR⟩
        have u : Up m (m.g G') := Mn.g_up hk.gle
        exact ⟨v, he, m.g G', u, ⟨⟨bl, L, hC.trans hk, hB.ext hk, hH.up u⟩, rh.n, rh.bs⟩, outV_ok (m := m.g G') hR⟩
      · cases h
  · cases h
variable {F} in
/-- Tests side by side, with calls by promise. -/
def ZF.side (Z : ZF P E) {Γ : Nat → Option (Con E)} {Δ : Nat → Option (OCon E)} (h : Kept F P Γ Δ) : ZF P E := { Z with pc := pcV F Γ, pcok := pcV_ok F h.g, mg := true }
/-- What is known to be passed over, passed over ahead. -/
def ZF.skip (Z : ZF P E) : ZF P E := { Z with sk := true }
/-- One of two ways, by the arguments. -/
def altH (p : Nat → List (SV E) → Bool) (h1 h2 : CallH E) : CallH E := fun f l s K => bif p f l then h1 f l s K else h2 f l s K
theorem altH_ok {p : Nat → List (SV E) → Bool} {h1 h2 : CallH E} (k1 : CallAll P h1) (k2 : CallAll P h2) : CallAll P (altH p h1 h2) := by
  intro w0 G0 f args s K m w vs rh hl hv h
  unfold altH at h
  cases hp : p f args with
  | true => rw [hp] at h; exact k1 w0 G0 f args s K m w vs rh hl hv h
  | false => rw [hp] at h; exact k2 w0 G0 f args s K m w vs rh hl hv h
/-- Calls by promise, else in place; some by another promise, by the arguments. -/
def callsA (p : Nat → List (SV E) → Bool) (Γ : Nat → Option (Con E)) (Δ1 Δ : Nat → Option (OCon E)) (H : Nat → Nat → Option (Hint E)) : Nat → CallH E
  | 0 => altH p (oconH F Δ1 noH) (conH F Γ (oconH F Δ noH))
  | n + 1 => altH p (oconH F Δ1 noH) (conH F Γ (oconH F Δ (inH F Z H (callsA p Γ Δ1 Δ H n))))
theorem callsA_ok {p : Nat → List (SV E) → Bool} {Γ : Nat → Option (Con E)} {Δ1 Δ : Nat → Option (OCon E)} (h1 : Kept F P noC Δ1) (h : Kept F P Γ Δ) {H : Nat → Nat → Option (Hint E)} : ∀ n, CallAll P (callsA F Z p Γ Δ1 Δ H n)
  | 0 => altH_ok (oconH_ok F h1.d noH_ok) (conH_ok F h.g (oconH_ok F h.d noH_ok))
  | n + 1 => altH_ok (oconH_ok F h1.d noH_ok) (conH_ok F h.g (oconH_ok F h.d (inH_ok F Z (callsA_ok h1 h n))))
theorem Con.proveH {c : Con E} {H : HL E c.ts → Nat → Nat → Option (Hint E)} {call : HL E c.ts → CallH E} (hcall : ∀ a, CallAll P (call a)) {f : Nat} {T : Prop} (t : T) (h : T = (∀ a, c.holds a → inH F Z (H a) (call a) f (opnVs F c.ts a) {} (fun s x => finV F c.rt s x = some (c.ret a))) := by kernel_rfl) : c.ok P f := by
  replace h := h.mp t
  intro a G w vs hw hp hv
  have hl : ∀ {ts : List Ty} {a : HL E ts} {vs : List Value}, IsVs G ts a vs → (opnVs F ts a).length = vs.length := by
    intro ts
    induction ts with
    | nil => intro a vs h; have h : vs = _ := h; subst h; rfl
    | cons t r ih => rintro a vs ⟨v, us, rfl, _, h2⟩; simp [opnVs, ih h2]
  have rh : RelH w G ({} : St E) ⟨G, fun _ => undef, 0, [], fun _ => .box 0 [], fun _ => [], fun _ => []⟩ w := ⟨⟨[], [], Cx.refl hw, Bxs.nil _ _ _, rfl, rfl⟩, rfl, rfl⟩
  have := inH_ok F Z (hcall a) w G f (opnVs F c.ts a) {} _ _ w vs rh (hl hv) (fun i x hx => opnVs_ok F (m := ⟨G, fun _ => undef, 0, [], fun _ => .box 0 [], fun _ => [], fun _ => []⟩) hv i x hx) (h a hp)
  refine this.mono ?_
  rintro e w' ⟨v, he, s', m', x, u, rh', hx, hfin⟩
  unfold finV at hfin
  split at hfin
  · rename_i l
    split at hfin
    · rename_i s1 hs1
      obtain ⟨m1, u1, rh1, _, _⟩ := frzs_ok rh' hs1
      obtain ⟨bl, L, hC, hB, hH⟩ := rh1.bx
      obtain ⟨us, rfl, h0⟩ := hx
      have h1 := h0.up u1
      rw [← rh1.bs] at hfin
      refine ⟨_, m1.G, he, (mem_sub (b2 := []) (L2 := []) hC hB (List.Perm.refl _) (List.Perm.refl _)).1, shutO_ok (F := F) hfin ⟨us, rfl, ?_⟩⟩
      clear he hs1 h0 hfin
      induction l generalizing us with
      | nil => exact h1
      | cons a l ih =>
        obtain ⟨v, us', rfl, g1, g2⟩ := h1
        exact ⟨v, us', rfl, V1.fin hH g1, ih us' g2⟩
    · cases hfin
  · split at hfin
    · rename_i s1 hs1
      obtain ⟨m1, u1, rh1, _, _⟩ := frz_ok rh' hs1
      obtain ⟨bl, L, hC, hB, hH⟩ := rh1.bx
      rw [← rh1.bs] at hfin
      exact ⟨v, m1.G, he, (mem_sub (b2 := []) (L2 := []) hC hB (List.Perm.refl _) (List.Perm.refl _)).1, shutO_ok (F := F) hfin ((hx.up u1).rsv hH).res⟩
    · cases hfin
end Go.Vz
