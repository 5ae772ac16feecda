/- A part of the proof. No condition. -/
import Derived.Test.YtpbcabanpppfoaaGreatA2
import Derived.Laws.BytesString
set_option linter.all false
namespace Go.Vz
open Go Go.Gx
variable {E : DE} (F : DF E) (P : Program)
def c2v (P : Program) (t : Nat) : Option Nat := (P.info? t).map (·.size)
def b2j (P : Program) (l : List (SV E)) (o t : Nat) : Option (SV E) := match c2v P t with
 | none => none
 | some n => bif a5k P t n then match seg l o n with | some r => some (b3g r) | none => none
  else bif a0h P t then match seg l o 1 with | some [x] => bif a2f x then some x else none | _ => none else none
def d1p (s : St E) (z : Int) : Option Operand -> Option Int
 | none => some z
 | some y => match opd s y with
  | some b => match asI b with
   | some (_, n) => some n
   | none => none
  | none => none
def a4c (P : Program) (t : Nat) : Option Nat := match P.underlying t with | some (.slice e) => some e | _ => none
def a6z (P : Program) (t : Nat) : Bool := match P.underlying t with | some .string => true | _ => false
def c2d (l : List UInt8) : Dig := if h : 32 <= l.length then ⟨l.take 32, by rw [C4]; omega⟩ else Dig.zero
def c2w (P : Program) (T : Nat) (name : String) : Option Nat := match P.info? T, P.underlying T with
 | some i, some (.pointer _) => match i.methods.find? (·.name == name) with
  | some m => match m.path.toList, m.func with
   | [], some (f, true) => some f
   | _, _ => none
  | none => none
 | _, _ => none
def d4d (P : Program) (s : St E) (t id off : Nat) (lo hi : Option Operand) : Option (Res E) := match P.underlying t with
 | some (.array n el) => match d1p s 0 lo, d1p s (n : Int) hi with
  | some l, some h => bif a2y P t n el 1 then some (.need (decide (0 <= l) && (decide (l <= h) && (decide (h <= (n : Int)) && decide (l < (n : Int))))) (.vsl id off n l.toNat (h.toNat - l.toNat))) else none
  | _, _ => none
 | _ => none
def ev2 (s : St E) : Op -> Option (Res E)
 | .unOp .neg _ x => match opd s x with
  | some a => match asI a with | some (k, n) => some (.val (mkI k (k.wrap (0 - n)))) | none => none
  | none => none
 | .unOp .xor _ x => match opd s x with
  | some a => match asI a with | some (k, n) => some (.val (mkI k (a3e .xor k (if k.signed then -1 else k.max) n))) | none => none
  | none => none
 | .index t x y => match opd s x, opd s y with
  | some (.str l), some b => match asI b with
   | some (_, n) => bif a6z P t then some (.need (decide (0 <= n) && decide (n < (l.length : Int))) (.u8 (l.getD n.toNat 0))) else none
   | none => none
  | some (.agg l), some b => match asI b, P.underlying t with
   | some (_, n), some (.array len el) => match c2v P el with
    | some sz => match b2j P l (n.toNat * sz) el with
     | some x => some (.need (decide (0 <= n) && decide (n < (len : Int))) x)
     | none => none
    | none => none
   | _, _ => none
  | some (.dig d), some b => match asI b with
   | some (_, n) => bif q0 P t then some (.need (decide (0 <= n) && decide (n < 32)) (.u8 (d.l.getD n.toNat 0))) else none
   | none => none
  | some (.vec k n l), some b => match asI b, f2i P t with
   | some (_, i), some el => bif a2y P t n el 1 && a0h P el then some (.need (decide (0 <= i) && decide (i < (n : Int))) (.i k (l.getD i.toNat 0))) else none
   | _, _ => none
  | _, _ => none
 | .slice t x lo hi none => match opd s x with
  | some (.sl u xs) => match a4c P t, d1p s 0 lo, d1p s (xs.length : Int) hi with
   | some el, some l, some h => bif x6 P t el ((Ty.rp E u).sz) then some (.need (decide (0 <= l) && (decide (l <= h) && decide (h <= (xs.length : Int)))) (.sl u ((xs.take h.toNat).drop l.toNat))) else none
   | _, _, _ => none
  | some (.ptr id off) => match lo, hi with
   | none, none => bif q0 P t then some (.val (.vw id off)) else d4d P s t id off none none
   | lo, hi => d4d P s t id off lo hi
  | some (.elm u x off) => match lo, hi, a0u off (opn F u x) with
   | none, none, some (.dig d :: _) => bif q0 P t then some (.val (.sl .u8 d.l)) else none
   | _, _, _ => none
  | _ => none
 | .convert a b x => match opd s x with
  | some (.sl u xs) => match Ty.to (fun t => List (t.den E)) u .u8 xs with
   | some ys => match P.underlying a, P.underlying b with
    | some (.slice e), some .string => match P.underlying e with | some (.int .u8) => some (.val (.str ys)) | _ => none
    | _, _ => none
   | none => none
  | some (.str ys) => bif a6z P b && (P.underlying a).isSome then some (.val (.str ys)) else none
  | _ => none
 | .sliceToArrayPointer t x => match opd s x with
  | some (.sl u xs) => match Ty.to (fun t => List (t.den E)) u .u8 xs with
   | some ys => bif q0 P t then some (.need (decide (32 <= ys.length)) (.elm .dig (c2d ys) 0)) else none
   | none => none
  | _ => none
 | .makeInterface T x => match opd s x with
  | some (.ptr id off) => match P.underlying T with | some (.pointer _) => some (.val (.ifc T id off)) | _ => none
  | _ => none
 | .makeFunc (.method name) a b => match a.toList, b.toList with
  | [x], [] => match opd s x with | some y => bif a2f y then some (.val (.mth y name)) else none | none => none
  | _, _ => none
 | .nilCheck x => match opd s x with
  | some (.mth (.ifc T id off) name) => match c2w P T name with | some _ => some (.val (.mth (.ifc T id off) name)) | none => none
  | some (.ifc T id off) => some (.val (.ifc T id off))
  | _ => none
 | .binOp op t x y _ => match opd s x, opd s y with
  | some (.str a), some (.str b) => match op with
   | .eql => bif a6z P t then some (.cmp (decide (a = b))) else none
   | .neq => bif a6z P t then some (.cmp (!decide (a = b))) else none
   | _ => none
  | _, _ => none
 | _ => none
section
variable {F P}
variable {m : Mn E} {N : Nat} {e : Env} {w w0 : World} {G0 : Gh} {s : St E} {W : World -> Prop}
def a7m {l : List (SV E)} {o t : Nat} {x : SV E} {cs : List Value} (h : b2j P l o t = some x) (hc : RC m l cs) :
  (∃ n r, a5k P t n = true /\ r = (cs.drop o).take n /\ r.length = n /\ RV m x (.agg r.toArray)) ∨ (a0h P t = true /\ ∃ v, cs[o]? = some v /\ RV m x v) := by
 unfold b2j at h
 split at h
 ·cases h
 ·rename_i n hn; cases hr : a5k P t n with
  | true =>
   rw [hr] at h; simp only [B5] at h; split at h
   ·rename_i r hs; cases h; obtain ⟨h1, h2⟩ := hc.seg hs; exact .inl ⟨n, _, hr, rfl, h2, a7j h1⟩
   ·cases h
  | false =>
   rw [hr] at h; cases ho : a0h P t with
   | false => rw [ho] at h; cases h
   | true =>
    rw [ho] at h; simp only [B8, B5] at h; split at h
    ·rename_i y hs; cases hlf : a2f y with
     | false => rw [hlf] at h; cases h
     | true =>
     rw [hlf] at h; simp only [B5, A3] at h; subst h; obtain ⟨h1, h2⟩ := hc.seg hs; have hl : ∃ v, (cs.drop o).take 1 = [v] /\ RV m y v := by
      obtain ⟨v, e1, e2⟩ := h1.one_.leaf_ hlf; exact ⟨v, e1, a0x hlf e2⟩
     obtain ⟨v, e1, e2⟩ := hl; refine .inr ⟨rfl, v, ?_, e2⟩; have := congrArg (·[0]?) e1; simpa [J2] using this
    ·cases h
def g2c {t : TypeId} {x : Operand} {k : IntKind} {n : Int} (hx : opv e x = some (.int k n)) {d ty pos af gd} : j9 P N e w ⟨d, .unOp .neg t x, ty, pos, af, gd⟩ (.int k (k.wrap (0 - n))) := fun a ha => by
 simp [execOp, ha.eval hx, Op.unary, Op.intArith]
def g2d {t : TypeId} {x : Operand} {k : IntKind} {n : Int} (hx : opv e x = some (.int k n)) {d ty pos af gd} : j9 P N e w ⟨d, .unOp .xor t x, ty, pos, af, gd⟩ (.int k (a3e .xor k (if k.signed then -1 else k.max) n)) := fun a ha => by
 simp [execOp, ha.eval hx, Op.unary, Op.intBits, a3e]
def c8h {t el sz : Nat} {x : Operand} {lo hi : Option Operand} {A : Option Addr} {n cap l h : Nat} (ht : x6 P t el sz = true) (hx : opv e x = some (.slice A n cap))
  (hlo : (lo = none /\ l = 0) ∨ ∃ y k, lo = some y /\ opv e y = some (.int k (l : Int))) (hhi : (hi = none /\ h = n) ∨ ∃ y k, hi = some y /\ opv e y = some (.int k (h : Int))) (h1 : l <= h) (h2 : h <= cap) {d ty pos af gd} :
  j9 P N e w ⟨d, .slice t x lo hi none, ty, pos, af, gd⟩ (.slice (if cap = l then A else A.map (·.add (l * sz))) (h - l) (cap - l)) := fun a ha => by
 unfold x6 at ht
 rw [A7] at ht
 obtain ⟨g1, g2⟩ := ht
 revert g1
 split
 ·rename_i e' hu; intro g1; rw [<- A8 g1] at hu; cases hq : P.info? el with
  | none => simp [hq] at g2
  | some tinf =>
   rw [hq] at g2; have hz := A8 g2; have hb : (0 : Int) <= (h : Int) /\ (h : Int) <= (cap : Int) := by omega
   have hA : (A.map fun x => x.add 0) = A := by cases A <;> simp [Addr.add]
   have hc : (l : Int) <= (h : Int) := by omega
   rcases hlo with ⟨rfl, rfl⟩ | ⟨y, k, rfl, hy⟩
   ·rcases hhi with ⟨rfl, rfl⟩ | ⟨y', k', rfl, hy'⟩
    ·simp [execOp, ha.eval hx, Instr.sliceAt, Instr.slice, run_underlying hu, Instr.sliceBounds, sizeOf, typeInfo, hq, hz]
    ·simp [execOp, ha.eval hx, ha.eval hy', Instr.sliceAt, Instr.slice, run_underlying hu, Instr.sliceBounds, Instr.sliceBound, asIntOf, sizeOf, typeInfo, hq, hz, h2]
   ·rcases hhi with ⟨rfl, rfl⟩ | ⟨y', k', rfl, hy'⟩
    ·simp [execOp, ha.eval hx, ha.eval hy, Instr.sliceAt, Instr.slice, run_underlying hu, Instr.sliceBounds, Instr.sliceBound, asIntOf, sizeOf, typeInfo, hq, hz, h1]
    ·simp [execOp, ha.eval hx, ha.eval hy, ha.eval hy', Instr.sliceAt, Instr.slice, run_underlying hu, Instr.sliceBounds, Instr.sliceBound, asIntOf, sizeOf, typeInfo, hq, hz, h1, h2]
 ·intro h; cases h
def f4v {α : Type} [Rp α] {G : Gh} {A : Option Addr} {n cap l h : Nat} {xs : List α} (hs : Sl G (.slice A n cap) xs) (h1 : l <= h) (h2 : h <= xs.length) :
  Sl G (.slice (if cap = l then A else A.map (·.add (l * Rp.sz α))) (h - l) (cap - l)) ((xs.take h).drop l) :=
 Sl.drop (hs.take h2) (by rw [C4, J0 h2]; exact h1)
def b3k (r : Rel w0 G0 s m e w) {z n : Int} {y : Option Operand} (h : d1p s z y = some n) : (y = none /\ n = z) ∨ ∃ y' k, y = some y' /\ opv e y' = some (.int k n) := by
 unfold d1p at h
 split at h
 ·simp only [A3] at h; exact .inl ⟨rfl, h.symm⟩
 ·rename_i y'; split at h
  ·rename_i b hb; split at h
   ·rename_i k n' hk; cases h; obtain ⟨v, h1, h2⟩ := d8 r hb; have := a2u hk h2; subst this; exact .inr ⟨y', k, rfl, h1⟩
   ·cases h
  ·cases h
def Sl.ofDigO {G : Gh} {b o : Nat} {x : Dig} (h : a4k G b o x.cells) : Sl G (.slice (some ⟨b, o, none⟩) 32 32) x.l := by
 refine ⟨_, 32, by rw [x.h], by rw [x.h]; exact B9 _, by rw [x.h]; unfold d4; omega, fun k u hk => ⟨b, o, [.int .u8 (u.toNat : Int)], rfl, ?_, rfl⟩⟩
 have := h.part (i := k) (m := 1) (part := [.int .u8 (u.toNat : Int)]) (by
  obtain ⟨hlt, he⟩ := C8.1 hk; unfold Dig.cells; rw [<- Bq, <- Az, G9 hlt, he]
  simp)
 simpa [Rp.sz] using this
def b7x {t : Nat} (h : a6z P t = true) : P.underlying t = some .string := by
 unfold a6z at h; split at h <;> first | assumption | cases h
def e8d {t yt : TypeId} {x y : Operand} {a b : List UInt8} (ht : P.underlying t = some .string) (hx : opv e x = some (a4y a)) (hy : opv e y = some (a4y b)) {d ty pos af gd} : j9 P N e w ⟨d, .binOp .eql t x y yt, ty, pos, af, gd⟩ (.bool (decide (a = b))) := fun ac ha => by
 have hg : (eqGuard .eql t x y (.string ⟨a.toArray⟩) (.string ⟨b.toArray⟩)).run P w = .ok () w := rfl
 have hb : (a == b) = decide (a = b) := by rw [J9]; simp
 simp [execOp, ha.eval hx, ha.eval hy, a4y, hg, binOp, Op.stringOp, hb, bne]
def e8e {t yt : TypeId} {x y : Operand} {a b : List UInt8} (ht : P.underlying t = some .string) (hx : opv e x = some (a4y a)) (hy : opv e y = some (a4y b)) {d ty pos af gd} : j9 P N e w ⟨d, .binOp .neq t x y yt, ty, pos, af, gd⟩ (.bool (!decide (a = b))) := fun ac ha => by
 have hg : (eqGuard .neq t x y (.string ⟨a.toArray⟩) (.string ⟨b.toArray⟩)).run P w = .ok () w := rfl
 have hb : (a == b) = decide (a = b) := by rw [J9]; simp
 simp [execOp, ha.eval hx, ha.eval hy, a4y, hg, binOp, Op.stringOp, hb, bne]
def d1q (l : List UInt8) : ∀ (s : ByteArray), ((l.map fun b => ((b.toNat : Nat) : Int)).foldl (fun r n => r.push (UInt8.ofNat n.toNat)) s) = ⟨s.data ++ l.toArray⟩ := by
 induction l with
 | nil => intro s; cases s; simp
 | cons x l ih =>
  intro s; simp only [C9, X0]; rw [ih]; cases s; simp [ByteArray.push]
def d7y {G : Gh} {v : Value} {xs : List UInt8} (h : Sl G v xs) (hh : Holds G w) : (Conv.bytesToString v).run P w = .ok (a4y xs) w := by
 obtain ⟨A, cap, rfl, h2, h3, h4⟩ := h
 cases A with
 | none =>
  cases xs with
  | nil => rfl
  | cons x r =>
   obtain ⟨b, o, row, hA, _⟩ := h4 0 x rfl; cases hA
 | some a =>
  cases xs with
  | nil =>
   have hl : (loadCells a 0).run P w = .ok #[] w := by simpa using run_loadCells_list (P := P) (w := w) a [] (by simp)
   rw [show ([] : List UInt8).length = 0 from rfl]; exact run_bytesToString w a 0 cap [] (by simpa using hl)
  | cons y r =>
   generalize hxs : y :: r = xs at h2 h3 h4; have hl : (loadCells a xs.length).run P w = .ok ((xs.map fun b => ((b.toNat : Nat) : Int)).map (Value.int .u8)).toArray w := by
    have := run_loadCells_list (P := P) (w := w) a ((xs.map fun b => ((b.toNat : Nat) : Int)).map (Value.int .u8)) (fun j v hj => by
     rw [O1, C7] at hj; obtain ⟨x, hx, rfl⟩ := D8.1 hj; obtain ⟨b, o, row, hA, hrow, hrx⟩ := h4 j x hx; injection hA with hA
     subst hA; have hrx : row = [.int .u8 (x.toNat : Int)] := hrx; subst hrx; have := a4k.cell hh hrow (show [Value.int .u8 (x.toNat : Int)][0]? = some _ from rfl); rw [Addr.add_mid]; simpa [Rp.sz] using this)
    simpa using this
   rw [run_bytesToString w a xs.length cap _ hl, d1q]; unfold a4y; simp
def b9b {T f : Nat} {name : String} (h : c2w P T name = some f) (v : Value) (w : World) (n : Nat) : (method (n + 1) T v name).run P w = .ok (f, v) w /\ (nilAhead (n + 1) T v name).run P w = .ok (some false) w := by
 unfold c2w at h
 split at h
 ·rename_i i el hi hu; split at h
  ·rename_i mm hm; split at h
   ·rename_i f' hp hf; cases h; constructor
    ·simp [method, typeInfo, hi, hm, hp, hf, follow, receiverAt, run_underlying hu, Place.get]
    ·simp [nilAhead, typeInfo, hi, hm, hp, hf, followBlind]
   ·cases h
  ·cases h
 ·cases h
def f4w {recv : Operand} {name : String} {T f : Nat} {p : Value} {xs : List Operand} {vs : List Value} {ats : Array TypeId} (hm : c2w P T name = some f) (hx : opv e recv = some (.iface T p)) (hf : a1h P f = true) (hvs : a4w e xs = some vs)
  {R : Value -> World -> Prop} (hc : Calls P f (p :: vs).toArray w fun e w' => ∃ v, e = .returned v /\ R v w') {d ty pos af gd} :
  c2m P N e w ⟨d, .call ⟨.invoke recv name, xs.toArray, ats⟩, ty, pos, af, gd⟩ R := by
 intro a ha
 unfold OpR
 have hev := ha.evals hvs
 have hme : (method (P.types.size + Made.depth) T p name).run P w = .ok (f, p) w := by
  have : P.types.size + Made.depth = (P.types.size + (Made.depth - 1)) + 1 := by
   have : 0 < Made.depth := by decide
   omega
  rw [this]; exact (b9b hm p w _).1
 have h1 : (execOp a.eval ⟨d, .call ⟨.invoke recv name, xs.toArray, ats⟩, ty, pos, af, gd⟩).run P w = .ok (.enter f (p :: vs).toArray) w := by
  simp only [execOp, resolve, ha.eval hx, hev, Sem.run_bind, Sem.run_pure, Result.andThen_ok, invoke]; simp [callMethod, hme, a4x hf]
 rw [h1]
 exact hc
def e8f {g : Operand} {name : String} {T f : Nat} {p : Value} {xs : List Operand} {vs : List Value} {ats : Array TypeId} (hm : c2w P T name = some f) (hx : opv e g = some (.func (.method name) #[.iface T p] #[])) (hf : a1h P f = true) (hvs : a4w e xs = some vs)
  {R : Value -> World -> Prop} (hc : Calls P f (p :: vs).toArray w fun e w' => ∃ v, e = .returned v /\ R v w') {d ty pos af gd} :
  c2m P N e w ⟨d, .call ⟨.value g, xs.toArray, ats⟩, ty, pos, af, gd⟩ R := by
 intro a ha
 unfold OpR
 have hev := ha.evals hvs
 have hme : (method (P.types.size + Made.depth) T p name).run P w = .ok (f, p) w := by
  have : P.types.size + Made.depth = (P.types.size + (Made.depth - 1)) + 1 := by
   have : 0 < Made.depth := by decide
   omega
  rw [this]; exact (b9b hm p w _).1
 have h1 : (execOp a.eval ⟨d, .call ⟨.value g, xs.toArray, ats⟩, ty, pos, af, gd⟩).run P w = .ok (.enter f (p :: vs).toArray) w := by
  simp only [execOp, resolve, ha.eval hx, hev, Deferred.ofValue, Sem.run_bind, Sem.run_pure, Result.andThen_ok, invoke]; simp [callMethod, hme, a4x hf]
 rw [h1]
 exact hc
def f4x {t : Nat} (h : q0 P t = true) : ∃ el, P.underlying t = some (.array 32 el) := by
 unfold q0 at h
 split at h
 ·exact ⟨_, by assumption⟩
 ·cases h
def c8i (r : Rel w0 G0 s m e w) {t id off : Nat} {x : Operand} {lo hi : Option Operand} {q : Res E} (ha : opd s x = some (.ptr id off)) (h : d4d P s t id off lo hi = some q) : q.ok P m N e W (.slice t x lo hi none) := by
 unfold d4d at h
 split at h
 ·rename_i n el _; split at h
  ·rename_i l hh hlo hhi; cases ht : a2y P t n el 1 with
   | false => rw [ht] at h; cases h
   | true =>
    rw [ht] at h; simp only [B5, A3] at h; subst h; obtain ⟨v, h1, h2⟩ := d8 r ha; obtain ⟨g1, b, o, g2, rfl⟩ := d6 rfl h2; intro hc; simp only [A7, C6] at hc; obtain ⟨c1, c2, c3, c4⟩ := hc; obtain ⟨l, rfl⟩ := I5 c1; obtain ⟨hh, rfl⟩ := I5 (a := hh) (by omega); have hlh : l <= hh := by omega
    refine ⟨_, a0x rfl ⟨g1, by simp; omega, by simp; omega, b, o, g2, rfl⟩, fun w hw d ty pos af gd => ?_⟩
    refine c8g (l := l) (h := hh) ht h1 ?_ ?_ hlh (by omega) (by omega)
    ·rcases b3k r hlo with ⟨e1, e2⟩ | ⟨y, k, e1, e2⟩
     ·exact .inl ⟨e1, by omega⟩
     ·exact .inr ⟨y, k, e1, e2⟩
    ·rcases b3k r hhi with ⟨e1, e2⟩ | ⟨y, k, e1, e2⟩
     ·exact .inl ⟨e1, by omega⟩
     ·exact .inr ⟨y, k, e1, e2⟩
  ·cases h
 ·cases h
def e0n (r : Rel w0 G0 s m e w) (hW : ∀ w, W w -> Holds m.G w) {op : Op} {q : Res E} (h : ev2 F P s op = some q) : q.ok P m N e W op := by
 unfold ev2 at h
 split at h
 ·split at h
  ·rename_i a ha; split at h
   ·rename_i k n hk; cases h; obtain ⟨v, h1, h2⟩ := d8 r ha; have := a2u hk h2; subst this; exact ⟨_, a4l, fun w hw d ty pos af gd => g2c h1⟩
   ·cases h
  ·cases h
 ·split at h
  ·rename_i a ha; split at h
   ·rename_i k n hk; cases h; obtain ⟨v, h1, h2⟩ := d8 r ha; have := a2u hk h2; subst this; exact ⟨_, a4l, fun w hw d ty pos af gd => g2d h1⟩
   ·cases h
  ·cases h
 ·split at h
  ·rename_i l b ha hb; split at h
   ·rename_i k n hk; cases ht : a6z P _ with
    | false => rw [ht] at h; cases h
    | true =>
     rw [ht] at h; simp only [B5, A3] at h; subst h; obtain ⟨v, h1, h2⟩ := d8 r ha; obtain ⟨u, h3, h4⟩ := d8 r hb; have := a2u hk h4; subst this; have h2 : v = _ := d6 rfl h2; subst h2; intro hc; simp only [A7, C6] at hc; obtain ⟨i, rfl⟩ := I5 hc.1; have hlt : i < l.length := by omega
     refine ⟨_, (rfl : _ = _), fun w hw d ty pos af gd => d1i (b7x ht) h1 h3 ⟨l[i], ?_, ?_⟩⟩
     ·show (ByteArray.mk l.toArray)[i]? = some l[i]; have hs : i < (ByteArray.mk l.toArray).size := by simpa [ByteArray.size] using hlt
      rw [getElem?_pos (ByteArray.mk l.toArray) i hs]
      rfl
     ·simp [B3, B2 hlt]
   ·cases h
  ·rename_i l b ha hb; split at h
   ·rename_i k n len el hk hu; split at h
    ·rename_i sz hsz; split at h
     ·rename_i z hz; cases h; obtain ⟨v, h1, cs, rfl, h2⟩ := d8 r ha; obtain ⟨u, h3, h4⟩ := d8 r hb; have := a2u hk h4; subst this; intro hc; simp only [A7, C6] at hc; obtain ⟨c1, c2⟩ := hc; have hsz' : ∀ w : World, (sizeOf el).run P w = .ok sz w := fun w => a3l hsz w
      rcases a7m hz h2 with ⟨n', row, e1, e2, e3, e4⟩ | ⟨e1, u, e2, e3⟩
      ·refine ⟨_, e4, fun w hw d ty pos af gd a ha' => ?_⟩; have hp := a3d (P := P) (t := el) (off := n.toNat * sz) (cs := cs.toArray) e1 w; have hx : cs.toArray.extract (n.toNat * sz) (n.toNat * sz + n') = row.toArray := by
        rw [e2]; simp [U6]
       rw [hx] at hp; simp [execOp, ha'.eval h1, ha'.eval h3, Instr.index, asIntOf, run_underlying hu, c1, c2, hsz', hp]
      ·refine ⟨_, e3, fun w hw d ty pos af gd a ha' => ?_⟩; have hp := o8 (P := P) (t := el) (off := n.toNat * sz) (cs := cs.toArray) (v := u) e1 (by simpa using e2) w; simp [execOp, ha'.eval h1, ha'.eval h3, Instr.index, asIntOf, run_underlying hu, c1, c2, hsz', hp]
     ·cases h
    ·cases h
   ·cases h
  ·rename_i d b ha hb; split at h
   ·rename_i k n hk; cases ht : q0 P _ with
    | false => rw [ht] at h; cases h
    | true =>
     rw [ht] at h; simp only [B5, A3] at h; subst h; obtain ⟨v, h1, h2⟩ := d8 r ha; obtain ⟨u, h3, h4⟩ := d8 r hb; have := a2u hk h4; subst this; have h2 : v = _ := h2; subst h2; intro hc; simp only [A7, C6] at hc; obtain ⟨i, rfl⟩ := I5 hc.1; have hlt : i < 32 := by omega
     exact ⟨_, (rfl : _ = _), fun w hw dd ty pos af gd => d1a (P := P) (N := N) (e := e) (w := w) (d := dd) (ty := ty) (pos := pos) (af := af) (gd := gd) ht h1 h3 hlt⟩
   ·cases h
  ·rename_i k n l b ha hb; split at h
   ·rename_i k' i el hk he; cases ht : a2y P _ n el 1 && a0h P el with
    | false => rw [ht] at h; cases h
    | true =>
     rw [ht] at h; simp only [B5, A3] at h; subst h; rw [A7] at ht; obtain ⟨v, h1, h2⟩ := d8 r ha; obtain ⟨u, h3, h4⟩ := d8 r hb; have := a2u hk h4; subst this; obtain ⟨rfl, hl⟩ := h2; intro hc; simp only [A7, C6] at hc; obtain ⟨i, rfl⟩ := I5 hc.1; exact ⟨_, (rfl : _ = _), fun w hw dd ty pos af gd => d1o ht.1 ht.2 h1 hl h3 (by omega)⟩
   ·cases h
  ·cases h
 ·split at h
  ·rename_i u xs ha; split at h
   ·rename_i el l hh' hel hlo hhi; cases ht : x6 P _ el (Ty.rp E u).sz with
    | false => rw [ht] at h; cases h
    | true =>
     rw [ht] at h; simp only [B5, A3] at h; subst h; obtain ⟨v, h1, h2⟩ := d8 r ha; have h2 : @Sl _ (Ty.rp E u) m.G v xs := d6 rfl h2; intro hc; simp only [A7, C6] at hc; obtain ⟨c1, c2, c3⟩ := hc; letI := Ty.rp E u; obtain ⟨A, cap, rfl⟩ := h2.form; obtain ⟨l, rfl⟩ := I5 c1; obtain ⟨hh', rfl⟩ := I5 (Z2 c1 c2); have c2 : l <= hh' := by omega
     have c3 : hh' <= xs.length := by omega
     refine ⟨_, a0x rfl (f4v h2 c2 c3), fun w hw d ty pos af gd => c8h ht h1 ?_ ?_ c2 (h2.capOf c3)⟩
     ·rcases b3k r hlo with ⟨e1, e2⟩ | ⟨y, k, e1, e2⟩
      ·exact .inl ⟨e1, by omega⟩
      ·exact .inr ⟨y, k, e1, e2⟩
     ·rcases b3k r hhi with ⟨e1, e2⟩ | ⟨y, k, e1, e2⟩
      ·exact .inl ⟨e1, by omega⟩
      ·exact .inr ⟨y, k, e1, e2⟩
   ·cases h
  ·rename_i id off ha; split at h
   ·cases ht : q0 P _ with
    | false => rw [ht] at h; exact c8i r ha h
    | true =>
     rw [ht] at h; simp only [B5, A3] at h; subst h; obtain ⟨v, h1, h2⟩ := d8 r ha; obtain ⟨g1, b, o, g2, rfl⟩ := d6 rfl h2; exact ⟨_, a0x rfl ⟨g1, b, o, g2, rfl⟩, fun w hw d ty pos af gd => b6l ht h1⟩
   ·exact c8i r ha h
  ·rename_i u x off ha; split at h
   ·rename_i dg tl hd; cases ht : q0 P _ with
    | false => rw [ht] at h; cases h
    | true =>
     rw [ht] at h; simp only [B5, A3] at h; subst h; obtain ⟨v, h1, h2⟩ := d8 r ha; obtain ⟨b, o, row, h3, h4, h5⟩ := d6 rfl h2; subst h3; obtain ⟨c1, c2, e1, e2, e3⟩ := (b8y F u x row h5).drop hd; have e2 : c1 = dg.cells := e2; subst e2; have h6 : a4k m.G b (o + off) dg.cells := h4.part (m := 32) (by rw [e1]; simp)
     exact ⟨_, a0x rfl (Sl.ofDigO h6), fun w hw d ty pos af gd => b6l ht h1⟩
   ·cases h
  ·cases h
 ·split at h
  ·rename_i u xs ha; split at h
   ·rename_i ys hys; split at h
    ·rename_i el hea hst; split at h
     ·rename_i he; cases h; obtain ⟨v, h1, h2⟩ := d8 r ha; have h2 := d6 rfl h2; have h3 : @Sl _ (Ty.rp E .u8) m.G v ys := Sl.to hys h2; refine ⟨a4y ys, rfl, fun w hw d ty pos af gd => ?_⟩; have hrun := d7y (P := P) (w := w) h3 (hW w hw); obtain ⟨A, cap, rfl⟩ := h3.form; intro a ha'; simp [execOp, ha'.eval h1, convert, run_underlying hea, run_underlying hst, run_underlying he, hrun]
     ·cases h
    ·cases h
   ·cases h
  ·rename_i ys ha; cases ht : a6z P _ && (P.underlying _).isSome with
   | false => rw [ht] at h; cases h
   | true =>
    rw [ht] at h; simp only [B5, A3] at h; subst h; rw [A7] at ht; obtain ⟨v, h1, h2⟩ := d8 r ha; have h2 : v = _ := d6 rfl h2; subst h2; obtain ⟨dd, hdd⟩ := S2.1 ht.2; refine ⟨a4y ys, rfl, fun w hw d ty pos af gd a ha' => ?_⟩; simp [execOp, ha'.eval h1, convert, run_underlying (b7x ht.1), run_underlying hdd, a4y]
  ·cases h
 ·split at h
  ·rename_i u xs ha; split at h
   ·rename_i ys hys; cases ht : q0 P _ with
    | false => rw [ht] at h; cases h
    | true =>
     rw [ht] at h; simp only [B5, A3] at h; subst h; obtain ⟨v, h1, h2⟩ := d8 r ha; have h2 := d6 rfl h2; have h3 : @Sl _ (Ty.rp E .u8) m.G v ys := Sl.to hys h2; intro hc; have hc := A6 hc; obtain ⟨A, cap, rfl, e1, e2, e3⟩ := h3; have hd : (c2d ys).l = ys.take 32 := by unfold c2d; rw [dif_pos hc]
     obtain ⟨b, o, row0, rfl, hrow0, _⟩ := e3 0 ys[0] (B2 (by omega)); obtain ⟨cs, T, fz, g1, _⟩ := hrow0; have hrow : a4k m.G b o (c2d ys).cells := ⟨cs, T, fz, g1, fun j u hj => by
      unfold Dig.cells at hj; rw [hd, C7] at hj; obtain ⟨y, hy, rfl⟩ := D8.1 hj; have hy' : ys[j]? = some y := by
       rw [J2] at hy; split at hy
       ·exact hy
       ·cases hy
      obtain ⟨b', o', row, hA, ⟨cs', T', fz', g2, g3⟩, hrx⟩ := e3 j y hy'; injection hA with hA
      injection hA with hA1 hA2
      subst hA1; subst hA2; rw [g1] at g2; injection g2 with g2; injection g2 with g2
      subst g2; have hrx : row = [.int .u8 (y.toNat : Int)] := hrx; subst hrx; have := g3 0 _ rfl; simpa [Rp.sz] using this⟩
     refine ⟨.pointer (some ⟨b, o, none⟩), a0x rfl ⟨b, o, _, rfl, hrow, rfl⟩, fun w hw d ty pos af gd a ha' => ?_⟩; obtain ⟨el, hu⟩ := f4x ht; have hlt : ¬ (ys.length < 32) := by omega
     simp [execOp, ha'.eval h1, Instr.arrayAt, run_underlying hu, hlt]
   ·cases h
  ·cases h
 ·split at h
  ·rename_i id off ha; split at h
   ·rename_i el hu; cases h; obtain ⟨v, h1, h2⟩ := d8 r ha; obtain ⟨g1, b, o, g2, rfl⟩ := d6 rfl h2; exact ⟨_, a0x rfl ⟨g1, b, o, g2, rfl⟩, fun w hw d ty pos af gd a ha' => by simp [execOp, ha'.eval h1, Instr.makeInterface, run_underlying hu]⟩
   ·cases h
  ·cases h
 ·rename_i name a b; split at h
  ·rename_i x hx hb; split at h
   ·rename_i y hy; cases hl : a2f y with
    | false => rw [hl] at h; cases h
    | true =>
     rw [hl] at h; simp only [B5, A3] at h; subst h; obtain ⟨v, h1, h2⟩ := d8 r hy; obtain rfl : a = #[x] := J5 hx; obtain rfl : b = #[] := J5 hb; exact ⟨.func (.method name) #[v] #[], ⟨v, rfl, d6 hl h2⟩, fun w hw d ty pos af gd => b8p (fun a ha => by simp [ha.eval h1]) (fun a ha => by simp)⟩
   ·cases h
  ·cases h
 ·split at h
  ·rename_i T id off name ha; split at h
   ·rename_i f hf; cases h; obtain ⟨v, h1, u, rfl, g1, b, o, g2, rfl⟩ := d8 r ha; refine ⟨_, ⟨_, rfl, g1, b, o, g2, rfl⟩, fun w hw d ty pos af gd a ha' => ?_⟩; have hme : (nilAhead (P.types.size + Made.depth) T (.pointer (some ⟨b, o + off, none⟩)) name).run P w = .ok (some false) w := by
     have : P.types.size + Made.depth = (P.types.size + (Made.depth - 1)) + 1 := by
      have : 0 < Made.depth := by decide
      omega
     rw [this]; exact (b9b hf _ w _).2
    simp [execOp, ha'.eval h1, hme]
   ·cases h
  ·rename_i T id off ha; cases h; obtain ⟨v, h1, h2⟩ := d8 r ha; have h3 := h2; obtain ⟨g1, b, o, g2, rfl⟩ := d6 rfl h2; exact ⟨_, h3, fun w hw d ty pos af gd a ha' => by simp [execOp, ha'.eval h1]⟩
  ·cases h
 ·split at h
  ·rename_i a b ha hb; obtain ⟨v, h1, h2⟩ := d8 r ha; obtain ⟨u, h3, h4⟩ := d8 r hb; have h2 : v = _ := d6 rfl h2; have h4 : u = _ := d6 rfl h4; subst h2 h4; split at h
   ·cases ht : a6z P _ with
    | false => rw [ht] at h; cases h
    | true =>
     rw [ht] at h; simp only [B5, A3] at h; subst h; exact fun w hw d ty pos af gd => e8d (b7x ht) h1 h3
   ·cases ht : a6z P _ with
    | false => rw [ht] at h; cases h
    | true =>
     rw [ht] at h; simp only [B5, A3] at h; subst h; exact fun w hw d ty pos af gd => e8e (b7x ht) h1 h3
   ·cases h
  ·cases h
 ·cases h
end
variable {E : DE} (F : DF E) (P : Program)
def b3l (t i : Nat) : Option Nat := match P.underlying t with
 | some (.struct fs) => match fs[i]? with | some f => some f.offset | none => none
 | _ => none
def e8g (t i : Nat) : Option Nat := match P.underlying t with
 | some (.struct fs) => match fs[i]? with | some f => some f.type | none => none
 | _ => none
def a8b (t : Nat) : Option Nat := match P.underlying t with | some (.slice e) => some e | _ => none
def Ty.sz (t : Ty) : Nat := (Ty.rp E t).sz
def d1r (s : St E) (t : Nat) : SV E -> Option (SV E)
 | .ptr id off => match o6 s.hp id with | some (_, .box _ c) => b2j P c off t | _ => none
 | .elm u x off => b2j P (opn F u x) off t
 | .oel id i sz off => match o6 s.hp id with
  | some (_, .arr u _ xs) => bif Nat.beq sz (Ty.sz (E := E) u) then b2j P (opn F u (xs.getD i (u.dflt E))) off t else none
  | some (_, .pts _ xs) => bif Nat.beq sz 1 && (Nat.beq off 0 && a0h P t) then xs[i]? else none
  | _ => none
 | .vel id off n i => match o6 s.hp id with
  | some (_, .box _ c) => match a0u off c with
   | some (.vec k q l :: _) => bif Nat.beq q n && a0h P t then some (.i k (l.getD i 0)) else none
   | some (.dig d :: _) => bif Nat.beq n 32 && a0h P t then some (.u8 (d.l.getD i 0)) else none
   | _ => none
  | _ => none
 | _ => none
def a9m (t i : Nat) : SV E -> Option (SV E)
 | .ptr id o => match b3l P t i with | some off => bif a6f P t i off then some (.ptr id (o + off)) else none | none => none
 | .elm u x o => match b3l P t i with | some off => bif a6f P t i off then some (.elm u x (o + off)) else none | none => none
 | .oel id j sz o => match b3l P t i with | some off => bif a6f P t i off then some (.oel id j sz (o + off)) else none | none => none
 | _ => none
def c5f (t i : Nat) : SV E -> Option (SV E)
 | .agg l => match b3l P t i, e8g P t i with
  | some off, some ft => bif b0q P t i ft off then b2j P l off ft else none
  | _, _ => none
 | _ => none
def c5g (s : St E) (t : Nat) (n : Int) : SV E -> Option (Res E)
 | .own id => match o6 s.hp id, a8b P t with
  | some (_, .arr u _ xs), some el => bif x6 P t el (Ty.sz (E := E) u) then some (.need (decide (0 <= n) && decide (n < (xs.length : Int))) (.oel id n.toNat (Ty.sz (E := E) u) 0)) else none
  | some (_, .pts _ xs), some el => bif x6 P t el 1 then some (.need (decide (0 <= n) && decide (n < (xs.length : Int))) (.oel id n.toNat 1 0)) else none
  | _, _ => none
 | .sl u xs => match a8b P t with
  | some el => bif x6 P t el (Ty.sz (E := E) u) then some (.need (decide (0 <= n) && decide (n < (xs.length : Int))) (.elm u (xs.getD n.toNat (u.dflt E)) 0)) else none
  | none => none
 | .ptr id off => match P.underlying t with
  | some (.array len el) => bif a2y P t len el 1 then some (.need (decide (0 <= n) && decide (n < (len : Int))) (.vel id off len n.toNat)) else none
  | _ => none
 | .vsl id off q lo len => match a8b P t with
  | some el => bif x6 P t el 1 then some (.need (decide (0 <= n) && decide (n < (len : Int))) (.vel id off q (lo + n.toNat))) else none
  | none => none
 | _ => none
def d4e (s : St E) : SV E -> Option Nat
 | .sl _ xs => some xs.length
 | .nils => some 0
 | .own id => match o6 s.hp id with | some (_, .arr _ _ xs) => some xs.length | some (_, .pts _ xs) => some xs.length | _ => none
 | .vsl _ _ _ _ len => some len
 | _ => none
def St.ver (s : St E) (id : Nat) : Option Nat := match o6 s.hp id with | some (k, _) => some k | none => none
def dep (s : St E) : Op -> Option Nat
 | .load _ x => match opd s x with | some (.ptr id _) => s.ver id | some (.oel id _ _ _) => s.ver id | some (.vel id _ _ _) => s.ver id | _ => none
 | .lookup _ x _ _ => match opd s x with | some (.mp id) => s.ver id | _ => none
 | _ => none
def Wd (m : Mn E) (k : Option Nat) (w : World) : Prop := Holds m.G w /\ ∀ j, k = some j -> (∀ x ∈ m.R j, w.heap[x.1]? = some (.cells x.2.2.toArray x.2.1 (0, 0))) /\ ∀ y ∈ m.O j, w.heap[y.1]? = some y.2
def c5h (P : Program) (t : Nat) : Option (Nat × Nat) := match P.underlying t with | some (.map k e) => some (k, e) | _ => none
def a0f (k v : Ty) (xs : List (k.den E × v.den E)) (x : k.den E) : Option (v.den E) := @a0y (k.den E) (Ty.dec E k) (v.den E) xs x
def j6 (k v : Ty) (xs : List (k.den E × v.den E)) (x : k.den E) (y : v.den E) : List (k.den E × v.den E) := @a2t (k.den E) (Ty.dec E k) (v.den E) xs x y
def c8j (Z : ZF P E) (bs : List Bool) (t : Nat) (k v : Ty) (y : SV E) : Option (k.den E × v.den E) := match c5h P t with
 | some (kt, et) => match Z.ky kt, Z.zs et with
  | some k', some z => bif decide (k' = k) then match a6k F bs k y, a6k F bs v z with | some a, some b => some (a, b) | _, _ => none else none
  | _, _ => none
 | none => none
def d1s (Z : ZF P E) (s : St E) (t : Nat) (ok : Bool) (x y : SV E) : Option (SV E) := match x with
 | .mp id => match o6 s.hp id with
  | some (_, .map k v xs) => match c8j F P Z s.bs t k v y with
   | some (a, z) => some (cond ok (.tup [c2c F v ((a0f k v xs a).getD z), .b (a0f k v xs a).isSome]) (c2c F v ((a0f k v xs a).getD z)))
   | none => none
  | _ => none
 | _ => none
def e0o (Z : ZF P E) (s : St E) : SV E -> Option (SV E)
 | .ptr id 0 => match o6 s.hp id with
  | some (_, .cur mid ver kt k x _) => match o6 s.hp mid with
   | some (ver', .map k' v xs) => bif Nat.beq ver ver' && Z.kyB kt k then match Ty.to (fun t => t.den E) k k' x with
     | some x' => some (.tup [c2c F k x, c2c F v ((a0f k' v xs x').getD (v.dflt E))])
     | none => none
    else none
   | _ => none
  | _ => none
 | _ => none
def f2j (s t : Nat) (x : SV E) : Option (SV E) := match asI x, P.underlying t with
 | some (_, n), some (.int k) => bif (P.underlying s).isSome then some (mkI k (k.wrap n)) else none
 | _, _ => none
def b0t (t : Nat) : Bool := match P.underlying t with | some .bool => true | _ => false
def d1t : List (SV E) -> List Nat -> List (SV E) -> Option (List (SV E))
 | c, [], [] => some c
 | c, i :: is, x :: xs => match cellsOf x with
  | some r => match splice c (i * 1) 1 r with | some c' => d1t c' is xs | none => none
  | none => none
 | _, _, _ => none
def d4f {m : Mn E} : ∀ {is : List Nat} {xs c c' : List (SV E)} {vs cs : List Value}, d1t c is xs = some c' -> RC m c cs -> vs.length = xs.length -> (∀ (i : Nat) (x : SV E), xs[i]? = some x -> ∃ v, vs[i]? = some v /\ RV m x v) ->
  ∃ cs', a5m 1 cs ((is.zip vs).map fun p => (p.1, p.2.cells.toList)) = some cs' /\ RC m c' cs'
 | [], [], c, c', vs, cs, h, hc, hl, _ => by
  simp only [d1t, A3] at h; subst h; exact ⟨cs, rfl, hc⟩
 | i :: is, x :: xs, c, c', [], cs, h, hc, hl, hv => by simp at hl
 | i :: is, x :: xs, c, c', v :: vs, cs, h, hc, hl, hv => by
  simp only [d1t] at h; split at h
  ·rename_i r hr; split at h
   ·rename_i c1 h1; obtain ⟨u, e1, e2⟩ := hv 0 x rfl; simp only [E0, A3] at e1; subst e1; obtain ⟨rs, h3, h4⟩ := a3m hr e2; obtain ⟨k1, k2, k3⟩ := hc.splice h1 h4; obtain ⟨cs', g1, g2⟩ := d4f (vs := vs) h k1 (by simpa using hl) fun j y hj => by simpa using hv (j + 1) y (by simpa using hj)
    refine ⟨cs', ?_, g2⟩; simp only [S5, C9, a5m, h3]; rw [F8 ⟨k2, k3⟩]; exact g1
   ·cases h
  ·cases h
 | [], _ :: _, _, _, _, _, h, _, _, _ => by simp [d1t] at h
 | _ :: _, [], _, _, _, _, h, _, _, _ => by simp [d1t] at h
def d4g (P : Program) (t : Nat) (k : IntKind) (n : Nat) : Bool := match P.underlying t with
 | some (.array n' e) => Nat.beq n' n && ((match P.underlying e with | some (.int k') => decide (k' = k) | _ => false) && (match P.info? e with | some i => Nat.beq i.size 1 | none => false))
 | _ => false
def a7n {d e : Nat} {k : IntKind} (hu : P.underlying e = some (.int k)) (as bs : List Int) : ∀ (is : List Nat), (∀ i ∈ is, i < as.length /\ i < bs.length) -> ∀ w,
  (Op.eqItems (d + 1) e 1 (as.map (Value.int k)).toArray (bs.map (Value.int k)).toArray is).run P w = .ok (is.all fun i => as[i]? == bs[i]?) w
 | [], _, w => by simp [Op.eqItems]
 | i :: is, hi, w => by
  obtain ⟨h1, h2⟩ := hi i (by simp); have ho : a0h P e = true := by simp [a0h, hu]
  have e1 := o8 (P := P) (t := e) (off := i * 1) (cs := (as.map (Value.int k)).toArray) (v := .int k as[i]) ho (by simp [h1]) w; have e2 := o8 (P := P) (t := e) (off := i * 1) (cs := (bs.map (Value.int k)).toArray) (v := .int k bs[i]) ho (by simp [h2]) w; have e3 : (Op.equalIn (d + 1) e (.int k as[i]) (.int k bs[i])).run P w = .ok (as[i] == bs[i]) w := run_equalIn_int w d e k k _ _ hu; have ih := a7n (d := d) hu as bs is (fun j hj => hi j (by simp [hj])) w; simp only [Op.eqItems, Sem.run_bind, e1, e2, e3, Result.andThen_ok]; have hb : (as[i] == bs[i]) = (as[i]? == bs[i]?) := by
   rw [B2 h1, B2 h2, J9]; simp only [J4, A3]
  rw [N6, <- hb]; cases hc : (as[i] == bs[i])
  ·simp
  ·simp [ih]
def b5d {d t n : Nat} {k : IntKind} (ht : d4g P t k n = true) {x y : List Int} (hx : x.length = n) (hy : y.length = n) (w : World) : (Op.equalIn (d + 2) t (.agg (x.map (Value.int k)).toArray) (.agg (y.map (Value.int k)).toArray)).run P w = .ok (decide (x = y)) w := by
 unfold d4g at ht
 revert ht
 split
 ·rename_i n' e hu; intro ht; rw [A7, A7] at ht; obtain ⟨h0, h1, h2⟩ := ht; have h0 := A8 h0; subst h0; have hue : P.underlying e = some (.int k) := by
   revert h1
   split
   ·rename_i k' hk; intro h; rw [C6] at h; rw [hk, h]
   ·intro h; cases h
  cases hi : P.info? e with
  | none => simp [hi] at h2
  | some i =>
   rw [hi] at h2; have hz : P.cellsOf e = 1 := by
    have := A8 h2; simp [Program.cellsOf, hi, this]
   rw [run_equalIn_array w (d + 1) _ _ hu hi, hz]; have := a7n (P := P) (d := d) hue x y (List.range n') (by intro i hi; simp at hi; omega) w
   refine this.trans ?_
   congr 1
   rw [J9]; simp only [J6, T0, J4, C6]; constructor
   ·intro h; apply J1; intro i; by_cases hlt : i < n'
    ·exact h i hlt
    ·rw [I0 (by omega), I0 (by omega)]
   ·rintro rfl i _; rfl
 ·intro h; cases h
def f4y (s : St E) (op : BinOp) (t : Nat) (a b : SV E) : Option (Res E) := match op with
 | .eql => match asB s.bs a, asB s.bs b with
  | some x, some y => bif b0t P t then some (.cmp (x == y)) else none
  | _, _ => match a, b with
   | .dig x, .dig y => bif q0 P t && !P.eqGuardType P.depth t then some (.cmp (decide (x = y))) else none
   | .agg x, .agg y => match e0i P s.bs t x y with | some q => some (.cmp q) | none => none
   | .ptr _ _, .nilp => bif a2z P t then some (.val (.lit false)) else none
   | .elm _ _ _, .nilp => bif a2z P t then some (.val (.lit false)) else none
   | .oel _ _ _ _, .nilp => bif a2z P t then some (.val (.lit false)) else none
   | .nilp, .nilp => bif a2z P t then some (.val (.lit true)) else none
   | .mp _, .nilm => match c5h P t with | some _ => some (.val (.lit false)) | none => none
   | .nilm, .nilm => match c5h P t with | some _ => some (.val (.lit true)) | none => none
   | .vec k n l, .vec k' n' l' => bif d4g P t k n && (decide (k' = k) && Nat.beq n' n) && !P.eqGuardType P.depth t then some (.cmp (decide (l = l'))) else none
   | _, _ => none
 | .neq => match asB s.bs a, asB s.bs b with
  | some x, some y => bif b0t P t then some (.cmp (x != y)) else none
  | _, _ => match a, b with
   | .dig x, .dig y => bif q0 P t && !P.eqGuardType P.depth t then some (.cmp (!decide (x = y))) else none
   | .agg x, .agg y => match e0i P s.bs t x y with | some q => some (.cmp (!q)) | none => none
   | .ptr _ _, .nilp => bif a2z P t then some (.val (.lit true)) else none
   | .elm _ _ _, .nilp => bif a2z P t then some (.val (.lit true)) else none
   | .oel _ _ _ _, .nilp => bif a2z P t then some (.val (.lit true)) else none
   | .nilp, .nilp => bif a2z P t then some (.val (.lit false)) else none
   | _, _ => none
 | _ => none
def b1m (s : St E) : List Operand -> Option (List (SV E))
 | [] => some []
 | x :: r => match opd s x, b1m s r with | some y, some l => some (y :: l) | _, _ => none
def b9c : List (SV E) -> Bool
 | [] => true
 | x :: r => a2f x && b9c r
def g2e : SV E -> Bool
 | .sl _ _ => true
 | _ => false
def f4z (s : St E) (c : Call) : Option (Res E) := match c.callee, c.args.toList, c.argTypes.toList with
 | .builtin .len, [x], [t] => match opd s x with
  | some y => match d4e s y with | some n => bif a3c P t then some (bif g2e y then .know (Nat.ble n d4) (.i .i64 (n : Int)) else .val (.i .i64 (n : Int))) else none | none => none
  | none => none
 | .builtin .min, [x, y], _ => match opd s x, opd s y with
  | some (.i k a), some (.i k' b) => bif decide (k = k') then some (.val (.i k (min a b))) else none
  | _, _ => none
 | .builtin .max, [x, y], _ => match opd s x, opd s y with
  | some (.i k a), some (.i k' b) => bif decide (k = k') then some (.val (.i k (max a b))) else none
  | _, _ => none
 | _, _, _ => none
def ev1 (Z : ZF P E) (s : St E) : Op -> Option (Res E)
 | .move x => (opd s x).map .val
 | .assign x => (opd s x).map .val
 | .pick c a b => match opd s c with
  | some cv => match asB s.bs cv with | some q => (bif q then opd s a else opd s b).map .val | none => none
  | none => none
 | .binOp op t x y _ => match opd s x, opd s y with
  | some a, some b => match asI a, asI b with
   | some (k, n), some (k', n') => f4u op k k' n n'
   | _, _ => f4y P s op t a b
  | _, _ => none
 | .unOp .not _ x => match opd s x with
  | some a => match asB s.bs a with | some q => some (.cmp (!q)) | none => none
  | none => none
 | .extract x i => match opd s x with | some (.tup l) => (l[i]?).map .val | some .nxt => (bif Nat.beq i 0 then some (.val (.lit true)) else none) | _ => none
 | .convert a t x => match opd s x with | some y => (f2j P a t y).map .val | none => none
 | .fieldAddr t x i => match opd s x with | some y => (a9m P t i y).map .val | none => none
 | .field t x i => match opd s x with | some y => (c5f P t i y).map .val | none => none
 | .load t x => match opd s x with | some y => (d1r F P s t y).map .val | none => none
 | .nilCheck x => match opd s x with | some (.ptr id o) => some (.val (.ptr id o)) | some (.oel id i z o) => some (.val (.oel id i z o)) | some (.elm t y o) => some (.val (.elm t y o)) | some (.vel id o n i) => some (.val (.vel id o n i)) | _ => none
 | .indexAddr t x y => match opd s x, opd s y with
  | some a, some b => match asI b with | some (_, n) => c5g P s t n a | none => none
  | _, _ => none
 | .makeFunc (.func f) a b => match a.toList, b1m s b.toList with
  | [], some l => bif b9c l then some (.val (.fn f l)) else none
  | _, _ => none
 | .build t ps => match Z.z t, b1m s (ps.toList.map (·.2)) with
  | some z, some l => bif b3b P t (c5e P t) then match b9a (c5e P t) z (ps.toList.map (·.1)) l with | some c => some (.val (b3g c)) | none => none
   else match z, f2i P t with
    | [.dig d0], some el => bif a2y P t 32 el 1 then match d1m d0 (ps.toList.map (·.1)) l with | some d => some (.val (.dig d)) | none => none else none
    | [.vec k n l0], some el => bif a2y P t n el 1 then match d1n k n l0 (ps.toList.map (·.1)) l with | some l' => some (.val (.vec k n l')) | none => none else none
    | z, some el => bif a2y P t z.length el 1 then match d1t z (ps.toList.map (·.1)) l with | some c => some (.val (.agg c)) | none => none else none
    | _, _ => none
  | _, _ => none
 | .call c => f4z P s c
 | .lookup t x y ok => match opd s x, opd s y with | some a, some b => (d1s F P Z s t ok a b).map .val | _, _ => none
 | _ => none
def ev (Z : ZF P E) (s : St E) (op : Op) : Option (Res E) := match ev1 F P Z s op with
 | some r => some r
 | none => ev2 F P s op
section
variable {F P}
variable {m : Mn E} {N : Nat} {e : Env} {w w0 : World} {G0 : Gh} {s : St E} {W : World -> Prop}
def St.ver_get {id k : Nat} {x : HB E} (h : o6 s.hp id = some (k, x)) : s.ver id = some k := by unfold St.ver; rw [h]
def RelH.wd (r : RelH w0 G0 s m w) {id k : Nat} {x : HB E} (h : o6 s.hp id = some (k, x)) : Wd m (some k) w /\ id < m.n /\ k < m.n /\ HB1 m x (m.ν id) (m.R k) (m.O k) /\ ∀ w', Wd m (some k) w' -> Bxs m.G w' 0 (m.R k) := by
 obtain ⟨bl, L, hC, hB, hH⟩ := r.bx
 obtain ⟨p, q, A, B, h1, h2, h3, h4, h5, h6, _⟩ := hH.split h
 have hs : (m.R k).Sublist bl := by rw [h1]; exact (P9 _ _).trans (N1 _ _)
 have hs2 : (m.O k).Sublist L := by rw [h2]; exact (P9 _ _).trans (N1 _ _)
 refine ⟨⟨hC.holds, fun j hj => ?_⟩, h3, h4, h6, fun w' hw' => ⟨fun y hy => ?_, (hs.map _).nodup hB.nodup, fun y _ => by simp⟩⟩
 ·injection hj with hj; subst hj
  exact ⟨fun y hy => (hB.at_ y (hs.subset hy)).1, fun y hy => (hC.held y (hs2.subset hy)).1⟩
 ·exact ⟨(hw'.2 k rfl).1 y hy, (hB.at_ y (hs.subset hy)).2.1, .inl (C0 _)⟩
def RelH.wd0 (r : RelH w0 G0 s m w) : Wd m none w := ⟨r.holds, fun _ h => by cases h⟩
def Ow.row {α : Type} [Rp α] {G : Gh} {g T T' so n cap i : Nat} {cs : List Value} {xs : List α} {x : α} (h : Ow G (some (g, T', cs)) T (.slice (some ⟨g, so, none⟩) n cap) xs) (hx : xs[i]? = some x) :
  ∃ row, Rp.Is G row x /\ row.length = Rp.sz α /\ ∀ w : World, w.heap[g]? = some (.cells cs.toArray T' (0, 0)) -> w.rangeAt g (so + i * Rp.sz α) row := by
 obtain ⟨rows, ⟨h1, h2⟩, h3⟩ := h
 obtain ⟨row, hrow, hrx⟩ := h3.get hx
 obtain ⟨_, so', cap', hsl, h4, h5, h6, h7⟩ := h2
 obtain rfl : so = so' := by injection hsl with e1; injection e1 with e1; injection e1
 refine ⟨row, hrx, Rp.len hrx, fun w hg j v hj => ?_⟩
 have hf := a9h h1 hrow hj
 rw [<- h7, J2] at hf
 split at hf
 ·rw [I7, <- I6] at hf; rw [World.cell?, hg]; simpa using hf
 ·cases hf
def d1u {w : World} {b o off n : Nat} {row r : List Value} (h : w.rangeAt b o row) (hr : (row.drop off).take n = r) : w.rangeAt b (o + off) r := by
 intro j v hj
 subst hr
 rw [J2] at hj
 split at hj
 ·rw [I7] at hj; have := h _ _ hj
  rwa [<- I6] at this
 ·cases hj
def b9d {w : World} {b o off : Nat} {row : List Value} {v : Value} (h : w.rangeAt b o row) (hr : row[off]? = some v) : w.cell? ⟨b, o + off, none⟩ = some v := h _ _ hr
def g2f {m : Mn E} {x : SV E} {v : Value} (h : L m x v) : RV m x v := by
 cases x <;> first | exact h | exact h.elim
def e8h (r : Rel w0 G0 s m e w) {t : Nat} {a : Operand} {y x : SV E} {v : Value} (ho : opd s a = some y) (hx : opv e a = some v) (hv : RV m y v) (h : d1r F P s t y = some x) : Res.ok P m N e (Wd m (dep s (.load t a))) (.load t a) (.val x) := by
 unfold d1r at h
 split at h
 ·rename_i id off; split at h
  ·rename_i k T c hg; have hd : dep s (.load t a) = some k := by simp only [dep, ho, St.ver_get hg]
   rw [hd]; obtain ⟨_, h2, _, ⟨b, cs, h3, _, h4, h5⟩, hb⟩ := r.wd hg; obtain ⟨_, b', o', h6, h7⟩ := d6 rfl hv; rw [h4] at h6; simp only [Value.pointer.injEq, A3, Addr.mk.injEq, M0] at h6; obtain ⟨rfl, rfl⟩ := h6; rw [F2] at h7; subst h7; rw [h3] at hb; rcases a7m h h5 with ⟨n, row, e1, e2, e3, e4⟩ | ⟨e1, u, e2, e3⟩
   ·exact ⟨_, e4, fun w hw d ty pos af gd => b4z hx ((hb w hw).range (i := 0) rfl e2.symm) e1 e3⟩
   ·exact ⟨_, e3, fun w hw d ty pos af gd => a5g hx ((hb w hw).cell (i := 0) rfl e2) e1⟩
  ·cases h
 ·rename_i u x' off; obtain ⟨b, o, row, h1, h2, h3⟩ := d6 rfl hv; subst h1; rcases a7m h (b8y F u x' row h3) with ⟨n, row', e1, e2, e3, e4⟩ | ⟨e1, u', e2, e3⟩
  ·exact ⟨_, e4, fun w hw d ty pos af gd => b4z hx (a4k.range hw.1 (h2.part e2.symm)) e1 e3⟩
  ·exact ⟨_, e3, fun w hw d ty pos af gd => a5g hx (a4k.cell hw.1 h2 e2) e1⟩
 ·rename_i id i sz off; split at h
  ·rename_i k u el xs hg; cases hz : Nat.beq sz (Ty.sz (E := E) u) with
   | false => rw [hz] at h; cases h
   | true =>
    rw [hz] at h; simp only [B5] at h; have hz := A8 hz; subst hz; have hd : dep s (.load t a) = some k := by simp only [dep, ho, St.ver_get hg]
    rw [hd]; obtain ⟨_, h2, _, ⟨o, h3, _, h4, _⟩, _⟩ := r.wd hg; obtain ⟨_, b, so, n, c, h6, h8, h7⟩ := d6 rfl hv; subst h7; rw [h6] at h4; have hn := h4.len; have hlt : i < xs.length := by omega
    have hxi : xs[i]? = some (xs.getD i (u.dflt E)) := by rw [B3, B2 hlt]; rfl
    obtain ⟨g, off', cs, rfl, e1⟩ := h4.addr hlt; simp only [A3, Addr.mk.injEq, M0] at e1; obtain ⟨rfl, rfl⟩ := e1; obtain ⟨row, f1, f2, f3⟩ := Ow.row h4 hxi; have f4 : ∀ w, Wd m (some k) w -> w.rangeAt b (so + i * Ty.sz (E := E) u) row := fun w hw => f3 w ((hw.2 k rfl).1 (b, el, cs) (by rw [h3]; simp))
    rcases a7m h (b8y F u _ row f1) with ⟨n, row', e1, e2, e3, e4⟩ | ⟨e1, u', e2, e3⟩
    ·exact ⟨_, e4, fun w hw d ty pos af gd => b4z hx (d1u (f4 w hw) e2.symm) e1 e3⟩
    ·exact ⟨_, e3, fun w hw d ty pos af gd => a5g hx (b9d (f4 w hw) e2) e1⟩
  ·rename_i k el xs hg; letI := rpV; cases hz : Nat.beq sz 1 && (Nat.beq off 0 && a0h P t) with
   | false => rw [hz] at h; cases h
   | true =>
    rw [hz] at h; simp only [B5] at h; simp only [A7] at hz; obtain ⟨hz1, hz2, e1'⟩ := hz; have hz1 := A8 hz1; have hz2 := A8 hz2; subst hz1 hz2; have hd : dep s (.load t a) = some k := by simp only [dep, ho, St.ver_get hg]
    rw [hd]; obtain ⟨_, h2, _, ⟨o, vs, h3, _, h4, _, hL⟩, _⟩ := r.wd hg; obtain ⟨_, b, so, n, c, h6, h8, h7⟩ := d6 rfl hv; subst h7; rw [h6] at h4; have hn := h4.len; have hlt : i < vs.length := by omega
    obtain ⟨v0, hvi, hv0⟩ := (LL.at_ hL).2 i x h; obtain ⟨g, off', cs, rfl, e1⟩ := h4.addr hlt; simp only [A3, Addr.mk.injEq, M0] at e1; obtain ⟨rfl, rfl⟩ := e1; obtain ⟨row, f1, f2, f3⟩ := Ow.row h4 hvi; have f5 : row = [v0] := f1.1; have f4 : ∀ w, Wd m (some k) w -> w.rangeAt b (so + i * 1) row := fun w hw => f3 w ((hw.2 k rfl).1 (b, el, cs) (by rw [h3]; simp))
    exact ⟨v0, g2f hv0, fun w hw d ty pos af gd => a5g hx (b9d (f4 w hw) (by rw [f5]; rfl)) e1'⟩
  ·cases h
 ·rename_i id off n i; split at h
  ·rename_i k T c hg; have hd : dep s (.load t a) = some k := by simp only [dep, ho, St.ver_get hg]
   rw [hd]; obtain ⟨_, h2, _, ⟨b, cs, h3, _, h4, h5⟩, hb⟩ := r.wd hg; obtain ⟨_, h9, b', o', h6, h7⟩ := d6 rfl hv; rw [h4] at h6; simp only [Value.pointer.injEq, A3, Addr.mk.injEq, M0] at h6; obtain ⟨rfl, rfl⟩ := h6; rw [F2] at h7; subst h7; rw [h3] at hb; split at h
   ·rename_i k' q l tl hdr; cases hq : Nat.beq q n && a0h P t with
    | false => rw [hq] at h; cases h
    | true =>
     rw [hq] at h; simp only [B5, A3] at h; subst h; rw [A7] at hq; have := A8 hq.1; subst this; exact ⟨_, rfl, fun w hw d ty pos af gd => a5g hx ((hb w hw).cell (i := 0) rfl (h5.vget hdr h9)) hq.2⟩
   ·rename_i dg tl hdr; cases hq : Nat.beq n 32 && a0h P t with
    | false => rw [hq] at h; cases h
    | true =>
     rw [hq] at h; simp only [B5, A3] at h; subst h; rw [A7] at hq; have := A8 hq.1; subst this; exact ⟨_, rfl, fun w hw d ty pos af gd => a5g hx ((hb w hw).cell (i := 0) rfl (h5.dget hdr h9)) hq.2⟩
   ·cases h
  ·cases h
 ·cases h
def c5i {t i : Nat} {a : Operand} {y x : SV E} {v : Value} (hx : opv e a = some v) (hv : RV m y v) (h : a9m P t i y = some x) : Res.ok P m N e W (.fieldAddr t a i) (.val x) := by
 unfold a9m at h
 split at h
 ·split at h
  ·rename_i off _; cases hf : a6f P t i off with
   | false => rw [hf] at h; cases h
   | true =>
    rw [hf] at h; simp only [B5, A3] at h; subst h; obtain ⟨h1, b, o, h2, h3⟩ := d6 rfl hv; subst h3; exact ⟨_, ⟨h1, b, o, h2, rfl⟩, fun w hw d ty pos af gd => by rw [<- I6]; exact a9f hx hf⟩
  ·cases h
 ·split at h
  ·rename_i off _; cases hf : a6f P t i off with
   | false => rw [hf] at h; cases h
   | true =>
    rw [hf] at h; simp only [B5, A3] at h; subst h; obtain ⟨b, o, row, h1, h2, h3⟩ := d6 rfl hv; subst h1; exact ⟨_, ⟨b, o, row, rfl, h2, h3⟩, fun w hw d ty pos af gd => by rw [<- I6]; exact a9f hx hf⟩
  ·cases h
 ·split at h
  ·rename_i off _; cases hf : a6f P t i off with
   | false => rw [hf] at h; cases h
   | true =>
    rw [hf] at h; simp only [B5, A3] at h; subst h; obtain ⟨h1, b, o, n, c, h2, h4, h3⟩ := d6 rfl hv; subst h3; exact ⟨_, ⟨h1, b, o, n, c, h2, h4, rfl⟩, fun w hw d ty pos af gd => by rw [<- I6]; exact a9f hx hf⟩
  ·cases h
 ·cases h
def e0p {t i : Nat} {a : Operand} {y x : SV E} {v : Value} (hx : opv e a = some v) (hv : RV m y v) (h : c5f P t i y = some x) : Res.ok P m N e W (.field t a i) (.val x) := by
 unfold c5f at h
 split at h
 ·split at h
  ·rename_i l off ft _ _; cases hf : b0q P t i ft off with
   | false => rw [hf] at h; cases h
   | true =>
    rw [hf] at h; simp only [B5] at h; obtain ⟨cs, rfl, hc⟩ := hv; rcases a7m h hc with ⟨n, row, e1, e2, e3, e4⟩ | ⟨e1, u, e2, e3⟩
    ·exact ⟨_, e4, fun w hw d ty pos af gd => d1g hx hf e1 e2.symm⟩
    ·exact ⟨_, e3, fun w hw d ty pos af gd => d1h hx hf e1 e2⟩
  ·cases h
 ·cases h
def e0q (r : Rel w0 G0 s m e w) {t : Nat} {a b : Operand} {y : SV E} {v : Value} {k : IntKind} {n : Int} {q : Res E} (hx : opv e a = some v) (hv : RV m y v) (hy : opv e b = some (.int k n)) (h : c5g P s t n y = some q) : q.ok P m N e W (.indexAddr t a b) := by
 unfold c5g at h
 split at h
 ·rename_i id; split at h
  ·rename_i k2 u _ xs el hg _; cases hs : x6 P t el (Ty.sz (E := E) u) with
   | false => rw [hs] at h; cases h
   | true =>
    rw [hs] at h; simp only [B5, A3] at h; subst h; intro hc; simp only [A7, C6] at hc; obtain ⟨k', hk⟩ : ∃ k' : Nat, n = (k' : Int) := ⟨n.toNat, by omega⟩; subst hk; have hlt : k' < xs.length := by omega
    obtain ⟨_, h2, _, ⟨o, h3, _, h4, _⟩, _⟩ := r.wd hg; obtain ⟨_, rfl, A, n', c, h5⟩ := d6 rfl hv; rw [h5] at h4 hx; have hn := h4.len; obtain ⟨g, off', cs, rfl, rfl⟩ := h4.addr hlt; refine ⟨_, ⟨h2, g, off', n', c, h5, by simpa using (by omega : k' < n'), rfl⟩, fun w hw d ty pos af gd => ?_⟩; have := a6g (P := P) (N := N) (e := e) (w := w) (d := d) (ty := ty) (pos := pos) (af := af) (gd := gd) hx hy hs (by omega : k' < n'); simpa using this
  ·rename_i k2 _ xs el hg _; letI := rpV; cases hs : x6 P t el 1 with
   | false => rw [hs] at h; cases h
   | true =>
    rw [hs] at h; simp only [B5, A3] at h; subst h; intro hc; simp only [A7, C6] at hc; obtain ⟨k', hk⟩ : ∃ k' : Nat, n = (k' : Int) := ⟨n.toNat, by omega⟩; subst hk; obtain ⟨_, h2, _, ⟨o, vs, h3, _, h4, _, hL⟩, _⟩ := r.wd hg; have hl := (LL.at_ hL).1; have hlt : k' < vs.length := by omega
    obtain ⟨_, rfl, A, n', c, h5⟩ := d6 rfl hv; rw [h5] at h4 hx; have hn := h4.len; obtain ⟨g, off', cs, rfl, rfl⟩ := h4.addr hlt; refine ⟨_, ⟨h2, g, off', n', c, h5, by simpa using (by omega : k' < n'), rfl⟩, fun w hw d ty pos af gd => ?_⟩; have := a6g (P := P) (N := N) (e := e) (w := w) (d := d) (ty := ty) (pos := pos) (af := af) (gd := gd) hx hy hs (by omega : k' < n'); simpa using this
  ·cases h
 ·rename_i u xs; split at h
  ·rename_i el _; cases hs : x6 P t el (Ty.sz (E := E) u) with
   | false => rw [hs] at h; cases h
   | true =>
    rw [hs] at h; simp only [B5, A3] at h; subst h; intro hc; simp only [A7, C6] at hc; obtain ⟨k', hk⟩ : ∃ k' : Nat, n = (k' : Int) := ⟨n.toNat, by omega⟩; subst hk; have hlt : k' < xs.length := by omega
    have hS : Sl m.G v xs := d6 rfl hv; have hg : xs[k']? = some (xs.getD k' (u.dflt E)) := by rw [B3, B2 hlt]; rfl
    obtain ⟨A, cap, rfl⟩ := hS.form; obtain ⟨b', o, row, rfl, h1, h2⟩ := hS.elem hg; exact ⟨_, ⟨b', _, row, rfl, h1, h2⟩, fun w hw d ty pos af gd => a6g hx hy hs hlt⟩
  ·cases h
 ·rename_i id off; split at h
  ·rename_i len el _; cases ht : a2y P t len el 1 with
   | false => rw [ht] at h; cases h
   | true =>
    rw [ht] at h; simp only [B5, A3] at h; subst h; intro hc; simp only [A7, C6] at hc; obtain ⟨k', rfl⟩ := I5 hc.1; have hlt : k' < len := by omega
    obtain ⟨g1, b', o, g2, rfl⟩ := d6 rfl hv; refine ⟨_, ⟨g1, by simpa using hlt, b', o, g2, rfl⟩, fun w hw d ty pos af gd => ?_⟩; have := d1b (P := P) (N := N) (e := e) (w := w) (d := d) (ty := ty) (pos := pos) (af := af) (gd := gd) hx hy ht hlt; simpa using this
  ·cases h
 ·rename_i id off q lo len; split at h
  ·rename_i el _; cases hs : x6 P t el 1 with
   | false => rw [hs] at h; cases h
   | true =>
    rw [hs] at h; simp only [B5, A3] at h; subst h; intro hc; simp only [A7, C6] at hc; obtain ⟨k', rfl⟩ := I5 hc.1; have hlt : k' < len := by omega
    obtain ⟨g1, g3, g4, b', o, g2, rfl⟩ := d6 rfl hv; refine ⟨_, ⟨g1, by simp; omega, b', o, g2, rfl⟩, fun w hw d ty pos af gd => ?_⟩
    have := a6g (P := P) (N := N) (e := e) (w := w) (d := d) (ty := ty) (pos := pos) (af := af) (gd := gd) hx hy hs hlt; simpa [I6] using this
  ·cases h
 ·cases h
def e0r (r : Rel w0 G0 s m e w) {y : SV E} {v : Value} {n : Nat} (hv : RV m y v) (h : d4e s y = some n) : ∃ A cap, v = .slice A n cap := by
 unfold d4e at h
 split at h
 ·cases h; have hS : Sl m.G v _ := d6 rfl hv; exact hS.form
 ·cases h; exact ⟨_, _, d6 rfl hv⟩
 ·split at h
  ·rename_i hg; cases h; obtain ⟨_, _, _, ⟨o, _, _, h3, _⟩, _⟩ := r.wd hg; obtain ⟨_, h5, _⟩ := d6 rfl hv; subst h5; exact h3.form
  ·rename_i hg; letI := rpV; cases h; obtain ⟨_, _, _, ⟨o, vs, _, _, h3, _, hL⟩, _⟩ := r.wd hg; obtain ⟨_, h5, _⟩ := d6 rfl hv; subst h5; rw [(LL.at_ hL).1]; exact h3.form
  ·cases h
 ·cases h; obtain ⟨_, _, _, b, o, _, rfl⟩ := d6 rfl hv; exact ⟨_, _, rfl⟩
 ·cases h
def e8i (r : Rel w0 G0 s m e w) {c : Call} {x : Res E} (h : f4z P s c = some x) : x.ok P m N e W (.call c) := by
 obtain ⟨cl, args, ats⟩ := c
 unfold f4z at h
 simp only at h
 split at h
 ·rename_i a t ha ht; obtain rfl : args = #[a] := J5 ha; obtain rfl : ats = #[t] := J5 ht; split at h
  ·rename_i y hy; split at h
   ·rename_i n hn; cases hs : a3c P t with
    | false => rw [hs] at h; cases h
    | true =>
     rw [hs] at h; simp only [B5, A3] at h; subst h; obtain ⟨v, h1, h2⟩ := d8 r hy; obtain ⟨A, cap, rfl⟩ := e0r r h2 hn; cases hsl : g2e y with
     | false => exact ⟨_, rfl, fun w hw d ty pos af gd => f2f h1 hs⟩
     | true =>
      refine ⟨?_, _, rfl, fun w hw d ty pos af gd => f2f h1 hs⟩; cases y <;> try (cases hsl; done)
      have hS : Sl m.G _ _ := d6 rfl h2; simp only [d4e, A3] at hn; subst hn; exact D3 hS.le
   ·cases h
  ·cases h
 ·rename_i a b ha; obtain rfl : args = #[a, b] := J5 ha; split at h
  ·rename_i k n k' n' h1 h2; cases hk : decide (k = k') with
   | false => rw [hk] at h; cases h
   | true =>
    rw [hk] at h; simp only [B5, A3] at h; subst h; have hk := A6 hk; subst hk; obtain ⟨v, e1, e2⟩ := d8 r h1; obtain ⟨u, e3, e4⟩ := d8 r h2; have e2 : v = _ := d6 rfl e2; have e4 : u = _ := d6 rfl e4; subst e2 e4; exact ⟨_, rfl, fun w hw d ty pos af gd => g1v e1 e3⟩
  ·cases h
 ·rename_i a b ha; obtain rfl : args = #[a, b] := J5 ha; split at h
  ·rename_i k n k' n' h1 h2; cases hk : decide (k = k') with
   | false => rw [hk] at h; cases h
   | true =>
    rw [hk] at h; simp only [B5, A3] at h; subst h; have hk := A6 hk; subst hk; obtain ⟨v, e1, e2⟩ := d8 r h1; obtain ⟨u, e3, e4⟩ := d8 r h2; have e2 : v = _ := d6 rfl e2; have e4 : u = _ := d6 rfl e4; subst e2 e4; exact ⟨_, rfl, fun w hw d ty pos af gd => g1x e1 e3⟩
  ·cases h
 ·cases h
def a2g (r : Rel w0 G0 s m e w) : ∀ {l : List Operand} {xs : List (SV E)}, b1m s l = some xs -> ∃ vs, a4w e l = some vs /\ List.length vs = List.length l /\ ∀ (i : Nat) (x : SV E), xs[i]? = some x -> ∃ v, vs[i]? = some v /\ RV m x v
 | [], xs, h => by simp only [b1m, A3] at h; subst h; exact ⟨[], rfl, rfl, fun i x h => by simp at h⟩
 | a :: l, xs, h => by
  simp only [b1m] at h; split at h
  ·rename_i y ys hy hl; cases h; obtain ⟨v, e1, e2⟩ := d8 r hy; obtain ⟨vs, e3, e4, e5⟩ := a2g r hl; refine ⟨v :: vs, by simp [a4w, e1, e3], by simp [e4], fun i x hi => ?_⟩; cases i with
   | zero => simp at hi; subst hi; exact ⟨v, rfl, e2⟩
   | succ i => exact e5 i x (by simpa using hi)
  ·cases h
def a0z : ∀ {l : List Operand} {xs : List (SV E)}, b1m s l = some xs -> xs.length = l.length
 | [], xs, h => by simp only [b1m, A3] at h; subst h; rfl
 | a :: l, xs, h => by
  simp only [b1m] at h; split at h
  ·rename_i hl; cases h; simp [a0z hl]
  ·cases h
def f2k {m : Mn E} : ∀ {xs : List (SV E)} {vs : List Value}, b9c xs = true -> xs.length = vs.length -> (∀ (i : Nat) (x : SV E), xs[i]? = some x -> ∃ v, vs[i]? = some v /\ RV m x v) -> LL m xs vs
 | [], vs, _, hl, _ => by cases vs with | nil => rfl | cons _ _ => simp at hl
 | x :: xs, [], _, hl, _ => by simp at hl
 | x :: xs, v :: vs, h, hl, hv => by
  simp only [b9c, A7] at h; obtain ⟨u, e1, e2⟩ := hv 0 x rfl; simp only [E0, A3] at e1; subst e1; exact ⟨v, vs, rfl, d6 h.1 e2, f2k h.2 (by simpa using hl) fun i y hi => by simpa using hv (i + 1) y (by simpa using hi)⟩
def b3m {t kt et : Nat} (h : c5h P t = some (kt, et)) : P.underlying t = some (.map kt et) /\ a9k P t kt et = true := by
 unfold c5h at h
 split at h
 ·rename_i hu; simp only [A3, I4] at h; obtain ⟨rfl, rfl⟩ := h; exact ⟨hu, by unfold a9k; rw [hu]; simp⟩
 ·cases h
def e8j (r : Rel w0 G0 s m e w) {op : BinOp} {t yt : Nat} {a b : Operand} {x y : SV E} {v u : Value} {q : Res E} (hx : opv e a = some v) (hv : RV m x v) (hy : opv e b = some u) (hu : RV m y u) (h : f4y P s op t x y = some q) : q.ok P m N e W (.binOp op t a b yt) := by
 have hbs := r.bs
 unfold f4y at h
 split at h
 ·split at h
  ·rename_i p p' h1 h2; cases ht : b0t P t with
   | false => rw [ht] at h; cases h
   | true =>
    rw [ht] at h; simp only [B5, A3] at h; subst h; have hb : P.underlying t = some .bool := by unfold b0t at ht; split at ht <;> first | assumption | cases ht
    rw [<- hbs] at h1 h2; have := a5o h1 hv; subst this; have := a5o h2 hu; subst this; exact fun w hw d ty pos af gd => d9y hb hx hy
  ·split at h
   ·rename_i d1 d2 _; cases ht : q0 P t && !P.eqGuardType P.depth t with
    | false => rw [ht] at h; cases h
    | true =>
     rw [ht] at h; simp only [B5, A3] at h; subst h; simp only [A7, K4] at ht; have hv : v = _ := hv; have hu : u = _ := hu; subst hv hu; exact fun w hw d ty pos af gd => c4v (a2p ht.1 d1 d2) ht.2 hx hy
   ·split at h
    ·rename_i q hq; cases h; obtain ⟨cx, rfl, hcx⟩ := hv; obtain ⟨cy, rfl, hcy⟩ := hu; rw [<- hbs] at hq; obtain ⟨g1, g2⟩ := c5d hq hcx hcy; exact fun w hw d ty pos af gd => c4v g1 g2 hx hy
    ·cases h
   ·cases ht : a2z P t with
    | false => rw [ht] at h; cases h
    | true =>
     rw [ht] at h; simp only [B5, A3] at h; subst h; obtain ⟨_, b', o, _, h3⟩ := d6 rfl hv; have hu : u = _ := d6 rfl hu; subst h3 hu; exact ⟨_, rfl, fun w hw d ty pos af gd => b3c ht hx hy⟩
   ·cases ht : a2z P t with
    | false => rw [ht] at h; cases h
    | true =>
     rw [ht] at h; simp only [B5, A3] at h; subst h; obtain ⟨b', o, row, h3, _⟩ := d6 rfl hv; have hu : u = _ := d6 rfl hu; subst h3 hu; exact ⟨_, rfl, fun w hw d ty pos af gd => b3c ht hx hy⟩
   ·cases ht : a2z P t with
    | false => rw [ht] at h; cases h
    | true =>
     rw [ht] at h; simp only [B5, A3] at h; subst h; obtain ⟨_, b', o, _, _, _, _, h3⟩ := d6 rfl hv; have hu : u = _ := d6 rfl hu; subst h3 hu; exact ⟨_, rfl, fun w hw d ty pos af gd => b3c ht hx hy⟩
   ·cases ht : a2z P t with
    | false => rw [ht] at h; cases h
    | true =>
     rw [ht] at h; simp only [B5, A3] at h; subst h; have hv : v = _ := d6 rfl hv; have hu : u = _ := d6 rfl hu; subst hv hu; exact ⟨_, rfl, fun w hw d ty pos af gd => b3c ht hx hy⟩
   ·split at h
    ·rename_i q hq; cases h; obtain ⟨_, hv, b', h3⟩ := d6 rfl hv; have hu : u = _ := d6 rfl hu; rw [h3] at hv; subst hv hu; exact ⟨_, rfl, fun w hw d ty pos af gd => c8b (b3m hq).2 hx hy⟩
    ·cases h
   ·split at h
    ·rename_i q hq; cases h; have hv : v = _ := d6 rfl hv; have hu : u = _ := d6 rfl hu; subst hv hu; exact ⟨_, rfl, fun w hw d ty pos af gd => c8b (b3m hq).2 hx hy⟩
    ·cases h
   ·rename_i k n l k' n' l' _; cases ht : d4g P t k n && (decide (k' = k) && Nat.beq n' n) && !P.eqGuardType P.depth t with
    | false => rw [ht] at h; cases h
    | true =>
     rw [ht] at h; simp only [B5, A3] at h; subst h; simp only [A7, K4, C6] at ht; obtain ⟨⟨t1, rfl, t2⟩, t3⟩ := ht; have t2 := A8 t2; subst t2; obtain ⟨rfl, hl1⟩ := hv; obtain ⟨rfl, hl2⟩ := hu; exact fun w hw d ty pos af gd => c4v (b5d (P := P) t1 hl1 hl2) t3 hx hy
   ·cases h
 ·split at h
  ·rename_i p p' h1 h2; cases ht : b0t P t with
   | false => rw [ht] at h; cases h
   | true =>
    rw [ht] at h; simp only [B5, A3] at h; subst h; have hb : P.underlying t = some .bool := by unfold b0t at ht; split at ht <;> first | assumption | cases ht
    rw [<- hbs] at h1 h2; have := a5o h1 hv; subst this; have := a5o h2 hu; subst this; exact fun w hw d ty pos af gd => d9x hb hx hy
  ·split at h
   ·rename_i d1 d2 _; cases ht : q0 P t && !P.eqGuardType P.depth t with
    | false => rw [ht] at h; cases h
    | true =>
     rw [ht] at h; simp only [B5, A3] at h; subst h; simp only [A7, K4] at ht; have hv : v = _ := hv; have hu : u = _ := hu; subst hv hu; exact fun w hw d ty pos af gd => d3x (a2p ht.1 d1 d2) ht.2 hx hy
   ·split at h
    ·rename_i q hq; cases h; obtain ⟨cx, rfl, hcx⟩ := hv; obtain ⟨cy, rfl, hcy⟩ := hu; rw [<- hbs] at hq; obtain ⟨g1, g2⟩ := c5d hq hcx hcy; exact fun w hw d ty pos af gd => d3x g1 g2 hx hy
    ·cases h
   ·cases ht : a2z P t with
    | false => rw [ht] at h; cases h
    | true =>
     rw [ht] at h; simp only [B5, A3] at h; subst h; obtain ⟨_, b', o, _, h3⟩ := d6 rfl hv; have hu : u = _ := d6 rfl hu; subst h3 hu; exact ⟨_, rfl, fun w hw d ty pos af gd => b7v ht hx hy⟩
   ·cases ht : a2z P t with
    | false => rw [ht] at h; cases h
    | true =>
     rw [ht] at h; simp only [B5, A3] at h; subst h; obtain ⟨b', o, row, h3, _⟩ := d6 rfl hv; have hu : u = _ := d6 rfl hu; subst h3 hu; exact ⟨_, rfl, fun w hw d ty pos af gd => b7v ht hx hy⟩
   ·cases ht : a2z P t with
    | false => rw [ht] at h; cases h
    | true =>
     rw [ht] at h; simp only [B5, A3] at h; subst h; obtain ⟨_, b', o, _, _, _, _, h3⟩ := d6 rfl hv; have hu : u = _ := d6 rfl hu; subst h3 hu; exact ⟨_, rfl, fun w hw d ty pos af gd => b7v ht hx hy⟩
   ·cases ht : a2z P t with
    | false => rw [ht] at h; cases h
    | true =>
     rw [ht] at h; simp only [B5, A3] at h; subst h; have hv : v = _ := d6 rfl hv; have hu : u = _ := d6 rfl hu; subst hv hu; exact ⟨_, rfl, fun w hw d ty pos af gd => b7v ht hx hy⟩
   ·cases h
 ·cases h
def b9e {Z : ZF P E} {t : Nat} {k v : Ty} {y : SV E} {u : Value} {a : k.den E} {z : v.den E} (h : c8j F P Z m.bs t k v y = some (a, z)) (hu : RV m y u) :
  ∃ kt et zv, a9k P t kt et = true /\ a9j P kt (k.enc E) /\ u = k.enc E a /\ (P.info? et).bind (fun i => i.zero) = some zv /\ IsV m.G v z zv := by
 unfold c8j at h
 split at h
 ·rename_i kt et ht; split at h
  ·rename_i k' zs hk hz; cases hd : decide (k' = k) with
   | false => rw [hd] at h; cases h
   | true =>
    rw [hd] at h; simp only [B5] at h; have hd := A6 hd; subst hd; split at h
    ·rename_i a' b' ha hb; simp only [A3, I4] at h; obtain ⟨rfl, rfl⟩ := h; obtain ⟨zv, z1, z2⟩ := Z.zok _ _ hz; obtain ⟨k1, k2⟩ := Z.kok _ _ hk; exact ⟨kt, et, zv, (b3m ht).2, k1, (k2 m.G _ _).1 (a5p F ha hu), z1, a5p F hb (z2 m)⟩
    ·cases h
  ·cases h
 ·cases h
def b0u {m : Mn E} {t : Ty} {x : t.den E} {v : Value} (h : IsV m.G t x v) : V1 m (c2c F t x) v := by
 cases t with
 | st n => obtain ⟨cs, rfl, h⟩ := h; exact e0f (F.opens n x m cs h)
 | _ => exact h
def e8k {Z : ZF P E} (r : Rel w0 G0 s m e w) {t : Nat} {ok : Bool} {a b : Operand} {x y z : SV E} {v u : Value} (ho : opd s a = some x) (hx : opv e a = some v) (hv : RV m x v) (hy : opv e b = some u) (hu : RV m y u) (h : d1s F P Z s t ok x y = some z) :
  Res.ok P m N e (Wd m (dep s (.lookup t a b ok))) (.lookup t a b ok) (.val z) := by
 unfold d1s at h
 split at h
 ·rename_i id; split at h
  ·rename_i ver k vt xs hg; split at h
   ·rename_i ka zb hk; cases h; have hd : dep s (.lookup t a b ok) = some ver := by simp only [dep, ho, St.ver_get hg]
    rw [hd]; obtain ⟨_, h2, _, ⟨bb, o, _, h4, h5, h6⟩, _⟩ := r.wd hg; obtain ⟨_, hv, _⟩ := d6 rfl hv; rw [h5] at hv; subst hv; rw [<- r.bs] at hk; obtain ⟨kt, et, zv, g1, g2, g3, g4, g5⟩ := b9e hk hu; subst g3; letI := Ty.dec E k; letI := rlT E vt; have hat : ∀ w, Wd m (some ver) w -> w.heap[bb]? = some o := fun w hw => (hw.2 ver rfl).2 (bb, o) (by rw [h4]; exact K3 _)
    cases ok with
    | false =>
     obtain ⟨q, q1, q2⟩ := MpO.lookup h6 g2 g1 g4 g5 ka; exact ⟨q, c5a F q1, fun w hw d ty pos af gd => d7v hx hy (q2 w bb (hat w hw))⟩
    | true =>
     obtain ⟨q, q1, q2⟩ := MpO.lookupOk h6 g2 g1 g4 g5 ka; refine ⟨_, ⟨_, rfl, q, _, rfl, b0u (F := F) q1, _, [], rfl, rfl, rfl⟩, fun w hw d ty pos af gd => d1j hx hy (q2 w bb (hat w hw))⟩
   ·cases h
  ·cases h
 ·cases h
def f5a {Z : ZF P E} (r : Rel w0 G0 s m e w) {a : Operand} {x z : SV E} {v : Value} (hx : opv e a = some v) (hv : RV m x v) (h : e0o F P Z s x = some z) :
  ∃ q, RV m z q /\ ∀ d ty pos af gd, j9 P N e w ⟨d, .entry a, ty, pos, af, gd⟩ q := by
 unfold e0o at h
 split at h
 ·rename_i id; split at h
  ·rename_i ver0 mid ver kt k ka left hg; split at h
   ·rename_i ver' k' vt xs hg2; cases hc : Nat.beq ver ver' && Z.kyB kt k with
    | false => rw [hc] at h; cases h
    | true =>
     rw [hc] at h; simp only [B5] at h; rw [A7] at hc; have := A8 hc.1; subst this; obtain ⟨k1, k2⟩ := ZF.kyB_ok hc.2; split at h
     ·rename_i x' hx'; cases h; obtain ⟨e1, e2⟩ := Ty.to_ok (C := fun t => t.den E) hx'; subst e1; simp only at e2; subst e2; obtain ⟨g1, _, _, ⟨rr, it, b, o, _, h4, h5, _, _, h6, h7, h8, h9⟩, _⟩ := r.wd hg; obtain ⟨g2, _, _, ⟨b2, o2, _, q4, q5, q6⟩, _⟩ := r.wd hg2; rw [h6] at q5; injection q5 with q5; injection q5 with q5; subst q5
      rw [h7] at q4; injection q4 with q4; injection q4 with _ q4; subst q4
      obtain ⟨_, b', o', hv1, hv2⟩ := d6 rfl hv; rw [h5] at hv1; simp only [Value.pointer.injEq, A3, Addr.mk.injEq, M0] at hv1; obtain ⟨rfl, rfl⟩ := hv1; subst hv2; letI := Ty.dec E k; letI := rlT E vt; obtain ⟨q, y, y1, y2, y3⟩ := d9u.entry k1.inj q6 h9; have hit : w.heap[rr]? = some it := (g1.2 _ rfl).2 (rr, it) (by rw [h4]; exact K3 _); have hmp : w.heap[b]? = some o := (g2.2 _ rfl).2 (b, o) (by rw [h7]; exact K3 _); refine ⟨_, ⟨_, rfl, _, _, rfl, b0u (F := F) ((k2 m.G ka _).2 rfl), q, [], rfl, ?_, rfl⟩, fun d ty pos af gd => d9v hx (y3 w rr hit hmp)⟩; have : a0f k vt xs ka = some y := y1; rw [this]; exact b0u (F := F) y2
     ·cases h
   ·cases h
  ·cases h
 ·cases h
def a8s {m : Mn E} {x : SV E} {v : Value} (h : V1 m x v) : RV m x v := by
 cases x <;> first | exact h | (cases h; done)
def e0s {m : Mn E} : ∀ {l : List (SV E)} {vs : List Value} {i : Nat} {x : SV E}, LV m l vs -> l[i]? = some x -> ∃ v, vs[i]? = some v /\ V1 m x v
 | [], _, _, _, _, h => by simp at h
 | a :: l, vs, i, x, ⟨v, us, e1, e2, e3⟩, h => by
  subst e1; cases i with
  | zero => simp at h; subst h; exact ⟨v, rfl, e2⟩
  | succ i => simpa using e0s e3 (by simpa using h)
def f5b {Z : ZF P E} (r : Rel w0 G0 s m e w) {op : Op} {q : Res E} (h : ev1 F P Z s op = some q) : q.ok P m N e (Wd m (dep s op)) op := by
 unfold ev1 at h
 split at h
 ·obtain ⟨y, hy, rfl⟩ := D8.1 h; obtain ⟨v, h1, h2⟩ := d8 r hy; exact ⟨v, h2, fun w hw d ty pos af gd => f4m h1⟩
 ·obtain ⟨y, hy, rfl⟩ := D8.1 h; obtain ⟨v, h1, h2⟩ := d8 r hy; exact ⟨v, h2, fun w hw d ty pos af gd => d9n h1⟩
 ·split at h
  ·rename_i cv hc; split at h
   ·rename_i b hb; obtain ⟨y, hy, rfl⟩ := D8.1 h; obtain ⟨v, h1, h2⟩ := d8 r hc; rw [<- r.bs] at hb; have := a5o hb h2; subst this; cases b with
    | true => obtain ⟨u, h3, h4⟩ := d8 r hy; exact ⟨u, h4, fun w hw d ty pos af gd => c4t h1 h3⟩
    | false => obtain ⟨u, h3, h4⟩ := d8 r hy; exact ⟨u, h4, fun w hw d ty pos af gd => c4u h1 h3⟩
   ·cases h
  ·cases h
 ·split at h
  ·rename_i a b ha hb; obtain ⟨v, h1, h2⟩ := d8 r ha; obtain ⟨u, h3, h4⟩ := d8 r hb; split at h
   ·rename_i k n k' n' g1 g2; have := a2u g1 h2; subst this; have := a2u g2 h4; subst this; exact e8c h1 h3 h
   ·exact e8j r h1 h2 h3 h4 h
  ·cases h
 ·split at h
  ·rename_i a ha; split at h
   ·rename_i b hb; cases h; obtain ⟨v, h1, h2⟩ := d8 r ha; rw [<- r.bs] at hb; have := a5o hb h2; subst this; exact fun w hw d ty pos af gd => g1q h1
   ·cases h
  ·cases h
 ·split at h
  ·rename_i l hl; obtain ⟨y, hy, rfl⟩ := D8.1 h; obtain ⟨v, h1, vs, rfl, h2⟩ := d8 r hl; obtain ⟨u, h3, h4⟩ := e0s h2 hy; exact ⟨u, a8s h4, fun w hw d ty pos af gd => c2n h1 (by simpa using h3)⟩
  ·rename_i i _ hl; cases hi : Nat.beq i 0 with
   | false => rw [hi] at h; cases h
   | true =>
    rw [hi] at h; simp only [B5, A3] at h; subst h; have := A8 hi; subst this; obtain ⟨v, h1, vs, rfl, h2⟩ := d8 r hl; exact ⟨.bool true, rfl, fun w hw d ty pos af gd => c2n h1 h2⟩
  ·cases h
 ·rename_i A0 _ _; split at h
  ·rename_i y hy; obtain ⟨z, hz, rfl⟩ := D8.1 h; obtain ⟨v, h1, h2⟩ := d8 r hy; unfold f2j at hz; split at hz
   ·rename_i k' n k g1 g2; cases hs : (P.underlying A0).isSome with
    | false => rw [hs] at hz; cases hz
    | true =>
     rw [hs] at hz; simp only [B5, A3] at hz; subst hz; have := a2u g1 h2; subst this; exact ⟨_, a4l, fun w hw d ty pos af gd => f4n h1 hs g2⟩
   ·cases hz
  ·cases h
 ·split at h
  ·rename_i hy; obtain ⟨z, hz, rfl⟩ := D8.1 h; obtain ⟨v, h1, h2⟩ := d8 r hy; exact c5i h1 h2 hz
  ·cases h
 ·split at h
  ·rename_i hy; obtain ⟨z, hz, rfl⟩ := D8.1 h; obtain ⟨v, h1, h2⟩ := d8 r hy; exact e0p h1 h2 hz
  ·cases h
 ·split at h
  ·rename_i hy; obtain ⟨z, hz, rfl⟩ := D8.1 h; obtain ⟨v, h1, h2⟩ := d8 r hy; exact e8h r hy h1 h2 hz
  ·cases h
 ·split at h
  ·rename_i hy; cases h; obtain ⟨v, h1, h2⟩ := d8 r hy; have h2' := h2; obtain ⟨_, b', o, _, h3⟩ := d6 rfl h2; subst h3; exact ⟨_, h2', fun w hw d ty pos af gd => a8a h1⟩
  ·rename_i hy; cases h; obtain ⟨v, h1, h2⟩ := d8 r hy; have h2' := h2; obtain ⟨_, b', o, _, _, _, _, h3⟩ := d6 rfl h2; subst h3; exact ⟨_, h2', fun w hw d ty pos af gd => a8a h1⟩
  ·rename_i hy; cases h; obtain ⟨v, h1, h2⟩ := d8 r hy; have h2' := h2; obtain ⟨b', o, row, h3, _⟩ := d6 rfl h2; subst h3; exact ⟨_, h2', fun w hw d ty pos af gd => a8a h1⟩
  ·rename_i hy; cases h; obtain ⟨v, h1, h2⟩ := d8 r hy; have h2' := h2; obtain ⟨_, _, b', o, _, h3⟩ := d6 rfl h2; subst h3; exact ⟨_, h2', fun w hw d ty pos af gd => a8a h1⟩
  ·cases h
 ·split at h
  ·rename_i a b ha hb; split at h
   ·rename_i k n hk; obtain ⟨v, h1, h2⟩ := d8 r ha; obtain ⟨u, h3, h4⟩ := d8 r hb; have := a2u hk h4; subst this; exact e0q r h1 h2 h3 h
   ·cases h
  ·cases h
 ·rename_i f a b; split at h
  ·rename_i l ha hb; cases hl : b9c l with
   | false => rw [hl] at h; cases h
   | true =>
    rw [hl] at h; simp only [B5, A3] at h; subst h; obtain ⟨vs, h1, h2, h3⟩ := a2g r hb; obtain rfl : a = #[] := J5 ha; refine ⟨_, ⟨vs, rfl, f2k hl (by rw [h2]; exact a0z hb) h3⟩, fun w hw d ty pos af gd => b8p (fun a ha => by simp) (fun a ha => ?_)⟩; have := ha.evals h1; simpa using this
  ·cases h
 ·rename_i t ps; split at h
  ·rename_i z l hz hl; cases hs : b3b P t (c5e P t) with
   | false =>
    rw [hs] at h; simp only [B8] at h; split at h
    ·rename_i d0 el _; cases ha : a2y P t 32 el 1 with
     | false => rw [ha] at h; cases h
     | true =>
      rw [ha] at h; simp only [B5] at h; split at h
      ·rename_i d hd; cases h; obtain ⟨cs, h1, h2⟩ := Z.ok _ _ hz; have h3 : cs = d0.cells := (h2 m).one_; subst h3; obtain ⟨vs, b1, b2, b3⟩ := a2g r hl; exact ⟨_, rfl, fun w hw d ty pos af gd => b2h (ps := ps.toList) ha h1 b1 rfl (d4a hd (by rw [b2, a0z hl]) b3)⟩
      ·cases h
    ·rename_i k n l0 el _; cases ha : a2y P t n el 1 with
     | false => rw [ha] at h; cases h
     | true =>
      rw [ha] at h; simp only [B5] at h; split at h
      ·rename_i l' hd; cases h; obtain ⟨cs, h1, h2⟩ := Z.ok _ _ hz; obtain ⟨rfl, h3⟩ := (h2 m).one_; obtain ⟨vs, b1, b2, b3⟩ := a2g r hl; obtain ⟨k1, k2⟩ := d4c hd h3 (by rw [b2, a0z hl]) b3; exact ⟨_, ⟨rfl, k2⟩, fun w hw d ty pos af gd => b2h (ps := ps.toList) ha h1 b1 rfl k1⟩
      ·cases h
    ·rename_i z _ _ el _ _ _; cases ha : a2y P t z.length el 1 with
     | false => rw [ha] at h; cases h
     | true =>
      rw [ha] at h; simp only [B5] at h; split at h
      ·rename_i c hd; cases h; obtain ⟨cs, h1, h2⟩ := Z.ok _ _ hz; obtain ⟨vs, b1, b2, b3⟩ := a2g r hl; obtain ⟨cs', k1, k2⟩ := d4f hd (h2 m) (by rw [b2, a0z hl]) b3; exact ⟨_, ⟨cs', rfl, k2⟩, fun w hw d ty pos af gd => b2h (ps := ps.toList) ha h1 b1 rfl k1⟩
      ·cases h
    ·cases h
   | true =>
    rw [hs] at h; simp only [B5] at h; split at h
    ·rename_i c hc; cases h; obtain ⟨cs, h1, h2⟩ := Z.ok _ _ hz; obtain ⟨vs, b1, b2, b3⟩ := a2g r hl; obtain ⟨cs', g1, g2⟩ := c8e hc (h2 m) (by rw [b2, a0z hl]) b3; exact ⟨_, a7j g2, fun w hw d ty pos af gd => e7t (ps := ps.toList) hs h1 b1 rfl g1⟩
    ·cases h
  ·cases h
 ·exact e8i r h
 ·split at h
  ·rename_i ha hb; obtain ⟨z, hz, rfl⟩ := D8.1 h; obtain ⟨v, h1, h2⟩ := d8 r ha; obtain ⟨u, h3, h4⟩ := d8 r hb; exact e8k r ha h1 h2 h3 h4 hz
  ·cases h
 ·cases h
def a9n {Z : ZF P E} (r : Rel w0 G0 s m e w) {op : Op} {q : Res E} (h : ev F P Z s op = some q) : q.ok P m N e (Wd m (dep s op)) op := by
 unfold ev at h
 split at h
 ·rename_i h1; cases h; exact f5b r h1
 ·exact e0n r (fun w hw => hw.1) h
end
variable {E : DE}
def Mn.g (m : Mn E) (G : Gh) : Mn E := { m with G := G }
def Mn.g_up {m : Mn E} {G : Gh} (h : GLe m.G G) : Up m (m.g G) := ⟨h, B9 _, fun _ _ => rfl, B9 _, fun _ _ => rfl, fun _ _ => rfl, fun _ _ => rfl, fun _ _ => rfl⟩
def e0t : List (Nat × Nat × HB E) -> Nat -> Nat -> HB E -> List (Nat × Nat × HB E)
 | [], _, _, _ => []
 | (k, q, v) :: r, id, n, x => bif Nat.beq k id then (n, n, x) :: r else (k, q, v) :: e0t r id n x
def HR.ren {m : Mn E} {id k : Nat} {x : HB E} : ∀ {h : List (Nat × Nat × HB E)} {bl : List Bx} {L : List (Nat × Obj)}, HR m h bl L -> o6 h id = some (k, x) ->
  ∃ p q A B, bl = p ++ (m.R k ++ q) /\ L = A ++ (m.O k ++ B) /\
   ∀ (m' : Mn E) (x' : HB E) (bs : List Bx) (os : List (Nat × Obj)) (v : Value), Up m m' -> HB1 m' x' v bs os -> HR (m'.add v x' bs os) (e0t h id m'.n x') (p ++ (bs ++ q)) (A ++ (os ++ B))
 | [], _, _, _, hg => by cases hg
 | (k', j, y) :: r, bl, L, ⟨bl', L', h1, h2, h3, h4, h5, h6, h7⟩, hg => by
  unfold o6 at hg; cases hb : Nat.beq k' id with
  | true =>
   rw [hb] at hg; simp only [B5, A3, I4] at hg; obtain ⟨rfl, rfl⟩ := hg; refine ⟨[], bl', [], L', h1, h2, fun m' x' bs os v u hx => ?_⟩; simp only [e0t, hb, B5]; exact ⟨bl', L', by rw [Mn.add_R]; rfl, by rw [Mn.add_O]; rfl, N4 _, N4 _, Mn.add_C, by
    rw [Mn.add_R, Mn.add_O, Mn.add_ν]; exact hx.up Mn.add_up, (h7.up u).up Mn.add_up⟩
  | false =>
   rw [hb] at hg; obtain ⟨p, q, A, B, g1, g2, g7⟩ := h7.ren hg; refine ⟨m.R j ++ p, q, m.O j ++ A, B, by rw [h1, g1, B6], by rw [h2, g2, B6], fun m' x' bs os v u hx => ?_⟩; simp only [e0t, hb, B8]; have u2 : Up m (m'.add v x' bs os) := u.trans Mn.add_up; exact ⟨p ++ (bs ++ q), A ++ (os ++ B), by rw [u2.r _ h4, B6], by rw [u2.o _ h4, B6], C3 h3 u2.n, C3 h4 u2.n, (u2.c _ h4).trans h5, by
    rw [u2.ν _ h3, u2.r _ h4, u2.o _ h4]; exact h6.up u2, g7 m' x' bs os v u hx⟩
section
variable {w0 w : World} {G0 : Gh} {s : St E} {m : Mn E} {e : Env} {id k : Nat} {x : HB E}
def St.turn (s : St E) (id : Nat) (x : HB E) : St E := { s with hp := e0e s.hp id s.n x, n := s.n + 1 }
def St.ren (s : St E) (id : Nat) (x : HB E) : St E := { s with hp := e0t s.hp id s.n x, n := s.n + 1 }
def St.new (s : St E) (x : HB E) : St E := { s with hp := (s.n, s.n, x) :: s.hp, n := s.n + 1 }
def RelH.turn (r : RelH w0 G0 s m w) (hg : o6 s.hp id = some (k, x)) : ∃ p q A B, Cx w0 G0 m.G w ⟨[], A ++ (m.O k ++ B)⟩ /\ Bxs m.G w w0.heap.size (p ++ (m.R k ++ q)) ⟨[], A ++ (m.O k ++ B)⟩ /\
  ∀ G' w' x' bs os, GLe m.G G' -> Cx w0 G0 G' w' ⟨[], A ++ (os ++ B)⟩ -> Bxs G' w' w0.heap.size (p ++ (bs ++ q)) ⟨[], A ++ (os ++ B)⟩ -> HB1 (m.g G') x' (m.ν id) bs os ->
   Up m ((m.g G').add undef x' bs os) /\ RelH w0 G0 (s.turn id x') ((m.g G').add undef x' bs os) w' := by
 obtain ⟨bl, L, hC, hB, hH⟩ := r.bx
 obtain ⟨p, q, A, B, rfl, rfl, _, _, _, _, h6⟩ := hH.split hg
 refine ⟨p, q, A, B, hC, hB, fun G' w' x' bs os hG hC' hB' hx => ⟨(Mn.g_up hG).trans Mn.add_up, ⟨_, _, hC', hB', ?_⟩, by simp [Mn.add, Mn.g, St.turn, r.n], r.bs⟩⟩
 have := h6 (m.g G') x' bs os undef (Mn.g_up hG) hx
 rwa [show (m.g G').n = s.n from r.n] at this
def RelH.ren (r : RelH w0 G0 s m w) (hg : o6 s.hp id = some (k, x)) : ∃ p q A B, Cx w0 G0 m.G w ⟨[], A ++ (m.O k ++ B)⟩ /\ Bxs m.G w w0.heap.size (p ++ (m.R k ++ q)) ⟨[], A ++ (m.O k ++ B)⟩ /\
  ∀ G' w' x' v bs os, GLe m.G G' -> Cx w0 G0 G' w' ⟨[], A ++ (os ++ B)⟩ -> Bxs G' w' w0.heap.size (p ++ (bs ++ q)) ⟨[], A ++ (os ++ B)⟩ -> HB1 (m.g G') x' v bs os ->
   Up m ((m.g G').add v x' bs os) /\ RelH w0 G0 (s.ren id x') ((m.g G').add v x' bs os) w' := by
 obtain ⟨bl, L, hC, hB, hH⟩ := r.bx
 obtain ⟨p, q, A, B, rfl, rfl, h6⟩ := hH.ren hg
 refine ⟨p, q, A, B, hC, hB, fun G' w' x' v bs os hG hC' hB' hx => ⟨(Mn.g_up hG).trans Mn.add_up, ⟨_, _, hC', hB', ?_⟩, by simp [Mn.add, Mn.g, St.ren, r.n], r.bs⟩⟩
 have := h6 (m.g G') x' bs os v (Mn.g_up hG) hx
 rwa [show (m.g G').n = s.n from r.n] at this
def RelH.new (r : RelH w0 G0 s m w) : ∃ bl L, Cx w0 G0 m.G w ⟨[], L⟩ /\ Bxs m.G w w0.heap.size bl ⟨[], L⟩ /\
  ∀ G' w' x' v bs os, GLe m.G G' -> Cx w0 G0 G' w' ⟨[], os ++ L⟩ -> Bxs G' w' w0.heap.size (bs ++ bl) ⟨[], os ++ L⟩ -> HB1 (m.g G') x' v bs os ->
   Up m ((m.g G').add v x' bs os) /\ RelH w0 G0 (s.new x') ((m.g G').add v x' bs os) w' := by
 obtain ⟨bl, L, hC, hB, hH⟩ := r.bx
 refine ⟨bl, L, hC, hB, fun G' w' x' v bs os hG hC' hB' hx => ⟨(Mn.g_up hG).trans Mn.add_up, ⟨_, _, hC', hB', ?_⟩, by simp [Mn.add, Mn.g, St.new, r.n], r.bs⟩⟩
 have := (hH.up (Mn.g_up hG)).new (v := v) hx
 rwa [show (m.g G').n = s.n from r.n] at this
def HR.mem_of {bl : List Bx} {L : List (Nat × Obj)} {m : Mn E} {h : List (Nat × Nat × HB E)} {id k : Nat} {x : HB E} (hH : HR m h bl L) (hg : o6 h id = some (k, x)) : ∀ X ∈ m.R k, X ∈ bl := by
 obtain ⟨p, q, A, B, h1, _⟩ := hH.split hg
 intro X hX
 rw [h1]; simp [hX]
def RelH.ren' (r : RelH w0 G0 s m w) (hg : o6 s.hp id = some (k, x)) : ∃ p q A B, (∀ id' k' x', o6 s.hp id' = some (k', x') -> ∀ X ∈ m.R k', X ∈ p ++ (m.R k ++ q)) /\ Cx w0 G0 m.G w ⟨[], A ++ (m.O k ++ B)⟩ /\ Bxs m.G w w0.heap.size (p ++ (m.R k ++ q)) ⟨[], A ++ (m.O k ++ B)⟩ /\
  ∀ G' w' x' v bs os, GLe m.G G' -> Cx w0 G0 G' w' ⟨[], A ++ (os ++ B)⟩ -> Bxs G' w' w0.heap.size (p ++ (bs ++ q)) ⟨[], A ++ (os ++ B)⟩ -> HB1 (m.g G') x' v bs os ->
   Up m ((m.g G').add v x' bs os) /\ RelH w0 G0 (s.ren id x') ((m.g G').add v x' bs os) w' := by
 obtain ⟨bl, L, hC, hB, hH⟩ := r.bx
 have hmem := fun id' k' x' (h : o6 s.hp id' = some (k', x')) => hH.mem_of h
 obtain ⟨p, q, A, B, rfl, rfl, h6⟩ := hH.ren hg
 refine ⟨p, q, A, B, hmem, hC, hB, fun G' w' x' v bs os hG hC' hB' hx => ⟨(Mn.g_up hG).trans Mn.add_up, ⟨_, _, hC', hB', ?_⟩, by simp [Mn.add, Mn.g, St.ren, r.n], r.bs⟩⟩
 have := h6 (m.g G') x' bs os v (Mn.g_up hG) hx
 rwa [show (m.g G').n = s.n from r.n] at this
def RelH.new' (r : RelH w0 G0 s m w) : ∃ bl L, (∀ id' k' x', o6 s.hp id' = some (k', x') -> ∀ X ∈ m.R k', X ∈ bl) /\ Cx w0 G0 m.G w ⟨[], L⟩ /\ Bxs m.G w w0.heap.size bl ⟨[], L⟩ /\
  ∀ G' w' x' v bs os, GLe m.G G' -> Cx w0 G0 G' w' ⟨[], os ++ L⟩ -> Bxs G' w' w0.heap.size (bs ++ bl) ⟨[], os ++ L⟩ -> HB1 (m.g G') x' v bs os ->
   Up m ((m.g G').add v x' bs os) /\ RelH w0 G0 (s.new x') ((m.g G').add v x' bs os) w' := by
 obtain ⟨bl, L, hC, hB, hH⟩ := r.bx
 have hmem := fun id' k' x' (h : o6 s.hp id' = some (k', x')) => hH.mem_of h
 refine ⟨bl, L, hmem, hC, hB, fun G' w' x' v bs os hG hC' hB' hx => ⟨(Mn.g_up hG).trans Mn.add_up, ⟨_, _, hC', hB', ?_⟩, by simp [Mn.add, Mn.g, St.new, r.n], r.bs⟩⟩
 have := (hH.up (Mn.g_up hG)).new (v := v) hx
 rwa [show (m.g G').n = s.n from r.n] at this
def e0u (s : St E) : SV E -> Option (St E)
 | .own id => match o6 s.hp id with
  | some (_, .arr t _ xs) => some (s.turn id (.fz t xs))
  | some (_, .fz _ _) => some s
  | _ => none
 | _ => some s
def d7z (s : St E) : List (SV E) -> Option (St E)
 | [] => some s
 | x :: r => match e0u s x with | some s' => d7z s' r | none => none
def frz (s : St E) : SV E -> Option (St E)
 | .agg l => d7z s l
 | x => e0u s x
def b5e (s : St E) : List (SV E) -> Option (St E)
 | [] => some s
 | x :: r => match frz s x with | some s' => b5e s' r | none => none
def GLe.refl (G : Gh) : GLe G G := fun _ _ h => h
def c5j (r : RelH w0 G0 s m w) {y : SV E} {s' : St E} (h : e0u s y = some s') : ∃ m', Up m m' /\ RelH w0 G0 s' m' w /\ s'.sl = s.sl /\ s'.bs = s.bs := by
 unfold e0u at h
 split at h
 ·split at h
  ·rename_i k t el xs hg; cases h; obtain ⟨_, _, _, ⟨o, h3, h4, h5, h6⟩, _⟩ := r.wd hg; obtain ⟨p, q, A, B, hC, hB, hk⟩ := r.turn hg; rw [h3, h4] at hB; rw [h4] at hC; obtain ⟨G', k1, k2, k3, k4⟩ := h5.freeze' hC (B9 _) hB h6; obtain ⟨u, r'⟩ := hk G' w (.fz t xs) [] [] k1 k2 k3 ⟨rfl, rfl, k4⟩; exact ⟨_, u, r', rfl, rfl⟩
  ·cases h; exact ⟨m, Up.refl m, r, rfl, rfl⟩
  ·cases h
 ·cases h; exact ⟨m, Up.refl m, r, rfl, rfl⟩
def c5k : ∀ {l : List (SV E)} {s s' : St E} {m : Mn E}, RelH w0 G0 s m w -> d7z s l = some s' -> ∃ m', Up m m' /\ RelH w0 G0 s' m' w /\ s'.sl = s.sl /\ s'.bs = s.bs
 | [], s, s', m, r, h => by simp only [d7z, A3] at h; subst h; exact ⟨m, Up.refl m, r, rfl, rfl⟩
 | x :: l, s, s', m, r, h => by
  simp only [d7z] at h; split at h
  ·rename_i s1 h1; obtain ⟨m1, u1, r1, e1, e2⟩ := c5j r h1; obtain ⟨m2, u2, r2, e3, e4⟩ := c5k r1 h; exact ⟨m2, u1.trans u2, r2, e3.trans e1, e4.trans e2⟩
  ·cases h
def a9o (r : RelH w0 G0 s m w) {y : SV E} {s' : St E} (h : frz s y = some s') : ∃ m', Up m m' /\ RelH w0 G0 s' m' w /\ s'.sl = s.sl /\ s'.bs = s.bs := by
 unfold frz at h
 split at h
 ·exact c5k r h
 ·exact c5j r h
def a8c : ∀ {l : List (SV E)} {s s' : St E} {m : Mn E}, RelH w0 G0 s m w -> b5e s l = some s' -> ∃ m', Up m m' /\ RelH w0 G0 s' m' w /\ s'.sl = s.sl /\ s'.bs = s.bs
 | [], s, s', m, r, h => by simp only [b5e, A3] at h; subst h; exact ⟨m, Up.refl m, r, rfl, rfl⟩
 | x :: l, s, s', m, r, h => by
  simp only [b5e] at h; split at h
  ·rename_i s1 h1; obtain ⟨m1, u1, r1, e1, e2⟩ := a9o r h1; obtain ⟨m2, u2, r2, e3, e4⟩ := a8c r1 h; exact ⟨m2, u1.trans u2, r2, e3.trans e1, e4.trans e2⟩
  ·cases h
def Rel.mem {s' : St E} {m' : Mn E} {w' : World} (r : Rel w0 G0 s m e w) (u : Up m m') (h : RelH w0 G0 s' m' w') (hs : s'.sl = s.sl) : Rel w0 G0 s' m' e w' :=
 ⟨h, fun t x ht => by rw [hs] at ht; obtain ⟨v, h1, h2⟩ := r.sl t x ht; exact ⟨v, h1, h2.up u⟩⟩
end
end Go.Vz
