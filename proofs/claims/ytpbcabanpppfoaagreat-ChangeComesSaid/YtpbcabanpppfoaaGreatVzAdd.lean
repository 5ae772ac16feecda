/- Walks by reckoning: more reading operations. No condition. -/
import Derived.Test.YtpbcabanpppfoaaGreatVzVec
import Derived.Test.YtpbcabanpppfoaaGreatGxSlot
import Derived.Laws.BytesString
set_option linter.all false
namespace Go.Vz
open Go Go.Gx
variable {E : DE} (F : DF E) (P : Program)
def sizeT (P : Program) (t : Nat) : Option Nat := (P.info? t).map (·.size)
/-- A part of a row, as a value of a type. -/
def partSV (P : Program) (l : List (SV E)) (o t : Nat) : Option (SV E) := match sizeT P t with
  | none => none
  | some n => bif rowOk P t n then match seg l o n with | some r => some (mkRow r) | none => none
    else bif oneOk P t then match seg l o 1 with | some [x] => bif leaf x then some x else none | _ => none else none
def bndO (s : St E) (z : Int) : Option Operand → Option Int
  | none => some z
  | some y => match opd s y with
    | some b => match asI b with
      | some (_, n) => some n
      | none => none
    | none => none
def sliceElT (P : Program) (t : Nat) : Option Nat := match P.underlying t with | some (.slice e) => some e | _ => none
def isStrT (P : Program) (t : Nat) : Bool := match P.underlying t with | some .string => true | _ => false
/-- The first bytes, as a digest. -/
def digL (l : List UInt8) : Dig := if h : 32 ≤ l.length then ⟨l.take 32, by rw [List.length_take]; omega⟩ else Dig.zero
/-- The function behind a method of a pointer. -/
def methF (P : Program) (T : Nat) (name : String) : Option Nat := match P.info? T, P.underlying T with
  | some i, some (.pointer _) => match i.methods.find? (·.name == name) with
    | some m => match m.path.toList, m.func with
      | [], some (f, true) => some f
      | _, _ => none
    | none => none
  | _, _ => none
/-- A part of an array in a box. -/
def slArr (P : Program) (s : St E) (t id off : Nat) (lo hi : Option Operand) : Option (Res E) := match P.underlying t with
  | some (.array n el) => match bndO s 0 lo, bndO s (n : Int) hi with
    | some l, some h => bif arrOk P t n el 1 then some (.need (decide (0 ≤ l) && (decide (l ≤ h) && (decide (h ≤ (n : Int)) && decide (l < (n : Int))))) (.vsl id off n l.toNat (h.toNat - l.toNat))) else none
    | _, _ => none
  | _ => none
/-- More of what a reading operation comes to. -/
def ev2 (s : St E) : Op → Option (Res E)
  | .unOp .neg _ x => match opd s x with
    | some a => match asI a with | some (k, n) => some (.val (mkI k (k.wrap (0 - n)))) | none => none
    | none => none
  | .unOp .xor _ x => match opd s x with
    | some a => match asI a with | some (k, n) => some (.val (mkI k (bitK .xor k (if k.signed then -1 else k.max) n))) | none => none
    | none => none
  | .index t x y => match opd s x, opd s y with
    | some (.str l), some b => match asI b with
      | some (_, n) => bif isStrT P t then some (.need (decide (0 ≤ n) && decide (n < (l.length : Int))) (.u8 (l.getD n.toNat 0))) else none
      | none => none
    | some (.agg l), some b => match asI b, P.underlying t with
      | some (_, n), some (.array len el) => match sizeT P el with
        | some sz => match partSV P l (n.toNat * sz) el with
          | some x => some (.need (decide (0 ≤ n) && decide (n < (len : Int))) x)
          | none => none
        | none => none
      | _, _ => none
    | some (.dig d), some b => match asI b with
      | some (_, n) => bif bytes32 P t then some (.need (decide (0 ≤ n) && decide (n < 32)) (.u8 (d.l.getD n.toNat 0))) else none
      | none => none
    | some (.vec k n l), some b => match asI b, arrEl P t with
      | some (_, i), some el => bif arrOk P t n el 1 && oneOk P el then some (.need (decide (0 ≤ i) && decide (i < (n : Int))) (.i k (l.getD i.toNat 0))) else none
      | _, _ => none
    | _, _ => none
  | .slice t x lo hi none => match opd s x with
    | some (.sl u xs) => match sliceElT P t, bndO s 0 lo, bndO s (xs.length : Int) hi with
      | some el, some l, some h => bif sliceOk P t el ((Ty.rp E u).sz) then some (.need (decide (0 ≤ l) && (decide (l ≤ h) && decide (h ≤ (xs.length : Int)))) (.sl u ((xs.take h.toNat).drop l.toNat))) else none
      | _, _, _ => none
    | some (.ptr id off) => match lo, hi with
      | none, none => bif bytes32 P t then some (.val (.vw id off)) else slArr P s t id off none none
      | lo, hi => slArr P s t id off lo hi
    | some (.elm u x off) => match lo, hi, dropW off (opn F u x) with
      | none, none, some (.dig d :: _) => bif bytes32 P t then some (.val (.sl .u8 d.l)) else none
      | _, _, _ => none
    | _ => none
  | .convert a b x => match opd s x with
    | some (.sl u xs) => match Ty.to (fun t => List (t.den E)) u .u8 xs with
      | some ys => match P.underlying a, P.underlying b with
        | some (.slice e), some .string => match P.underlying e with | some (.int .u8) => some (.val (.str ys)) | _ => none
        | _, _ => none
      | none => none
    | some (.str ys) => bif isStrT P b && (P.underlying a).isSome then some (.val (.str ys)) else none
    | _ => none
  | .sliceToArrayPointer t x => match opd s x with
    | some (.sl u xs) => match Ty.to (fun t => List (t.den E)) u .u8 xs with
      | some ys => bif bytes32 P t then some (.need (decide (32 ≤ ys.length)) (.elm .dig (digL ys) 0)) else none
      | none => none
    | _ => none
  | .makeInterface T x => match opd s x with
    | some (.ptr id off) => match P.underlying T with | some (.pointer _) => some (.val (.ifc T id off)) | _ => none
    | _ => none
  | .makeFunc (.method name) a b => match a.toList, b.toList with
    | [x], [] => match opd s x with | some y => bif leaf y then some (.val (.mth y name)) else none | none => none
    | _, _ => none
  | .nilCheck x => match opd s x with
    | some (.mth (.ifc T id off) name) => match methF P T name with | some _ => some (.val (.mth (.ifc T id off) name)) | none => none
    | some (.ifc T id off) => some (.val (.ifc T id off))
    | _ => none
  | .binOp op t x y _ => match opd s x, opd s y with
    | some (.str a), some (.str b) => match op with
      | .eql => bif isStrT P t then some (.cmp (decide (a = b))) else none
      | .neq => bif isStrT P t then some (.cmp (!decide (a = b))) else none
      | _ => none
    | _, _ => none
  | _ => none
section
variable {F P}
variable {m : Mn E} {N : Nat} {e : Env} {w w0 : World} {G0 : Gh} {s : St E} {W : World → Prop}
theorem partSV_ok {l : List (SV E)} {o t : Nat} {x : SV E} {cs : List Value} (h : partSV P l o t = some x) (hc : RC m l cs) :
    (∃ n r, rowOk P t n = true ∧ r = (cs.drop o).take n ∧ r.length = n ∧ RV m x (.agg r.toArray)) ∨ (oneOk P t = true ∧ ∃ v, cs[o]? = some v ∧ RV m x v) := by
  unfold partSV at h
  split at h
  · cases h
  · rename_i n hn
    cases hr : rowOk P t n with
    | true =>
      rw [hr] at h
      simp only [cond_true] at h
      split at h
      · rename_i r hs
        simp only [Option.some.injEq] at h
        subst h
        obtain ⟨h1, h2⟩ := hc.seg hs
        exact .inl ⟨n, _, hr, rfl, h2, mkRow_ok h1⟩
      · cases h
    | false =>
      rw [hr] at h
      cases ho : oneOk P t with
      | false => rw [ho] at h; cases h
      | true =>
        rw [ho] at h
        simp only [cond_false, cond_true] at h
        split at h
        · rename_i y hs
          cases hlf : leaf y with
          | false => rw [hlf] at h; cases h
          | true =>
          rw [hlf] at h
          simp only [cond_true, Option.some.injEq] at h
          subst h
          obtain ⟨h1, h2⟩ := hc.seg hs
          have hl : ∃ v, (cs.drop o).take 1 = [v] ∧ RV m y v := by
            obtain ⟨v, e1, e2⟩ := h1.one_.leaf_ hlf
            exact ⟨v, e1, leaf_RV hlf e2⟩
          obtain ⟨v, e1, e2⟩ := hl
          refine .inr ⟨rfl, v, ?_, e2⟩
          have := congrArg (·[0]?) e1
          simpa [List.getElem?_take] using this
        · cases h
theorem opNeg {t : TypeId} {x : Operand} {k : IntKind} {n : Int} (hx : opv e x = some (.int k n)) {d ty pos af gd} : OpVal P N e w ⟨d, .unOp .neg t x, ty, pos, af, gd⟩ (.int k (k.wrap (0 - n))) := fun a ha => by
  simp [execOp, ha.eval hx, Op.unary, Op.intArith]
theorem opCpl {t : TypeId} {x : Operand} {k : IntKind} {n : Int} (hx : opv e x = some (.int k n)) {d ty pos af gd} : OpVal P N e w ⟨d, .unOp .xor t x, ty, pos, af, gd⟩ (.int k (bitK .xor k (if k.signed then -1 else k.max) n)) := fun a ha => by
  simp [execOp, ha.eval hx, Op.unary, Op.intBits, bitK]
theorem opSliceG {t el sz : Nat} {x : Operand} {lo hi : Option Operand} {A : Option Addr} {n cap l h : Nat} (ht : sliceOk P t el sz = true) (hx : opv e x = some (.slice A n cap))
    (hlo : (lo = none ∧ l = 0) ∨ ∃ y k, lo = some y ∧ opv e y = some (.int k (l : Int))) (hhi : (hi = none ∧ h = n) ∨ ∃ y k, hi = some y ∧ opv e y = some (.int k (h : Int))) (h1 : l ≤ h) (h2 : h ≤ cap) {d ty pos af gd} :
    OpVal P N e w ⟨d, .slice t x lo hi none, ty, pos, af, gd⟩ (.slice (if cap = l then A else A.map (·.add (l * sz))) (h - l) (cap - l)) := fun a ha => by
  unfold sliceOk at ht
  rw [Bool.and_eq_true] at ht
  obtain ⟨g1, g2⟩ := ht
  revert g1
  split
  · rename_i e' hu
    intro g1
    rw [← Nat.eq_of_beq_eq_true g1] at hu
    cases hq : P.info? el with
    | none => simp [hq] at g2
    | some tinf =>
      rw [hq] at g2
      have hz := Nat.eq_of_beq_eq_true g2
      have hb : (0 : Int) ≤ (h : Int) ∧ (h : Int) ≤ (cap : Int) := by omega
      have hA : (A.map fun x => x.add 0) = A := by cases A <;> simp [Addr.add]
      have hc : (l : Int) ≤ (h : Int) := by omega
      rcases hlo with ⟨rfl, rfl⟩ | ⟨y, k, rfl, hy⟩
      · rcases hhi with ⟨rfl, rfl⟩ | ⟨y', k', rfl, hy'⟩
        · simp [execOp, ha.eval hx, Instr.sliceAt, Instr.slice, run_underlying hu, Instr.sliceBounds, sizeOf, typeInfo, hq, hz]
        · simp [execOp, ha.eval hx, ha.eval hy', Instr.sliceAt, Instr.slice, run_underlying hu, Instr.sliceBounds, Instr.sliceBound, asIntOf, sizeOf, typeInfo, hq, hz, h2]
      · rcases hhi with ⟨rfl, rfl⟩ | ⟨y', k', rfl, hy'⟩
        · simp [execOp, ha.eval hx, ha.eval hy, Instr.sliceAt, Instr.slice, run_underlying hu, Instr.sliceBounds, Instr.sliceBound, asIntOf, sizeOf, typeInfo, hq, hz, h1]
        · simp [execOp, ha.eval hx, ha.eval hy, ha.eval hy', Instr.sliceAt, Instr.slice, run_underlying hu, Instr.sliceBounds, Instr.sliceBound, asIntOf, sizeOf, typeInfo, hq, hz, h1, h2]
  · intro h; cases h
theorem sub_Sl {α : Type} [Rp α] {G : Gh} {A : Option Addr} {n cap l h : Nat} {xs : List α} (hs : Sl G (.slice A n cap) xs) (h1 : l ≤ h) (h2 : h ≤ xs.length) :
    Sl G (.slice (if cap = l then A else A.map (·.add (l * Rp.sz α))) (h - l) (cap - l)) ((xs.take h).drop l) :=
  Sl.drop (hs.take h2) (by rw [List.length_take, Nat.min_eq_left h2]; exact h1)
theorem bndO_ok (r : Rel w0 G0 s m e w) {z n : Int} {y : Option Operand} (h : bndO s z y = some n) : (y = none ∧ n = z) ∨ ∃ y' k, y = some y' ∧ opv e y' = some (.int k n) := by
  unfold bndO at h
  split at h
  · simp only [Option.some.injEq] at h; exact .inl ⟨rfl, h.symm⟩
  · rename_i y'
    split at h
    · rename_i b hb
      split at h
      · rename_i k n' hk
        simp only [Option.some.injEq] at h; subst h
        obtain ⟨v, h1, h2⟩ := opd_ok r hb
        have := asI_ok hk h2
        subst this
        exact .inr ⟨y', k, rfl, h1⟩
      · cases h
    · cases h
theorem Sl.ofDigO {G : Gh} {b o : Nat} {x : Dig} (h : RowG G b o x.cells) : Sl G (.slice (some ⟨b, o, none⟩) 32 32) x.l := by
  refine ⟨_, 32, by rw [x.h], by rw [x.h]; exact Nat.le_refl _, by rw [x.h]; unfold maxL; omega, fun k u hk => ⟨b, o, [.int .u8 (u.toNat : Int)], rfl, ?_, rfl⟩⟩
  have := h.part (i := k) (m := 1) (part := [.int .u8 (u.toNat : Int)]) (by
    obtain ⟨hlt, he⟩ := List.getElem?_eq_some_iff.1 hk
    unfold Dig.cells
    rw [← List.map_drop, ← List.map_take, List.drop_eq_getElem_cons hlt, he]
    simp)
  simpa [Rp.sz] using this
theorem strT_of {t : Nat} (h : isStrT P t = true) : P.underlying t = some .string := by
  unfold isStrT at h; split at h <;> first | assumption | cases h
theorem opEqStr {t yt : TypeId} {x y : Operand} {a b : List UInt8} (ht : P.underlying t = some .string) (hx : opv e x = some (strV a)) (hy : opv e y = some (strV b)) {d ty pos af gd} : OpVal P N e w ⟨d, .binOp .eql t x y yt, ty, pos, af, gd⟩ (.bool (decide (a = b))) := fun ac ha => by
  have hg : (eqGuard .eql t x y (.string ⟨a.toArray⟩) (.string ⟨b.toArray⟩)).run P w = .ok () w := rfl
  have hb : (a == b) = decide (a = b) := by rw [Bool.eq_iff_iff]; simp
  simp [execOp, ha.eval hx, ha.eval hy, strV, hg, binOp, Op.stringOp, hb, bne]
theorem opNeStr {t yt : TypeId} {x y : Operand} {a b : List UInt8} (ht : P.underlying t = some .string) (hx : opv e x = some (strV a)) (hy : opv e y = some (strV b)) {d ty pos af gd} : OpVal P N e w ⟨d, .binOp .neq t x y yt, ty, pos, af, gd⟩ (.bool (!decide (a = b))) := fun ac ha => by
  have hg : (eqGuard .neq t x y (.string ⟨a.toArray⟩) (.string ⟨b.toArray⟩)).run P w = .ok () w := rfl
  have hb : (a == b) = decide (a = b) := by rw [Bool.eq_iff_iff]; simp
  simp [execOp, ha.eval hx, ha.eval hy, strV, hg, binOp, Op.stringOp, hb, bne]
theorem foldl_push (l : List UInt8) : ∀ (s : ByteArray), ((l.map fun b => ((b.toNat : Nat) : Int)).foldl (fun r n => r.push (UInt8.ofNat n.toNat)) s) = ⟨s.data ++ l.toArray⟩ := by
  induction l with
  | nil => intro s; cases s; simp
  | cons x l ih =>
    intro s
    simp only [List.map_cons, List.foldl_cons]
    rw [ih]
    cases s
    simp [ByteArray.push]
theorem run_toStr {G : Gh} {v : Value} {xs : List UInt8} (h : Sl G v xs) (hh : Holds G w) : (Conv.bytesToString v).run P w = .ok (strV xs) w := by
  obtain ⟨A, cap, rfl, h2, h3, h4⟩ := h
  cases A with
  | none =>
    cases xs with
    | nil => rfl
    | cons x r =>
      obtain ⟨b, o, row, hA, _⟩ := h4 0 x rfl
      cases hA
  | some a =>
    cases xs with
    | nil =>
      have hl : (loadCells a 0).run P w = .ok #[] w := by simpa using run_loadCells_list (P := P) (w := w) a [] (by simp)
      rw [show ([] : List UInt8).length = 0 from rfl]
      exact run_bytesToString w a 0 cap [] (by simpa using hl)
    | cons y r =>
      generalize hxs : y :: r = xs at h2 h3 h4
      have hl : (loadCells a xs.length).run P w = .ok ((xs.map fun b => ((b.toNat : Nat) : Int)).map (Value.int .u8)).toArray w := by
        have := run_loadCells_list (P := P) (w := w) a ((xs.map fun b => ((b.toNat : Nat) : Int)).map (Value.int .u8)) (fun j v hj => by
          rw [List.map_map, List.getElem?_map] at hj
          obtain ⟨x, hx, rfl⟩ := Option.map_eq_some_iff.1 hj
          obtain ⟨b, o, row, hA, hrow, hrx⟩ := h4 j x hx
          injection hA with hA
          subst hA
          have hrx : row = [.int .u8 (x.toNat : Int)] := hrx
          subst hrx
          have := RowG.cell hh hrow (show [Value.int .u8 (x.toNat : Int)][0]? = some _ from rfl)
          rw [Addr.add_mid]; simpa [Rp.sz] using this)
        simpa using this
      rw [run_bytesToString w a xs.length cap _ hl, foldl_push]
      unfold strV
      simp
theorem methF_ok {T f : Nat} {name : String} (h : methF P T name = some f) (v : Value) (w : World) (n : Nat) : (method (n + 1) T v name).run P w = .ok (f, v) w ∧ (nilAhead (n + 1) T v name).run P w = .ok (some false) w := by
  unfold methF at h
  split at h
  · rename_i i el hi hu
    split at h
    · rename_i mm hm
      split at h
      · rename_i f' hp hf
        simp only [Option.some.injEq] at h; subst h
        constructor
        · simp [method, typeInfo, hi, hm, hp, hf, follow, receiverAt, run_underlying hu, Place.get]
        · simp [nilAhead, typeInfo, hi, hm, hp, hf, followBlind]
      · cases h
    · cases h
  · cases h
theorem opMeth {recv : Operand} {name : String} {T f : Nat} {p : Value} {xs : List Operand} {vs : List Value} {ats : Array TypeId} (hm : methF P T name = some f) (hx : opv e recv = some (.iface T p)) (hf : callOk P f = true) (hvs : opvs e xs = some vs)
    {R : Value → World → Prop} (hc : Calls P f (p :: vs).toArray w fun e w' => ∃ v, e = .returned v ∧ R v w') {d ty pos af gd} :
    OpRun P N e w ⟨d, .call ⟨.invoke recv name, xs.toArray, ats⟩, ty, pos, af, gd⟩ R := by
  intro a ha
  unfold OpR
  have hev := ha.evals hvs
  have hme : (method (P.types.size + Made.depth) T p name).run P w = .ok (f, p) w := by
    have : P.types.size + Made.depth = (P.types.size + (Made.depth - 1)) + 1 := by
      have : 0 < Made.depth := by decide
      omega
    rw [this]; exact (methF_ok hm p w _).1
  have h1 : (execOp a.eval ⟨d, .call ⟨.invoke recv name, xs.toArray, ats⟩, ty, pos, af, gd⟩).run P w = .ok (.enter f (p :: vs).toArray) w := by
    simp only [execOp, resolve, ha.eval hx, hev, Sem.run_bind, Sem.run_pure, Result.andThen_ok, invoke]
    simp [callMethod, hme, run_callFunc hf]
  rw [h1]
  exact hc
theorem opMethV {g : Operand} {name : String} {T f : Nat} {p : Value} {xs : List Operand} {vs : List Value} {ats : Array TypeId} (hm : methF P T name = some f) (hx : opv e g = some (.func (.method name) #[.iface T p] #[])) (hf : callOk P f = true) (hvs : opvs e xs = some vs)
    {R : Value → World → Prop} (hc : Calls P f (p :: vs).toArray w fun e w' => ∃ v, e = .returned v ∧ R v w') {d ty pos af gd} :
    OpRun P N e w ⟨d, .call ⟨.value g, xs.toArray, ats⟩, ty, pos, af, gd⟩ R := by
  intro a ha
  unfold OpR
  have hev := ha.evals hvs
  have hme : (method (P.types.size + Made.depth) T p name).run P w = .ok (f, p) w := by
    have : P.types.size + Made.depth = (P.types.size + (Made.depth - 1)) + 1 := by
      have : 0 < Made.depth := by decide
      omega
    rw [this]; exact (methF_ok hm p w _).1
  have h1 : (execOp a.eval ⟨d, .call ⟨.value g, xs.toArray, ats⟩, ty, pos, af, gd⟩).run P w = .ok (.enter f (p :: vs).toArray) w := by
    simp only [execOp, resolve, ha.eval hx, hev, Deferred.ofValue, Sem.run_bind, Sem.run_pure, Result.andThen_ok, invoke]
    simp [callMethod, hme, run_callFunc hf]
  rw [h1]
  exact hc
theorem b32_of {t : Nat} (h : bytes32 P t = true) : ∃ el, P.underlying t = some (.array 32 el) := by
  unfold bytes32 at h
  split at h
  · exact ⟨_, by assumption⟩
  · cases h
theorem slArr_ok (r : Rel w0 G0 s m e w) {t id off : Nat} {x : Operand} {lo hi : Option Operand} {q : Res E} (ha : opd s x = some (.ptr id off)) (h : slArr P s t id off lo hi = some q) : q.ok P m N e W (.slice t x lo hi none) := by
  unfold slArr at h
  split at h
  · rename_i n el _
    split at h
    · rename_i l hh hlo hhi
      cases ht : arrOk P t n el 1 with
      | false => rw [ht] at h; cases h
      | true =>
        rw [ht] at h; simp only [cond_true, Option.some.injEq] at h; subst h
        obtain ⟨v, h1, h2⟩ := opd_ok r ha
        obtain ⟨g1, b, o, g2, rfl⟩ := leaf_L rfl h2
        intro hc
        simp only [Bool.and_eq_true, decide_eq_true_eq] at hc
        obtain ⟨c1, c2, c3, c4⟩ := hc
        obtain ⟨l, rfl⟩ := Int.eq_ofNat_of_zero_le c1
        obtain ⟨hh, rfl⟩ := Int.eq_ofNat_of_zero_le (a := hh) (by omega)
        have hlh : l ≤ hh := by omega
        refine ⟨_, leaf_RV rfl ⟨g1, by simp; omega, by simp; omega, b, o, g2, rfl⟩, fun w hw d ty pos af gd => ?_⟩
        refine opSliceArrG (l := l) (h := hh) ht h1 ?_ ?_ hlh (by omega) (by omega)
        · rcases bndO_ok r hlo with ⟨e1, e2⟩ | ⟨y, k, e1, e2⟩
          · exact .inl ⟨e1, by omega⟩
          · exact .inr ⟨y, k, e1, e2⟩
        · rcases bndO_ok r hhi with ⟨e1, e2⟩ | ⟨y, k, e1, e2⟩
          · exact .inl ⟨e1, by omega⟩
          · exact .inr ⟨y, k, e1, e2⟩
    · cases h
  · cases h
theorem ev2_ok (r : Rel w0 G0 s m e w) (hW : ∀ w, W w → Holds m.G w) {op : Op} {q : Res E} (h : ev2 F P s op = some q) : q.ok P m N e W op := by
  unfold ev2 at h
  split at h
  · split at h
    · rename_i a ha
      split at h
      · rename_i k n hk
        simp only [Option.some.injEq] at h; subst h
        obtain ⟨v, h1, h2⟩ := opd_ok r ha
        have := asI_ok hk h2; subst this
        exact ⟨_, mkW_ok, fun w hw d ty pos af gd => opNeg h1⟩
      · cases h
    · cases h
  · split at h
    · rename_i a ha
      split at h
      · rename_i k n hk
        simp only [Option.some.injEq] at h; subst h
        obtain ⟨v, h1, h2⟩ := opd_ok r ha
        have := asI_ok hk h2; subst this
        exact ⟨_, mkW_ok, fun w hw d ty pos af gd => opCpl h1⟩
      · cases h
    · cases h
  · split at h
    · rename_i l b ha hb
      split at h
      · rename_i k n hk
        cases ht : isStrT P _ with
        | false => rw [ht] at h; cases h
        | true =>
          rw [ht] at h; simp only [cond_true, Option.some.injEq] at h; subst h
          obtain ⟨v, h1, h2⟩ := opd_ok r ha
          obtain ⟨u, h3, h4⟩ := opd_ok r hb
          have := asI_ok hk h4; subst this
          have h2 : v = _ := leaf_L rfl h2
          subst h2
          intro hc
          simp only [Bool.and_eq_true, decide_eq_true_eq] at hc
          obtain ⟨i, rfl⟩ := Int.eq_ofNat_of_zero_le hc.1
          have hlt : i < l.length := by omega
          refine ⟨_, (rfl : _ = _), fun w hw d ty pos af gd => opIndexStr (strT_of ht) h1 h3 ⟨l[i], ?_, ?_⟩⟩
          · show (ByteArray.mk l.toArray)[i]? = some l[i]
            have hs : i < (ByteArray.mk l.toArray).size := by simpa [ByteArray.size] using hlt
            rw [getElem?_pos (ByteArray.mk l.toArray) i hs]
            rfl
          · simp [List.getD_eq_getElem?_getD, List.getElem?_eq_getElem hlt]
      · cases h
    · rename_i l b ha hb
      split at h
      · rename_i k n len el hk hu
        split at h
        · rename_i sz hsz
          split at h
          · rename_i z hz
            simp only [Option.some.injEq] at h; subst h
            obtain ⟨v, h1, cs, rfl, h2⟩ := opd_ok r ha
            obtain ⟨u, h3, h4⟩ := opd_ok r hb
            have := asI_ok hk h4; subst this
            intro hc
            simp only [Bool.and_eq_true, decide_eq_true_eq] at hc
            obtain ⟨c1, c2⟩ := hc
            have hsz' : ∀ w : World, (sizeOf el).run P w = .ok sz w := fun w => sizeOf_of hsz w
            rcases partSV_ok hz h2 with ⟨n', row, e1, e2, e3, e4⟩ | ⟨e1, u, e2, e3⟩
            · refine ⟨_, e4, fun w hw d ty pos af gd a ha' => ?_⟩
              have hp := run_part_row (P := P) (t := el) (off := n.toNat * sz) (cs := cs.toArray) e1 w
              have hx : cs.toArray.extract (n.toNat * sz) (n.toNat * sz + n') = row.toArray := by
                rw [e2]; simp [List.extract_eq_take_drop]
              rw [hx] at hp
              simp [execOp, ha'.eval h1, ha'.eval h3, Instr.index, asIntOf, run_underlying hu, c1, c2, hsz', hp]
            · refine ⟨_, e3, fun w hw d ty pos af gd a ha' => ?_⟩
              have hp := run_part_one (P := P) (t := el) (off := n.toNat * sz) (cs := cs.toArray) (v := u) e1 (by simpa using e2) w
              simp [execOp, ha'.eval h1, ha'.eval h3, Instr.index, asIntOf, run_underlying hu, c1, c2, hsz', hp]
          · cases h
        · cases h
      · cases h
    · rename_i d b ha hb
      split at h
      · rename_i k n hk
        cases ht : bytes32 P _ with
        | false => rw [ht] at h; cases h
        | true =>
          rw [ht] at h; simp only [cond_true, Option.some.injEq] at h; subst h
          obtain ⟨v, h1, h2⟩ := opd_ok r ha
          obtain ⟨u, h3, h4⟩ := opd_ok r hb
          have := asI_ok hk h4; subst this
          have h2 : v = _ := h2
          subst h2
          intro hc
          simp only [Bool.and_eq_true, decide_eq_true_eq] at hc
          obtain ⟨i, rfl⟩ := Int.eq_ofNat_of_zero_le hc.1
          have hlt : i < 32 := by omega
          exact ⟨_, (rfl : _ = _), fun w hw dd ty pos af gd => opIndexDig (P := P) (N := N) (e := e) (w := w) (d := dd) (ty := ty) (pos := pos) (af := af) (gd := gd) ht h1 h3 hlt⟩
      · cases h
    · rename_i k n l b ha hb
      split at h
      · rename_i k' i el hk he
        cases ht : arrOk P _ n el 1 && oneOk P el with
        | false => rw [ht] at h; cases h
        | true =>
          rw [ht] at h; simp only [cond_true, Option.some.injEq] at h; subst h
          rw [Bool.and_eq_true] at ht
          obtain ⟨v, h1, h2⟩ := opd_ok r ha
          obtain ⟨u, h3, h4⟩ := opd_ok r hb
          have := asI_ok hk h4; subst this
          obtain ⟨rfl, hl⟩ := h2
          intro hc
          simp only [Bool.and_eq_true, decide_eq_true_eq] at hc
          obtain ⟨i, rfl⟩ := Int.eq_ofNat_of_zero_le hc.1
          exact ⟨_, (rfl : _ = _), fun w hw dd ty pos af gd => opIndexVec ht.1 ht.2 h1 hl h3 (by omega)⟩
      · cases h
    · cases h
  · split at h
    · rename_i u xs ha
      split at h
      · rename_i el l hh' hel hlo hhi
        cases ht : sliceOk P _ el (Ty.rp E u).sz with
        | false => rw [ht] at h; cases h
        | true =>
          rw [ht] at h; simp only [cond_true, Option.some.injEq] at h; subst h
          obtain ⟨v, h1, h2⟩ := opd_ok r ha
          have h2 : @Sl _ (Ty.rp E u) m.G v xs := leaf_L rfl h2
          intro hc
          simp only [Bool.and_eq_true, decide_eq_true_eq] at hc
          obtain ⟨c1, c2, c3⟩ := hc
          letI := Ty.rp E u
          obtain ⟨A, cap, rfl⟩ := h2.form
          obtain ⟨l, rfl⟩ := Int.eq_ofNat_of_zero_le c1
          obtain ⟨hh', rfl⟩ := Int.eq_ofNat_of_zero_le (Int.le_trans c1 c2)
          have c2 : l ≤ hh' := by omega
          have c3 : hh' ≤ xs.length := by omega
          refine ⟨_, leaf_RV rfl (sub_Sl h2 c2 c3), fun w hw d ty pos af gd => opSliceG ht h1 ?_ ?_ c2 (h2.capOf c3)⟩
          · rcases bndO_ok r hlo with ⟨e1, e2⟩ | ⟨y, k, e1, e2⟩
            · exact .inl ⟨e1, by omega⟩
            · exact .inr ⟨y, k, e1, e2⟩
          · rcases bndO_ok r hhi with ⟨e1, e2⟩ | ⟨y, k, e1, e2⟩
            · exact .inl ⟨e1, by omega⟩
            · exact .inr ⟨y, k, e1, e2⟩
      · cases h
    · rename_i id off ha
      split at h
      · cases ht : bytes32 P _ with
        | false => rw [ht] at h; exact slArr_ok r ha h
        | true =>
          rw [ht] at h; simp only [cond_true, Option.some.injEq] at h; subst h
          obtain ⟨v, h1, h2⟩ := opd_ok r ha
          obtain ⟨g1, b, o, g2, rfl⟩ := leaf_L rfl h2
          exact ⟨_, leaf_RV rfl ⟨g1, b, o, g2, rfl⟩, fun w hw d ty pos af gd => opSliceArrO ht h1⟩
      · exact slArr_ok r ha h
    · rename_i u x off ha
      split at h
      · rename_i dg tl hd
        cases ht : bytes32 P _ with
        | false => rw [ht] at h; cases h
        | true =>
          rw [ht] at h; simp only [cond_true, Option.some.injEq] at h; subst h
          obtain ⟨v, h1, h2⟩ := opd_ok r ha
          obtain ⟨b, o, row, h3, h4, h5⟩ := leaf_L rfl h2
          subst h3
          obtain ⟨c1, c2, e1, e2, e3⟩ := (opn_ok F u x row h5).drop hd
          have e2 : c1 = dg.cells := e2
          subst e2
          have h6 : RowG m.G b (o + off) dg.cells := h4.part (m := 32) (by rw [e1]; simp)
          exact ⟨_, leaf_RV rfl (Sl.ofDigO h6), fun w hw d ty pos af gd => opSliceArrO ht h1⟩
      · cases h
    · cases h
  · split at h
    · rename_i u xs ha
      split at h
      · rename_i ys hys
        split at h
        · rename_i el hea hst
          split at h
          · rename_i he
            simp only [Option.some.injEq] at h; subst h
            obtain ⟨v, h1, h2⟩ := opd_ok r ha
            have h2 := leaf_L rfl h2
            have h3 : @Sl _ (Ty.rp E .u8) m.G v ys := Sl.to hys h2
            refine ⟨strV ys, rfl, fun w hw d ty pos af gd => ?_⟩
            have hrun := run_toStr (P := P) (w := w) h3 (hW w hw)
            obtain ⟨A, cap, rfl⟩ := h3.form
            intro a ha'
            simp [execOp, ha'.eval h1, convert, run_underlying hea, run_underlying hst, run_underlying he, hrun]
          · cases h
        · cases h
      · cases h
    · rename_i ys ha
      cases ht : isStrT P _ && (P.underlying _).isSome with
      | false => rw [ht] at h; cases h
      | true =>
        rw [ht] at h; simp only [cond_true, Option.some.injEq] at h; subst h
        rw [Bool.and_eq_true] at ht
        obtain ⟨v, h1, h2⟩ := opd_ok r ha
        have h2 : v = _ := leaf_L rfl h2
        subst h2
        obtain ⟨dd, hdd⟩ := Option.isSome_iff_exists.1 ht.2
        refine ⟨strV ys, rfl, fun w hw d ty pos af gd a ha' => ?_⟩
        simp [execOp, ha'.eval h1, convert, run_underlying (strT_of ht.1), run_underlying hdd, strV]
    · cases h
  · split at h
    · rename_i u xs ha
      split at h
      · rename_i ys hys
        cases ht : bytes32 P _ with
        | false => rw [ht] at h; cases h
        | true =>
          rw [ht] at h; simp only [cond_true, Option.some.injEq] at h; subst h
          obtain ⟨v, h1, h2⟩ := opd_ok r ha
          have h2 := leaf_L rfl h2
          have h3 : @Sl _ (Ty.rp E .u8) m.G v ys := Sl.to hys h2
          intro hc
          have hc := of_decide_eq_true hc
          obtain ⟨A, cap, rfl, e1, e2, e3⟩ := h3
          have hd : (digL ys).l = ys.take 32 := by unfold digL; rw [dif_pos hc]
          obtain ⟨b, o, row0, rfl, hrow0, _⟩ := e3 0 ys[0] (List.getElem?_eq_getElem (by omega))
          obtain ⟨cs, T, fz, g1, _⟩ := hrow0
          have hrow : RowG m.G b o (digL ys).cells := ⟨cs, T, fz, g1, fun j u hj => by
            unfold Dig.cells at hj
            rw [hd, List.getElem?_map] at hj
            obtain ⟨y, hy, rfl⟩ := Option.map_eq_some_iff.1 hj
            have hy' : ys[j]? = some y := by
              rw [List.getElem?_take] at hy
              split at hy
              · exact hy
              · cases hy
            obtain ⟨b', o', row, hA, ⟨cs', T', fz', g2, g3⟩, hrx⟩ := e3 j y hy'
            injection hA with hA
            injection hA with hA1 hA2
            subst hA1; subst hA2
            rw [g1] at g2; injection g2 with g2; injection g2 with g2
            subst g2
            have hrx : row = [.int .u8 (y.toNat : Int)] := hrx
            subst hrx
            have := g3 0 _ rfl
            simpa [Rp.sz] using this⟩
          refine ⟨.pointer (some ⟨b, o, none⟩), leaf_RV rfl ⟨b, o, _, rfl, hrow, rfl⟩, fun w hw d ty pos af gd a ha' => ?_⟩
          obtain ⟨el, hu⟩ := b32_of ht
          have hlt : ¬ (ys.length < 32) := by omega
          simp [execOp, ha'.eval h1, Instr.arrayAt, run_underlying hu, hlt]
      · cases h
    · cases h
  · split at h
    · rename_i id off ha
      split at h
      · rename_i el hu
        simp only [Option.some.injEq] at h; subst h
        obtain ⟨v, h1, h2⟩ := opd_ok r ha
        obtain ⟨g1, b, o, g2, rfl⟩ := leaf_L rfl h2
        exact ⟨_, leaf_RV rfl ⟨g1, b, o, g2, rfl⟩, fun w hw d ty pos af gd a ha' => by simp [execOp, ha'.eval h1, Instr.makeInterface, run_underlying hu]⟩
      · cases h
    · cases h
  · rename_i name a b
    split at h
    · rename_i x hx hb
      split at h
      · rename_i y hy
        cases hl : leaf y with
        | false => rw [hl] at h; cases h
        | true =>
          rw [hl] at h; simp only [cond_true, Option.some.injEq] at h; subst h
          obtain ⟨v, h1, h2⟩ := opd_ok r hy
          obtain rfl : a = #[x] := Array.ext' hx
          obtain rfl : b = #[] := Array.ext' hb
          exact ⟨.func (.method name) #[v] #[], ⟨v, rfl, leaf_L hl h2⟩, fun w hw d ty pos af gd => opMakeFunc (fun a ha => by simp [ha.eval h1]) (fun a ha => by simp)⟩
      · cases h
    · cases h
  · split at h
    · rename_i T id off name ha
      split at h
      · rename_i f hf
        simp only [Option.some.injEq] at h; subst h
        obtain ⟨v, h1, u, rfl, g1, b, o, g2, rfl⟩ := opd_ok r ha
        refine ⟨_, ⟨_, rfl, g1, b, o, g2, rfl⟩, fun w hw d ty pos af gd a ha' => ?_⟩
        have hme : (nilAhead (P.types.size + Made.depth) T (.pointer (some ⟨b, o + off, none⟩)) name).run P w = .ok (some false) w := by
          have : P.types.size + Made.depth = (P.types.size + (Made.depth - 1)) + 1 := by
            have : 0 < Made.depth := by decide
            omega
          rw [this]; exact (methF_ok hf _ w _).2
        simp [execOp, ha'.eval h1, hme]
      · cases h
    · rename_i T id off ha
      simp only [Option.some.injEq] at h; subst h
      obtain ⟨v, h1, h2⟩ := opd_ok r ha
      have h3 := h2
      obtain ⟨g1, b, o, g2, rfl⟩ := leaf_L rfl h2
      exact ⟨_, h3, fun w hw d ty pos af gd a ha' => by simp [execOp, ha'.eval h1]⟩
    · cases h
  · split at h
    · rename_i a b ha hb
      obtain ⟨v, h1, h2⟩ := opd_ok r ha
      obtain ⟨u, h3, h4⟩ := opd_ok r hb
      have h2 : v = _ := leaf_L rfl h2
      have h4 : u = _ := leaf_L rfl h4
      subst h2 h4
      split at h
      · cases ht : isStrT P _ with
        | false => rw [ht] at h; cases h
        | true =>
          rw [ht] at h; simp only [cond_true, Option.some.injEq] at h; subst h
          exact fun w hw d ty pos af gd => opEqStr (strT_of ht) h1 h3
      · cases ht : isStrT P _ with
        | false => rw [ht] at h; cases h
        | true =>
          rw [ht] at h; simp only [cond_true, Option.some.injEq] at h; subst h
          exact fun w hw d ty pos af gd => opNeStr (strT_of ht) h1 h3
      · cases h
    · cases h
  · cases h
end
end Go.Vz
