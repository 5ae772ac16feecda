/- Walks by reckoning: what is to be shown of a code. No condition. -/
import Derived.Test.YtpbcabanpppfoaaGreatVzMem
set_option linter.all false
namespace Go.Vz
open Go Go.Gx
variable {E : DE}

/-! ### Blocks -/
def dsts : List Oper → List Nat
  | [] => []
  | o :: r => match o.dst with | some d => d :: dsts r | none => dsts r
/-! ### What is to be shown -/
variable {P : Program} (F : DF E) (Z : ZF P E)
/-- A test in what is to be shown. -/
def br (c : Bool) (a b : Prop) : Prop := match c with | true => a | false => b
def brM (_ : Bool) (c : Bool) (a b : Prop) : Prop := br c a b
theorem brM_t {md : Bool} {a b : Prop} : brM md true a b = a := rfl
theorem brM_f {md : Bool} {a b : Prop} : brM md false a b = b := rfl
theorem bq (c : Bool) {a b : Prop} (h1 : c = true → a) (h0 : c = false → b) : br c a b := by cases c with | true => exact h1 rfl | false => exact h0 rfl
theorem br_ {c : Bool} {a b : Prop} (h1 : c = true → a) (h0 : c = false → b) : br c a b := bq c h1 h0
theorem brL {n : Nat} {a : Prop} (h : n ≤ maxL → a) : br (Nat.ble n maxL) a True := br_ (fun h1 => h (Nat.le_of_ble_eq_true h1)) fun _ => trivial
/-- What is shown, shown of what comes to the same. -/
theorem kc {T G : Prop} (t : T) (h : T = G := by kernel_rfl) : G := h ▸ t
theorem brT {c : Bool} {a b : Prop} (hc : c = true) (h : a) : br c a b := by rw [hc]; exact h
theorem brN {c : Bool} {a : Prop} (hc : c = true) (h : a) : br c a False := brT hc h
/-- What a promise asks for. -/
inductive Pre (p : Prop) : Prop where
  | mk (h : p)
theorem both {a : Prop} (h : a) : a ∧ a := ⟨h, h⟩
theorem ct {α : Type} {c : Bool} {x a b : α} (h : c = true) (e : x = a) : x = cond c a b := by rw [h]; exact e
theorem cf {α : Type} {c : Bool} {x a b : α} (h : c = false) (e : x = b) : x = cond c a b := by rw [h]; exact e
abbrev CallH (E : DE) := Nat → List (SV E) → St E → (St E → SV E → Prop) → Prop
def ask (s : St E) (x : SV E) (K1 K0 : St E → Prop) : Prop := match x with
  | .lit q => cond q (K1 s) (K0 s)
  | .b q => brM s.md q (K1 s) (K0 s)
  | .bv id => match s.bs[id]? with
    | some q => cond (s.kn.any (Nat.beq id)) (cond q (K1 s) (K0 s)) (brM s.md q (K1 (s.setb id true)) (K0 (s.setb id false)))
    | none => False
  | _ => False
def St.mem (s s' : St E) : St E := { s with hp := s'.hp, n := s'.n, bs := s'.bs, kn := s'.kn }
/-- Values as rows of data. -/
def shutRows (bs : List Bool) (u : Ty) : List (SV E) → Option (List (u.den E))
  | [] => some []
  | x :: r => match cellsOf x with
    | some l => match shutT F bs u l, shutRows bs u r with | some a, some b => some (a :: b) | _, _ => none
    | none => none
def bytesT (P : Program) (el : Nat) : Nat := match P.info? el with | some i => i.bytes | none => 0
def rangeB : Nat → List Nat → Bool
  | _, [] => true
  | i, x :: r => Nat.beq x i && rangeB (i + 1) r
def mulB (P : Program) (el : Nat) : Nat := match bytesT P el with | 0 => 1 | n + 1 => n + 1
/-- append: what the first holds. -/
def ownOf (s : St E) (el : Nat) : SV E → Option (Option Nat × ((t : Ty) × List (t.den E)))
  | .own id => match hget s.hp id with | some (_, .arr u el' xs) => bif Nat.beq el el' then some (some id, ⟨u, xs⟩) else none | _ => none
  | .nils => match Z.t el with | some u => some (none, ⟨u, []⟩) | none => none
  | _ => none
/-- It cannot be walked. -/
inductive No {α : Type} (x : α) : Prop
theorem No.elim {α : Type} {x : α} {C : Prop} (h : No x) : C := nomatch h
def vcApp (s : St E) (d : Option Nat) (x y : Operand) (t t' : Nat) (K : St E → Prop) : Prop := match opd s y with
  | some y0 => match frz s y0 with
    | some s1 => match opd s1 x, opd s1 y, sliceEl P t with
      | some a, some b, some el => match ownOf Z s1 el a with
        | some (o, ⟨u, xs⟩) => match gSl u b with
          | some ys => cond (Nat.beq t t' && elemOk P t el (Ty.sz (E := E) u) (bytesT P el))
              (brM s.md (Nat.ble ((xs.length + ys.length) * mulB P el) maxL)
                (K ((match o with | some id => s1.ren id (.arr u el (xs ++ ys)) | none => s1.new (.arr u el (xs ++ ys))).put d (some (.own s1.n)))) False) (No d)
          | none => No d
        | none => No d
      | _, _, _ => No d
    | none => No d
  | none => No d
/-- .. a digest that lies in a box. -/
def vcAppV (s : St E) (d : Option Nat) (x : Operand) (id off : Nat) (t t' : Nat) (K : St E → Prop) : Prop := match hget s.hp id, opd s x, sliceEl P t with
  | some (_, .box T c), some a, some el => match dropW off c, ownOf Z s el a with
    | some (.dig dg :: _), some (o, ⟨.u8, xs⟩) => cond (Nat.beq t t' && (elemOk P t el 1 (bytesT P el) && !(Nat.beq T el)))
        (brM s.md (Nat.ble ((List.length xs + 32) * mulB P el) maxL)
          (K ((match o with | some q => s.ren q (.arr .u8 el (xs ++ dg.l)) | none => s.new (.arr .u8 el (xs ++ dg.l))).put d (some (.own s.n)))) False) (No d)
    | _, _ => No d
  | _, _, _ => No d
/-- .. a row of pointers; such a row is made. -/
def vcAppP (P : Program) (s : St E) (d : Option Nat) (x : Operand) (t t' id2 e2 : Nat) (ys : List (SV E)) (K : St E → Prop) : Prop := match opd s x, sliceEl P t with
  | some .nils, some el => cond (Nat.beq t t' && (Nat.beq el e2 && elemOk P t el 1 (bytesT P el)))
      (brM s.md (Nat.ble ((0 + ys.length) * mulB P el) maxL) (K (((s.turn id2 .oth).new (.pts el ys)).put d (some (.own (s.n + 1))))) False) (No d)
  | some (.own id1), some el => match hget (s.turn id2 .oth).hp id1 with
    | some (_, .pts e1 xs) => cond (Nat.beq t t' && (Nat.beq el e2 && (Nat.beq el e1 && elemOk P t el 1 (bytesT P el))))
        (brM s.md (Nat.ble ((xs.length + ys.length) * mulB P el) maxL) (K (((s.turn id2 .oth).ren id1 (.pts el (xs ++ ys))).put d (some (.own (s.n + 1))))) False) (No d)
    | _ => No d
  | _, _ => No d
def ptrsB : List (SV E) → Bool
  | [] => true
  | .ptr _ _ :: r => ptrsB r
  | .mp _ :: r => ptrsB r
  | _ => false
def vcBldP (P : Program) (s : St E) (d : Option Nat) (t n : Nat) (ps : List (Nat × Operand)) (el : Nat) (l : List (SV E)) (K : St E → Prop) : Prop :=
  cond (ptrsB l && (elemOk P t el 1 (bytesT P el) && (Nat.ble (n * 1) 16777216 && (Nat.beq ps.length n && rangeB 0 (ps.map (·.1)))))) (K ((s.new (.pts el l)).put d (some (.own s.n)))) (No d)
/-- A range over a map goes on: nothing is left, or any one that is left. -/
inductive Nx {κ : Type} (left : List κ) (a : Prop) (b : κ → List κ → Prop) : Prop where
  | mk (h0 : left = [] → a) (h1 : ∀ l1 x l2, left = l1 ++ x :: l2 → b x (l1 ++ l2))
/-- A slice is nil, or not: if it is empty it may be either. -/
inductive Nl {α : Type} (xs : List α) (a b : Prop) : Prop where
  | mk (h1 : xs = [] → a) (h0 : b)
def nilB (s : St E) : SV E → Option ((t : Ty) × List (t.den E))
  | .sl u xs => some ⟨u, xs⟩
  | .own id => match hget s.hp id with | some (_, .arr u _ xs) => some ⟨u, xs⟩ | _ => none
  | _ => none
def vcNext (s : St E) (d : Option Nat) (id mid ver kt : Nat) (k : Ty) (left : List (k.den E)) (K : St E → Prop) : Prop := match hget s.hp mid with
  | some (ver', .map k' _ _) => cond (Nat.beq ver ver' && decide (k = k'))
      (Nx left (K (s.put d (some (.tup [.lit false])))) fun x rest => K ((s.turn id (.cur mid ver kt k x rest)).put d (some .nxt))) (No id)
  | _ => No id
def vcMap (s : St E) (d : Option Nat) (op : Op) (K : St E → Prop) : Prop := match op with
  | .makeMap T none => match mapT P T with
    | some (kt, et) => match Z.ky kt, Z.t et with
      | some k, some v => K ((s.new (.map k v [])).put d (some (.mp s.n)))
      | _, _ => No op
    | none => No op
  | .mapUpdate t x y z => match opd s z with
    | some z0 => match frz s z0 with
      | some s1 => match opd s1 x, opd s1 y, opd s1 z with
        | some (.mp id), some b, some c => match hget s1.hp id with
          | some (_, .map k v xs) => match keySV F P Z s1.bs t k v b, shutV F s1.bs v c with
            | some (a, _), some q => K ((s1.turn id (.map k v (mputT k v xs a q))).put d none)
            | _, _ => No op
          | _ => No op
        | _, _, _ => No op
      | none => No op
    | none => No op
  | .mapEntry t x y => match opd s x, opd s y with
    | some (.mp id), some b => match hget s.hp id with
      | some (_, .map k v xs) => match keySV F P Z s.bs t k v b with
        | some (a, z) => K ((((s.turn id (.map k v (mputT k v xs a ((mgetT k v xs a).getD z)))).new (.stp id s.n k a))).put d (some (.tup [opnV F v ((mgetT k v xs a).getD z), .stm (s.n + 1)])))
        | none => No op
      | _ => No op
    | _, _ => No op
  | .entryStore t x y z => match opd s z with
    | some z0 => match frz s z0 with
      | some s1 => match opd s1 x, opd s1 y, opd s1 z with
        | some (.mp id), some (.stm q), some c => match hget s1.hp id, hget s1.hp q, mapT P t with
          | some (ver', .map k v xs), some (_, .stp mid ver k' a), some (kt, _) => match Ty.to (fun t => t.den E) k' k a, shutV F s1.bs v c with
            | some a', some y' => cond (Nat.beq mid id && (Nat.beq ver ver' && Z.kyB kt k)) (K ((s1.turn id (.map k v (mputT k v xs a' y'))).put d none)) (No op)
            | _, _ => No op
          | _, _, _ => No op
        | _, _, _ => No op
      | none => No op
    | none => No op
  | .slice t x (some y) none none => match opd s x with
    | some (.own id) => match hget s.hp id, bndO s 0 (some y), sliceElT P t with
      | some (_, .arr u _ xs), some l, some el => cond (sliceOk P t el (Ty.sz (E := E) u)) (brM s.md (decide (0 ≤ l) && decide (l ≤ (xs.length : Int))) (K (s.put d (some (.otl id l.toNat (Ty.sz (E := E) u))))) False) (No op)
      | _, _, _ => No op
    | _ => No op
  | .slice t x lo hi none => match opd s x with
    | some (.own id) => match frz1 s (.own id) with
      | some s1 => match ev2 F P s1 (.slice t x lo hi none) with
        | some (.need c y) => brM s.md c (K (s1.put d (some y))) False
        | _ => No op
      | none => No op
    | _ => No op
  | .range t x => match opd s x, mapT P t with
    | some (.mp id), some (kt, _) => match hget s.hp id with
      | some (ver, .map k _ xs) => K ((s.new (.itr id ver kt k (xs.map fun p => p.1))).put d (some (.ptr s.n 0)))
      | _ => No op
    | _, _ => No op
  | .next x false => match opd s x with
    | some (.ptr id 0) => match hget s.hp id with
      | some (_, .itr mid ver kt k left) => vcNext s d id mid ver kt k left K
      | some (_, .cur mid ver kt k _ left) => vcNext s d id mid ver kt k left K
      | _ => No op
    | _ => No op
  | .binOp .eql t x y _ => match opd s x, opd s y with
    | some .nils, some .nils => cond (isSlice P t) (K (s.put d (some (.lit true)))) (No op)
    | some a, some .nils => match nilB s a with
      | some ⟨_, xs⟩ => cond (isSlice P t) (Nl xs (K (s.put d (some (.lit true)))) (K (s.put d (some (.lit false))))) (No op)
      | none => No op
    | _, _ => No op
  | .entry x => match opd s x with
    | some a => match entSV F P Z s a with | some z => K (s.put d (some z)) | none => No op
    | none => No op
  | _ => No op
/-- The tail of an own slice is cleared. -/
def vcClr (s : St E) (d : Option Nat) (x : Operand) (t : Nat) (K : St E → Prop) : Prop := match opd s x with
  | some (.otl id lo sz) => match hget s.hp id, sliceElT P t with
    | some (_, .arr u el xs), some el' => match Z.z el with
      | some zl => match shutT F [] u zl with
        | some z => cond (Nat.beq el el' && Nat.beq sz (Ty.sz (E := E) u)) (brM s.md (Nat.ble lo xs.length) (K ((s.turn id (.arr u el (xs.take lo ++ List.replicate (xs.length - lo) z))).put d (some (.tup [])))) False) (No t)
        | none => No t
      | none => No t
    | _, _ => No t
  | _ => No t
/-- Into an array. -/
def vcVst (P : Program) (s : St E) (d : Option Nat) (t id o n i : Nat) (y : SV E) (K : St E → Prop) : Prop := match hget s.hp id, sizeT P t with
  | some (_, .box T c), some sz => match takeW o c, dropW o c with
    | some a, some (.vec k q l :: r) => match asI y with
      | some (k', v) => cond (Nat.beq sz 1 && (Nat.beq q n && decide (k' = k))) (K ((s.turn id (.box T (a ++ .vec k q (l.set i v) :: r))).put d none)) (No t)
      | none => No t
    | some a, some (.dig g :: r) => match y with
      | .u8 x => cond (Nat.beq sz 1 && Nat.beq n 32) (K ((s.turn id (.box T (a ++ .dig (digPut g i x) :: r))).put d none)) (No t)
      | _ => No t
    | _, _ => No t
  | _, _ => No t
/-- A part of an array is cleared. -/
def vcVcl (P : Program) (s : St E) (d : Option Nat) (t id o n lo len : Nat) (K : St E → Prop) : Prop := match hget s.hp id, sliceElT P t with
  | some (_, .box T c), some el => match takeW o c, dropW o c, (P.info? el).bind (fun i => i.zero) with
    | some a, some (.vec k q l :: r), some (.int k' z) => cond (Nat.beq q n && decide (k' = k)) (K ((s.turn id (.box T (a ++ .vec k q (lput l lo (List.replicate len z)) :: r))).put d (some (.tup [])))) (No t)
    | _, _, _ => No t
  | _, _ => No t
/-- .. is copied to. -/
def vcVcp (P : Program) (s : St E) (d : Option Nat) (t id o n lo len : Nat) (u : Ty) (xs : List (u.den E)) (K : St E → Prop) : Prop := match hget s.hp id, sliceElT P t, Ty.to (fun t => List (t.den E)) u .u8 xs with
  | some (_, .box T c), some el, some ys => match takeW o c, dropW o c with
    | some a, some (.vec .u8 q l :: r) => cond (Nat.beq q n && sliceOk P t el 1)
        (K ((s.turn id (.box T (a ++ .vec .u8 q (lput l lo ((ys.take len).map fun x => (x.toNat : Int))) :: r))).put d (some (.i .i64 (Nat.min ys.length len : Nat))))) (No t)
    | _, _ => No t
  | _, _, _ => No t
/-- A call of what the model stands in for. -/
def vcExt (s : St E) (d : Option Nat) (f : Nat) (l : List (SV E)) (K : St E → Prop) : Prop := match Z.ex f, l with
  | some .add64, [.i .u64 x, .i .u64 y, .i .u64 c] => brM s.md (decide (0 ≤ x) && (decide (0 ≤ y) && (decide (0 ≤ c) && decide (c ≤ 1)))) (K (s.put d (some (.tup [.i .u64 ((x + y + c) % 18446744073709551616), .i .u64 ((x + y + c) / 18446744073709551616)])))) False
  | some (.addT k), [.ptr id off, .i k' y] => match hget s.hp id with
    | some (_, .box T c) => match takeW off c, dropW off c with
      | some a, some (.i q x :: r) => cond (decide (k' = q) && decide (k = q)) (K ((s.turn id (.box T (a ++ .i q (q.wrap (x + y)) :: r))).put d (some (.i q (q.wrap (x + y)))))) (No f)
      | _, _ => No f
    | _ => No f
  | some .cmp, [.sl t xs, .sl t' ys] => match Ty.to (fun t => List (t.den E)) t .u8 xs, Ty.to (fun t => List (t.den E)) t' .u8 ys with
    | some a, some b => K (s.put d (some (.i .i64 (cmpB a b))))
    | _, _ => No f
  | _, _ => No f
def vcMeth (P : Program) (call : CallH E) (s : St E) (d : Option Nat) (T id off : Nat) (name : String) (l : List (SV E)) (K : St E → Prop) : Prop := match methF P T name with
  | some f => cond (callOk P f) (call f (.ptr id off :: l) s (fun s' x => K ((s.mem s').putV d x))) (No f)
  | none => No name
def vcEff (call : CallH E) (s : St E) (d : Option Nat) (op : Op) (K : St E → Prop) : Prop := match op with
  | .alloc T => match Z.z T with
    | some l => K ((s.new (.box T l)).put d (some (.ptr s.n 0)))
    | none => No op
  | .box T x => match opd s x with
    | some y => match cellsOf y with
      | some l => K ((s.new (.box T l)).put d (some (.ptr s.n 0)))
      | none => No op
    | none => No op
  | .store t a x => match opd s a, opd s x with
    | some (.ptr id o), some y => match hget s.hp id, cellsOf y, sizeT P t with
      | some (_, .box T c), some l, some n => match splice c o n l with
        | some c' => K ((s.turn id (.box T c')).put d none)
        | none => No op
      | _, _, _ => No op
    | some (.oel id i sz o), some y0 => match frz s y0 with
      | some s1 => match opd s1 x, hget s1.hp id, sizeT P t with
        | some y, some (_, .arr u el xs), some n => cond (Nat.beq sz (Ty.sz (E := E) u)) (match cellsOf y with
          | some l => match splice (opn F u (xs.getD i (u.dflt E))) o n l with
            | some c' => match shutT F s1.bs u c' with
              | some z => K ((s1.turn id (.arr u el (xs.set i z))).put d none)
              | none => No op
            | none => No op
          | none => No op) (No op)
        | _, _, _ => No op
      | none => No op
    | some (.vel id o n i), some y => vcVst P s d t id o n i y K
    | _, _ => No op
  | .buildSlice t n ps => match sliceEl P t, opds s (ps.toList.map (·.2)) with
    | some el, some l0 => match frzs s l0, Z.t el with
      | some s1, some u => match opds s1 (ps.toList.map (·.2)) with
        | some l => match shutRows F s1.bs u l with
          | some xs => cond (elemOk P t el (Ty.sz (E := E) u) (bytesT P el) && Nat.blt 0 (Ty.sz (E := E) u) && Nat.ble (n * Ty.sz (E := E) u) 16777216 && Nat.beq ps.toList.length n && rangeB 0 (ps.toList.map (·.1)))
              (K ((s1.new (.arr u el xs)).put d (some (.own s1.n)))) (No op)
          | none => No op
        | none => No op
      | some _, none => vcBldP P s d t n ps.toList el l0 K
      | _, _ => No op
    | _, _ => No op
  | .call c => match c.callee with
    | .value g => match opd s g, opds s c.args.toList with
      | some (.fn f caps), some l => cond (callOk P f) (call f (l ++ caps) s (fun s' x => K ((s.mem s').putV d x))) (match caps with | [] => vcExt Z s d f l K | _ => No op)
      | some (.mth (.ifc T id off) name), some l => vcMeth P call s d T id off name l K
      | _, _ => No op
    | .invoke g name => match opd s g, opds s c.args.toList with
      | some (.ifc T id off), some l => vcMeth P call s d T id off name l K
      | _, _ => No op
    | .builtin .clear => match c.args.toList, c.argTypes.toList with
      | [x], [t] => match opd s x with
        | some (.vsl id o n lo len) => vcVcl P s d t id o n lo len K
        | _ => vcClr F Z s d x t K
      | _, _ => No op
    | .builtin .copy => match c.args.toList, c.argTypes.toList with
      | [x, y], [t, _] => match opd s x, opd s y with
        | some (.vsl id o n lo len), some (.sl u xs) => vcVcp P s d t id o n lo len u xs K
        | _, _ => No op
      | _, _ => No op
    | .builtin .len => match c.args.toList, c.argTypes.toList with
      | [x], [t] => match opd s x, mapT P t with
        | some (.mp id), some _ => match hget s.hp id with
          | some (_, .map _ _ xs) => K (s.put d (some (.i .i64 (xs.length : Nat))))
          | _ => No op
        | _, _ => No op
      | _, _ => No op
    | .builtin .append => match c.args.toList, c.argTypes.toList with
      | [x, y], [t, t'] => match opd s y with
        | some (.vw id off) => vcAppV Z s d x id off t t' K
        | some (.own id2) => match hget s.hp id2 with
          | some (_, .pts e2 ys) => vcAppP P s d x t t' id2 e2 ys K
          | _ => vcApp Z s d x y t t' K
        | _ => vcApp Z s d x y t t' K
      | _, _ => No op
    | _ => No op
  | op => vcMap F Z s d op K
def vcOp (call : CallH E) (s : St E) (d : Option Nat) (op : Op) (K : St E → Prop) : Prop := match ev F P Z s op with
  | some (.val x) => K (s.putV d x)
  | some (.cmp b) => K (s.cmp d b)
  | some (.need c x) => brM s.md c (K (s.put d (some x))) False
  | some (.know c x) => brM s.md c (K (s.put d (some x))) True
  | none => vcEff F Z call s d op K
def vcOp1 (call : CallH E) (s : St E) (d : Option Nat) (op : Op) (K : St E → Prop) : Prop := match op with
  | .pick c a b => match opd s c with
    | some x => ask s x (fun s => vcOp F Z call s d (.pick c a b) K) (fun s => vcOp F Z call s d (.pick c a b) K)
    | none => False
  | op => vcOp F Z call s d op K
/-! ### Tests side by side: what a guard guards comes to a value, either way -/
def spanG (j : Nat) (q : Bool) : List Oper → List Oper × List Oper
  | [] => ([], [])
  | o :: r => match o.guard with
    | some (j', q') => bif Nat.beq j' j && (q' == q) then (o :: (spanG j q r).1, (spanG j q r).2) else ([], o :: r)
    | none => ([], o :: r)
def evP (N : Nat) : List Oper → St E → Option (St E)
  | [], s => some s
  | o :: r, s => bif dOk o.dst && okD N o.dst then match ev F P Z s o.op with
      | some (.val x) => evP N r (s.putV o.dst x)
      | some (.cmp b) => evP N r (s.cmp o.dst b)
      | some (.know _ x) => evP N r (s.put o.dst (some x))
      | some (.need _ _) => none
      | none => match o.op with
        | .call c => match c.callee with
          | .value g => match opd s g, opds s c.args.toList with
            | some (.fn f []), some l => match Z.pc f l s with
              | some x => bif callOk P f then evP N r (s.putV o.dst x) else none
              | none => none
            | _, _ => none
          | _ => none
        | _ => none
    else none
def dropD : List Oper → PT (SV E) → PT (SV E)
  | [], t => t
  | o :: r, t => dropD r (match o.dst with | some d => t.put 12 d none | none => t)
def asBo (s : St E) (x : Operand) : Option Bool := match opd s x with | some y => asB s.bs y | none => none
def apart (k : Nat) (l : List Oper) : Bool := l.all fun o => match o.dst with | some d => !(Nat.beq d k) | none => true
/-- The state behind them, what is left, how many they are. -/
def mrg (N : Nat) (s : St E) (j : Nat) (q : Bool) (k id : Nat) (l : List Oper) : Option (St E × Nat) := match (spanG j q l).2 with
  | o :: _ => match o.guard, o.op with
    | none, .pick (.tmp c) a b => bif Nat.beq c k && (dOk o.dst && okD N o.dst) && apart k (spanG j q l).1 then match evP F Z N (spanG j q l).1 s, s.bs[id]? with
        | some s1, some tq => match asBo s1 (cond q a b), asBo ({ s with sl := dropD (spanG j q l).1 s.sl } : St E) (cond q b a) with
          | some B1, some B0 => some (({ s with bs := s1.bs, sl := dropD (spanG j q l).1 s.sl } : St E).cmp o.dst (cond q (cond tq B1 B0) (cond tq B0 B1)), (spanG j q l).1.length)
          | _, _ => none
        | _, _ => none
      else none
    | _, _ => none
  | [] => none
def mrgV (N : Nat) (s : St E) (j : Nat) (q : Bool) (k : Nat) (x : SV E) (l : List Oper) : Option (St E × Nat) := bif Z.mg then match x with
    | .bv id => bif s.kn.any (Nat.beq id) then none else mrg F Z N s j q k id l
    | _ => none
  else none
def vcLk (call : CallH E) (N : Nat) (ops : Array Oper) : Nat → List Oper → St E → (St E → Prop) → Prop
  | _, [], s, K => K s
  | sk + 1, _ :: r, s, K => vcLk call N ops sk r s K
  | 0, o :: r, s, K => cond (dOk o.dst && okD N o.dst) (match o.guard with
    | none => vcOp1 F Z call s o.dst o.op (fun s => vcLk call N ops 0 r s K)
    | some (j, q) => match gslot ops j with
      | some k => match s.sl.get k with
        | some .undef => vcLk call N ops 0 r (s.put o.dst (some .undef)) K
        | some x => match mrgV F Z N s j q k x (o :: r) with
          | some (s', n) => vcLk call N ops n r s' K
          | none => ask s x
            (fun s => cond q (vcOp1 F Z call s o.dst o.op (fun s => vcLk call N ops 0 r s K)) (vcLk call N ops 0 r (s.put o.dst (some .undef)) K))
            (fun s => cond q (vcLk call N ops 0 r (s.put o.dst (some .undef)) K) (vcOp1 F Z call s o.dst o.op (fun s => vcLk call N ops 0 r s K)))
        | none => False
      | none => False) False
@[reducible] def vcL (call : CallH E) (N : Nat) (ops : Array Oper) (l : List Oper) (s : St E) (K : St E → Prop) : Prop := vcLk F Z call N ops 0 l s K
/-! ### Regions whose order is drawn -/
def ancL : List Oper → List Nat → List Nat
  | [], A => A
  | o :: r, A => ancL r (A ++ [maskOf o A])
def isMe : Op → Bool
  | .mapEntry _ _ _ => true
  | _ => false
def isLk : Op → Bool
  | .lookup _ _ _ _ => true
  | _ => false
/-- Is it known that it is passed over? -/
def skipB (s : St E) (x : SV E) (q : Bool) : Bool := match x with
  | .lit b => xor b q
  | .bv id => s.kn.any (Nat.beq id) && (match s.bs[id]? with | some b => xor b q | none => false)
  | _ => false
/-- May it be taken ahead? -/
def rdB (s : St E) (ops : Array Oper) (o : Oper) : Bool := bif isLk o.op && ops.toList.any (fun o => isMe o.op) then false else match o.guard with
  | none => match o.op with
    | .pick c a b => match opd s c, opd s a, opd s b with | some _, some _, some _ => true | _, _, _ => false
    | op => (ev F P Z s op).isSome
  | some (j, q) => match gslot ops j with
    | some k => match s.sl.get k with
      | some .undef => true
      | some x => bif Z.sk && skipB s x q then true else match o.op with
        | .pick c a b => match opd s c, opd s a, opd s b with | some _, some _, some _ => true | _, _, _ => false
        | op => (ev F P Z s op).isSome
      | none => false
    | none => false
def tkE (s : St E) (i : Nat) (op : Op) (T : List (Nat × Nat)) : List (Nat × Nat) := match dep s op with | some k => (i, k) :: T | none => T
def verB (s : St E) (T : List (Nat × Nat)) : Bool := T.all fun p => s.hp.any fun x => Nat.beq x.2.1 p.2
def vcTk (s : St E) (i : Nat) (d : Option Nat) (op : Op) (T : List (Nat × Nat)) (K : List (Nat × Nat) → St E → Prop) : Prop := match ev F P Z s op with
  | some (.val x) => K (tkE s i op T) (s.putV d x)
  | some (.cmp b) => K (tkE s i op T) (s.cmp d b)
  | some (.need c x) => brM s.md c (K (tkE s i op T) (s.put d (some x))) False
  | some (.know c x) => brM s.md c (K (tkE s i op T) (s.put d (some x))) True
  | none => False
def vcTk1 (s : St E) (i : Nat) (d : Option Nat) (op : Op) (T : List (Nat × Nat)) (K : List (Nat × Nat) → St E → Prop) : Prop := match op with
  | .pick c a b => match opd s c with
    | some x => ask s x (fun s => vcTk F Z s i d (.pick c a b) T K) (fun s => vcTk F Z s i d (.pick c a b) T K)
    | none => False
  | op => vcTk F Z s i d op T K
def vcTake (N : Nat) (ops : Array Oper) (s : St E) (i : Nat) (o : Oper) (T : List (Nat × Nat)) (K : List (Nat × Nat) → St E → Prop) : Prop :=
  cond (dOk o.dst && okD N o.dst) (match o.guard with
    | none => vcTk1 F Z s i o.dst o.op T K
    | some (j, q) => match gslot ops j with
      | some k => match s.sl.get k with
        | some .undef => K T (s.put o.dst (some .undef))
        | some x => ask s x
            (fun s => cond q (vcTk1 F Z s i o.dst o.op T K) (K T (s.put o.dst (some .undef))))
            (fun s => cond q (K T (s.put o.dst (some .undef))) (vcTk1 F Z s i o.dst o.op T K))
        | none => False
      | none => False) False
def allP (p : Nat → Prop) : List Nat → Prop
  | [] => False
  | [k] => p k
  | k :: r => p k ∧ allP p r
def vcD (call : CallH E) (N : Nat) (l : List Oper) (A : List Nat) : Nat → Nat → List (Nat × Nat) → St E → (St E → Prop) → Prop
  | 0, done, _, s, K => cond (rdyL l done).isEmpty (K s) False
  | n + 1, done, T, s, K => match rdyL l done with
    | [] => K s
    | k :: r => match (k :: r).find? (fun i => (match l[i]? with | some o => rdB F Z s l.toArray o | none => false) && tkB l A done i) with
      | some i => match l[i]? with
        | some o => vcTake F Z N l.toArray s i o T (fun T s => vcD call N l A n (done ||| (1 <<< i)) T s K)
        | none => False
      | none => allP (fun i => match l[i]? with
        | some o => vcL F Z call N l.toArray [o] s (fun s' => let T' := T.filter (fun p => !(A.getD i 0).testBit p.1); cond (verB s' T') (vcD call N l A n (done ||| (1 <<< i)) T' s' K) False)
        | none => False) (k :: r)
end Go.Vz
