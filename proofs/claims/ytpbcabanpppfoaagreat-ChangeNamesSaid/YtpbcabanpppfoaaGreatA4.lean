/- A part of the proof. No condition. -/
import Derived.Test.YtpbcabanpppfoaaGreatA3
set_option linter.all false
namespace Go.Vz
open Go Go.Gx
variable {E : DE}
def a1j : List Oper -> List Nat
 | [] => []
 | o :: r => match o.dst with | some d => d :: a1j r | none => a1j r
variable {P : Program} (F : DF E) (Z : ZF P E)
def br (c : Bool) (a b : Prop) : Prop := match c with | true => a | false => b
def brM (_ : Bool) (c : Bool) (a b : Prop) : Prop := br c a b
def a6l {md : Bool} {a b : Prop} : brM md true a b = a := rfl
def a8t {md : Bool} {a b : Prop} : brM md false a b = b := rfl
def bq (c : Bool) {a b : Prop} (h1 : c = true -> a) (h0 : c = false -> b) : br c a b := by cases c with | true => exact h1 rfl | false => exact h0 rfl
def br_ {c : Bool} {a b : Prop} (h1 : c = true -> a) (h0 : c = false -> b) : br c a b := bq c h1 h0
def brL {n : Nat} {a : Prop} (h : n <= d4 -> a) : br (Nat.ble n d4) a True := br_ (fun h1 => h (C2 h1)) fun _ => trivial
def brT {c : Bool} {a b : Prop} (hc : c = true) (h : a) : br c a b := by rw [hc]; exact h
def brN {c : Bool} {a : Prop} (hc : c = true) (h : a) : br c a False := brT hc h
theorem bN (c : Bool) {a : Prop} (hc : c = true) (h : a) : br c a False := brT hc h
abbrev iX (i n : Int) : Bool := decide ((0 : Int) <= i) && decide (i < n)
theorem cnD {b : Bool} {p q : Prop} (h : cond b p q) (hq : q -> False := by exact fun h => h.elim) : b = true /\ p := by cases b with | true => exact ⟨rfl, h⟩ | false => exact (hq h).elim
inductive Pre (p : Prop) : Prop where
  | mk (h : p)
theorem pQ (p : Prop) {q : Prop} (h : p) (k : q) : Pre p /\ q := ⟨⟨h⟩, k⟩
def b1n {a : Prop} (h : a) : a /\ a := ⟨h, h⟩
def ct {α : Type} {c : Bool} {x a b : α} (h : c = true) (e : x = a) : x = cond c a b := by rw [h]; exact e
def cf {α : Type} {c : Bool} {x a b : α} (h : c = false) (e : x = b) : x = cond c a b := by rw [h]; exact e
abbrev j7 (E : DE) := Nat -> List (SV E) -> St E -> (St E -> SV E -> Prop) -> Prop
def ask (s : St E) (x : SV E) (K1 K0 : St E -> Prop) : Prop := match x with
 | .lit q => cond q (K1 s) (K0 s)
 | .b q => brM s.md q (K1 s) (K0 s)
 | .bv id => match s.bs[id]? with
  | some q => cond (s.kn.any (Nat.beq id)) (cond q (K1 s) (K0 s)) (brM s.md q (K1 (s.setb id true)) (K0 (s.setb id false)))
  | none => False
 | _ => False
def St.mem (s s' : St E) : St E := { s with hp := s'.hp, n := s'.n, bs := s'.bs, kn := s'.kn }
def a9p (bs : List Bool) (u : Ty) : List (SV E) -> Option (List (u.den E))
 | [] => some []
 | x :: r => match cellsOf x with
  | some l => match a8r F bs u l, a9p bs u r with | some a, some b => some (a :: b) | _, _ => none
  | none => none
def a3n (P : Program) (el : Nat) : Nat := match P.info? el with | some i => i.bytes | none => 0
def b5f : Nat -> List Nat -> Bool
 | _, [] => true
 | i, x :: r => Nat.beq x i && b5f (i + 1) r
def j0 (P : Program) (el : Nat) : Nat := match a3n P el with | 0 => 1 | n + 1 => n + 1
def d4h (s : St E) (el : Nat) : SV E -> Option (Option Nat × ((t : Ty) × List (t.den E)))
 | .own id => match o6 s.hp id with | some (_, .arr u el' xs) => bif Nat.beq el el' then some (some id, ⟨u, xs⟩) else none | _ => none
 | .nils => match Z.t el with | some u => some (none, ⟨u, []⟩) | none => none
 | _ => none
inductive No {α : Type} (x : α) : Prop
def No.elim {α : Type} {x : α} {C : Prop} (h : No x) : C := nomatch h
def d4i (s : St E) (d : Option Nat) (x y : Operand) (t t' : Nat) (K : St E -> Prop) : Prop := match opd s y with
 | some y0 => match frz s y0 with
  | some s1 => match opd s1 x, opd s1 y, a8b P t with
   | some a, some b, some el => match d4h Z s1 el a with
    | some (o, ⟨u, xs⟩) => match gSl u b with
     | some ys => cond (Nat.beq t t' && a1i P t el (Ty.sz (E := E) u) (a3n P el))
      (brM s.md (Nat.ble ((xs.length + ys.length) * j0 P el) d4)
       (K ((match o with | some id => s1.ren id (.arr u el (xs ++ ys)) | none => s1.new (.arr u el (xs ++ ys))).put d (some (.own s1.n)))) False) (No d)
     | none => No d
    | none => No d
   | _, _, _ => No d
  | none => No d
 | none => No d
def d1v (s : St E) (d : Option Nat) (x : Operand) (id off : Nat) (t t' : Nat) (K : St E -> Prop) : Prop := match o6 s.hp id, opd s x, a8b P t with
 | some (_, .box T c), some a, some el => match a0u off c, d4h Z s el a with
  | some (.dig dg :: _), some (o, ⟨.u8, xs⟩) => cond (Nat.beq t t' && (a1i P t el 1 (a3n P el) && !(Nat.beq T el)))
   (brM s.md (Nat.ble ((List.length xs + 32) * j0 P el) d4)
    (K ((match o with | some q => s.ren q (.arr .u8 el (xs ++ dg.l)) | none => s.new (.arr .u8 el (xs ++ dg.l))).put d (some (.own s.n)))) False) (No d)
  | _, _ => No d
 | _, _, _ => No d
def d1w (P : Program) (s : St E) (d : Option Nat) (x : Operand) (t t' id2 e2 : Nat) (ys : List (SV E)) (K : St E -> Prop) : Prop := match opd s x, a8b P t with
 | some .nils, some el => cond (Nat.beq t t' && (Nat.beq el e2 && a1i P t el 1 (a3n P el)))
   (brM s.md (Nat.ble ((0 + ys.length) * j0 P el) d4) (K (((s.turn id2 .oth).new (.pts el ys)).put d (some (.own (s.n + 1))))) False) (No d)
 | some (.own id1), some el => match o6 (s.turn id2 .oth).hp id1 with
  | some (_, .pts e1 xs) => cond (Nat.beq t t' && (Nat.beq el e2 && (Nat.beq el e1 && a1i P t el 1 (a3n P el))))
    (brM s.md (Nat.ble ((xs.length + ys.length) * j0 P el) d4) (K (((s.turn id2 .oth).ren id1 (.pts el (xs ++ ys))).put d (some (.own (s.n + 1))))) False) (No d)
  | _ => No d
 | _, _ => No d
def c2x : List (SV E) -> Bool
 | [] => true
 | .ptr _ _ :: r => c2x r
 | .mp _ :: r => c2x r
 | _ => false
def d1x (P : Program) (s : St E) (d : Option Nat) (t n : Nat) (ps : List (Nat × Operand)) (el : Nat) (l : List (SV E)) (K : St E -> Prop) : Prop :=
 cond (c2x l && (a1i P t el 1 (a3n P el) && (Nat.ble (n * 1) 16777216 && (Nat.beq ps.length n && b5f 0 (ps.map (·.1)))))) (K ((s.new (.pts el l)).put d (some (.own s.n)))) (No d)
inductive Nx {κ : Type} (left : List κ) (a : Prop) (b : κ -> List κ -> Prop) : Prop where
  | mk (h0 : left = [] -> a) (h1 : ∀ l1 x l2, left = l1 ++ x :: l2 -> b x (l1 ++ l2))
inductive Nl {α : Type} (xs : List α) (a b : Prop) : Prop where
  | mk (h1 : xs = [] -> a) (h0 : b)
def g2g (s : St E) : SV E -> Option ((t : Ty) × List (t.den E))
 | .sl u xs => some ⟨u, xs⟩
 | .own id => match o6 s.hp id with | some (_, .arr u _ xs) => some ⟨u, xs⟩ | _ => none
 | _ => none
def c5l (s : St E) (d : Option Nat) (id mid ver kt : Nat) (k : Ty) (left : List (k.den E)) (K : St E -> Prop) : Prop := match o6 s.hp mid with
 | some (ver', .map k' _ _) => cond (Nat.beq ver ver' && decide (k = k'))
  (Nx left (K (s.put d (some (.tup [.lit false])))) fun x rest => K ((s.turn id (.cur mid ver kt k x rest)).put d (some .nxt))) (No id)
 | _ => No id
def e0v (s : St E) (d : Option Nat) (op : Op) (K : St E -> Prop) : Prop := match op with
 | .makeMap T none => match c5h P T with
  | some (kt, et) => match Z.ky kt, Z.t et with
   | some k, some v => K ((s.new (.map k v [])).put d (some (.mp s.n)))
   | _, _ => No op
  | none => No op
 | .mapUpdate t x y z => match opd s z with
  | some z0 => match frz s z0 with
   | some s1 => match opd s1 x, opd s1 y, opd s1 z with
    | some (.mp id), some b, some c => match o6 s1.hp id with
     | some (_, .map k v xs) => match c8j F P Z s1.bs t k v b, a6k F s1.bs v c with
      | some (a, _), some q => K ((s1.turn id (.map k v (j6 k v xs a q))).put d none)
      | _, _ => No op
     | _ => No op
    | _, _, _ => No op
   | none => No op
  | none => No op
 | .mapEntry t x y => match opd s x, opd s y with
  | some (.mp id), some b => match o6 s.hp id with
   | some (_, .map k v xs) => match c8j F P Z s.bs t k v b with
    | some (a, z) => K ((((s.turn id (.map k v (j6 k v xs a ((a0f k v xs a).getD z)))).new (.stp id s.n k a))).put d (some (.tup [c2c F v ((a0f k v xs a).getD z), .stm (s.n + 1)])))
    | none => No op
   | _ => No op
  | _, _ => No op
 | .entryStore t x y z => match opd s z with
  | some z0 => match frz s z0 with
   | some s1 => match opd s1 x, opd s1 y, opd s1 z with
    | some (.mp id), some (.stm q), some c => match o6 s1.hp id, o6 s1.hp q, c5h P t with
     | some (ver', .map k v xs), some (_, .stp mid ver k' a), some (kt, _) => match Ty.to (fun t => t.den E) k' k a, a6k F s1.bs v c with
      | some a', some y' => cond (Nat.beq mid id && (Nat.beq ver ver' && Z.kyB kt k)) (K ((s1.turn id (.map k v (j6 k v xs a' y'))).put d none)) (No op)
      | _, _ => No op
     | _, _, _ => No op
    | _, _, _ => No op
   | none => No op
  | none => No op
 | .slice t x (some y) none none => match opd s x with
  | some (.own id) => match o6 s.hp id, d1p s 0 (some y), a4c P t with
   | some (_, .arr u _ xs), some l, some el => cond (x6 P t el (Ty.sz (E := E) u)) (brM s.md (decide (0 <= l) && decide (l <= (xs.length : Int))) (K (s.put d (some (.otl id l.toNat (Ty.sz (E := E) u))))) False) (No op)
   | _, _, _ => No op
  | _ => No op
 | .slice t x lo hi none => match opd s x with
  | some (.own id) => match e0u s (.own id) with
   | some s1 => match ev2 F P s1 (.slice t x lo hi none) with
    | some (.need c y) => brM s.md c (K (s1.put d (some y))) False
    | _ => No op
   | none => No op
  | _ => No op
 | .range t x => match opd s x, c5h P t with
  | some (.mp id), some (kt, _) => match o6 s.hp id with
   | some (ver, .map k _ xs) => K ((s.new (.itr id ver kt k (xs.map fun p => p.1))).put d (some (.ptr s.n 0)))
   | _ => No op
  | _, _ => No op
 | .next x false => match opd s x with
  | some (.ptr id 0) => match o6 s.hp id with
   | some (_, .itr mid ver kt k left) => c5l s d id mid ver kt k left K
   | some (_, .cur mid ver kt k _ left) => c5l s d id mid ver kt k left K
   | _ => No op
  | _ => No op
 | .binOp .eql t x y _ => match opd s x, opd s y with
  | some .nils, some .nils => cond (a3c P t) (K (s.put d (some (.lit true)))) (No op)
  | some a, some .nils => match g2g s a with
   | some ⟨_, xs⟩ => cond (a3c P t) (Nl xs (K (s.put d (some (.lit true)))) (K (s.put d (some (.lit false))))) (No op)
   | none => No op
  | _, _ => No op
 | .entry x => match opd s x with
  | some a => match e0o F P Z s a with | some z => K (s.put d (some z)) | none => No op
  | none => No op
 | _ => No op
def e0w (s : St E) (d : Option Nat) (x : Operand) (t : Nat) (K : St E -> Prop) : Prop := match opd s x with
 | some (.otl id lo sz) => match o6 s.hp id, a4c P t with
  | some (_, .arr u el xs), some el' => match Z.z el with
   | some zl => match a8r F [] u zl with
    | some z => cond (Nat.beq el el' && Nat.beq sz (Ty.sz (E := E) u)) (brM s.md (Nat.ble lo xs.length) (K ((s.turn id (.arr u el (xs.take lo ++ List.replicate (xs.length - lo) z))).put d (some (.tup [])))) False) (No t)
    | none => No t
   | none => No t
  | _, _ => No t
 | _ => No t
def e0x (P : Program) (s : St E) (d : Option Nat) (t id o n i : Nat) (y : SV E) (K : St E -> Prop) : Prop := match o6 s.hp id, c2v P t with
 | some (_, .box T c), some sz => match a1y o c, a0u o c with
  | some a, some (.vec k q l :: r) => match asI y with
   | some (k', v) => cond (Nat.beq sz 1 && (Nat.beq q n && decide (k' = k))) (K ((s.turn id (.box T (a ++ .vec k q (l.set i v) :: r))).put d none)) (No t)
   | none => No t
  | some a, some (.dig g :: r) => match y with
   | .u8 x => cond (Nat.beq sz 1 && Nat.beq n 32) (K ((s.turn id (.box T (a ++ .dig (a5q g i x) :: r))).put d none)) (No t)
   | _ => No t
  | _, _ => No t
 | _, _ => No t
def e0y (P : Program) (s : St E) (d : Option Nat) (t id o n lo len : Nat) (K : St E -> Prop) : Prop := match o6 s.hp id, a4c P t with
 | some (_, .box T c), some el => match a1y o c, a0u o c, (P.info? el).bind (fun i => i.zero) with
  | some a, some (.vec k q l :: r), some (.int k' z) => cond (Nat.beq q n && decide (k' = k)) (K ((s.turn id (.box T (a ++ .vec k q (a7l l lo (List.replicate len z)) :: r))).put d (some (.tup [])))) (No t)
  | _, _, _ => No t
 | _, _ => No t
def e0z (P : Program) (s : St E) (d : Option Nat) (t id o n lo len : Nat) (u : Ty) (xs : List (u.den E)) (K : St E -> Prop) : Prop := match o6 s.hp id, a4c P t, Ty.to (fun t => List (t.den E)) u .u8 xs with
 | some (_, .box T c), some el, some ys => match a1y o c, a0u o c with
  | some a, some (.vec .u8 q l :: r) => cond (Nat.beq q n && x6 P t el 1)
   (K ((s.turn id (.box T (a ++ .vec .u8 q (a7l l lo ((ys.take len).map fun x => (x.toNat : Int))) :: r))).put d (some (.i .i64 (Nat.min ys.length len : Nat))))) (No t)
  | _, _ => No t
 | _, _, _ => No t
def d4j (s : St E) (id off : Nat) : Option Dig := match o6 s.hp id with
 | some (_, .box _ c) => match a0u off c with | some (.dig g :: _) => some g | _ => none
 | _ => none
def e1a (s : St E) (d : Option Nat) (f : Nat) (l : List (SV E)) (K : St E -> Prop) : Prop := match Z.ex f, l with
 | some .add64, [.i .u64 x, .i .u64 y, .i .u64 c] => brM s.md (decide (0 <= x) && (decide (0 <= y) && (decide (0 <= c) && decide (c <= 1)))) (K (s.put d (some (.tup [.i .u64 ((x + y + c) % 18446744073709551616), .i .u64 ((x + y + c) / 18446744073709551616)])))) False
 | some (.addT k), [.ptr id off, .i k' y] => match o6 s.hp id with
  | some (_, .box T c) => match a1y off c, a0u off c with
   | some a, some (.i q x :: r) => cond (decide (k' = q) && decide (k = q)) (K ((s.turn id (.box T (a ++ .i q (q.wrap (x + y)) :: r))).put d (some (.i q (q.wrap (x + y)))))) (No f)
   | _, _ => No f
  | _ => No f
 | some .cmp, [.sl t xs, .sl t' ys] => match Ty.to (fun t => List (t.den E)) t .u8 xs, Ty.to (fun t => List (t.den E)) t' .u8 ys with
  | some a, some b => K (s.put d (some (.i .i64 (b1l a b))))
  | _, _ => No f
 | some .cmp, [.vw i1 o1, .vw i2 o2] => match d4j s i1 o1, d4j s i2 o2 with
  | some a, some b => K (s.put d (some (.i .i64 (b1l a.l b.l))))
  | _, _ => No f
 | _, _ => No f
def c5m (P : Program) (call : j7 E) (s : St E) (d : Option Nat) (T id off : Nat) (name : String) (l : List (SV E)) (K : St E -> Prop) : Prop := match c2w P T name with
 | some f => cond (a1h P f) (call f (.ptr id off :: l) s (fun s' x => K ((s.mem s').putV d x))) (No f)
 | none => No name
def e1b (call : j7 E) (s : St E) (d : Option Nat) (op : Op) (K : St E -> Prop) : Prop := match op with
 | .alloc T => match Z.z T with
  | some l => K ((s.new (.box T l)).put d (some (.ptr s.n 0)))
  | none => No op
 | .box T x => match opd s x with
  | some y => match cellsOf y with
   | some l => K ((s.new (.box T l)).put d (some (.ptr s.n 0)))
   | none => No op
  | none => No op
 | .store t a x => match opd s a, opd s x with
  | some (.ptr id o), some y => match o6 s.hp id, cellsOf y, c2v P t with
   | some (_, .box T c), some l, some n => match splice c o n l with
    | some c' => K ((s.turn id (.box T c')).put d none)
    | none => No op
   | _, _, _ => No op
  | some (.oel id i sz o), some y0 => match frz s y0 with
   | some s1 => match opd s1 x, o6 s1.hp id, c2v P t with
    | some y, some (_, .arr u el xs), some n => cond (Nat.beq sz (Ty.sz (E := E) u)) (match cellsOf y with
     | some l => match splice (opn F u (xs.getD i (u.dflt E))) o n l with
      | some c' => match a8r F s1.bs u c' with
       | some z => K ((s1.turn id (.arr u el (xs.set i z))).put d none)
       | none => No op
      | none => No op
     | none => No op) (No op)
    | _, _, _ => No op
   | none => No op
  | some (.vel id o n i), some y => e0x P s d t id o n i y K
  | _, _ => No op
 | .buildSlice t n ps => match a8b P t, b1m s (ps.toList.map (·.2)) with
  | some el, some l0 => match b5e s l0, Z.t el with
   | some s1, some u => match b1m s1 (ps.toList.map (·.2)) with
    | some l => match a9p F s1.bs u l with
     | some xs => cond (a1i P t el (Ty.sz (E := E) u) (a3n P el) && Nat.blt 0 (Ty.sz (E := E) u) && Nat.ble (n * Ty.sz (E := E) u) 16777216 && Nat.beq ps.toList.length n && b5f 0 (ps.toList.map (·.1)))
       (K ((s1.new (.arr u el xs)).put d (some (.own s1.n)))) (No op)
     | none => No op
    | none => No op
   | some _, none => d1x P s d t n ps.toList el l0 K
   | _, _ => No op
  | _, _ => No op
 | .call c => match c.callee with
  | .value g => match opd s g, b1m s c.args.toList with
   | some (.fn f caps), some l => cond (a1h P f) (call f (l ++ caps) s (fun s' x => K ((s.mem s').putV d x))) (match caps with | [] => e1a Z s d f l K | _ => No op)
   | some (.mth (.ifc T id off) name), some l => c5m P call s d T id off name l K
   | _, _ => No op
  | .invoke g name => match opd s g, b1m s c.args.toList with
   | some (.ifc T id off), some l => c5m P call s d T id off name l K
   | _, _ => No op
  | .builtin .clear => match c.args.toList, c.argTypes.toList with
   | [x], [t] => match opd s x with
    | some (.vsl id o n lo len) => e0y P s d t id o n lo len K
    | _ => e0w F Z s d x t K
   | _, _ => No op
  | .builtin .copy => match c.args.toList, c.argTypes.toList with
   | [x, y], [t, _] => match opd s x, opd s y with
    | some (.vsl id o n lo len), some (.sl u xs) => e0z P s d t id o n lo len u xs K
    | _, _ => No op
   | _, _ => No op
  | .builtin .len => match c.args.toList, c.argTypes.toList with
   | [x], [t] => match opd s x, c5h P t with
    | some (.mp id), some _ => match o6 s.hp id with
     | some (_, .map _ _ xs) => K (s.put d (some (.i .i64 (xs.length : Nat))))
     | _ => No op
    | _, _ => No op
   | _, _ => No op
  | .builtin .append => match c.args.toList, c.argTypes.toList with
   | [x, y], [t, t'] => match opd s y with
    | some (.vw id off) => d1v Z s d x id off t t' K
    | some (.own id2) => match o6 s.hp id2 with
     | some (_, .pts e2 ys) => d1w P s d x t t' id2 e2 ys K
     | _ => d4i Z s d x y t t' K
    | _ => d4i Z s d x y t t' K
   | _, _ => No op
  | _ => No op
 | op => e0v F Z s d op K
def e1c (call : j7 E) (s : St E) (d : Option Nat) (op : Op) (K : St E -> Prop) : Prop := match ev F P Z s op with
 | some (.val x) => K (s.putV d x)
 | some (.cmp b) => K (s.cmp d b)
 | some (.need c x) => brM s.md c (K (s.put d (some x))) False
 | some (.know c x) => brM s.md c (K (s.put d (some x))) True
 | none => e1b F Z call s d op K
def c8k (call : j7 E) (s : St E) (d : Option Nat) (op : Op) (K : St E -> Prop) : Prop := match op with
 | .pick c a b => match opd s c with
  | some x => ask s x (fun s => e1c F Z call s d (.pick c a b) K) (fun s => e1c F Z call s d (.pick c a b) K)
  | none => False
 | op => e1c F Z call s d op K
def a6m (j : Nat) (q : Bool) : List Oper -> List Oper × List Oper
 | [] => ([], [])
 | o :: r => match o.guard with
  | some (j', q') => bif Nat.beq j' j && (q' == q) then (o :: (a6m j q r).1, (a6m j q r).2) else ([], o :: r)
  | none => ([], o :: r)
def evP (N : Nat) : List Oper -> St E -> Option (St E)
 | [], s => some s
 | o :: r, s => bif dOk o.dst && okD N o.dst then match ev F P Z s o.op with
   | some (.val x) => evP N r (s.putV o.dst x)
   | some (.cmp b) => evP N r (s.cmp o.dst b)
   | some (.know _ x) => evP N r (s.put o.dst (some x))
   | some (.need _ _) => none
   | none => match o.op with
    | .call c => match c.callee with
     | .value g => match opd s g, b1m s c.args.toList with
      | some (.fn f []), some l => match Z.pc f l s with
       | some x => bif a1h P f then evP N r (s.putV o.dst x) else none
       | none => none
      | _, _ => none
     | _ => none
    | _ => none
  else none
def b9f : List Oper -> PT (SV E) -> PT (SV E)
 | [], t => t
 | o :: r, t => b9f r (match o.dst with | some d => t.put 12 d none | none => t)
def e8l (s : St E) (x : Operand) : Option Bool := match opd s x with | some y => asB s.bs y | none => none
def apart (k : Nat) (l : List Oper) : Bool := l.all fun o => match o.dst with | some d => !(Nat.beq d k) | none => true
def mrg (N : Nat) (s : St E) (j : Nat) (q : Bool) (k id : Nat) (l : List Oper) : Option (St E × Nat) := match (a6m j q l).2 with
 | o :: _ => match o.guard, o.op with
  | none, .pick (.tmp c) a b => bif Nat.beq c k && (dOk o.dst && okD N o.dst) && apart k (a6m j q l).1 then match evP F Z N (a6m j q l).1 s, s.bs[id]? with
    | some s1, some tq => match e8l s1 (cond q a b), e8l ({ s with sl := b9f (a6m j q l).1 s.sl } : St E) (cond q b a) with
     | some B1, some B0 => some (({ s with bs := s1.bs, sl := b9f (a6m j q l).1 s.sl } : St E).cmp o.dst (cond q (cond tq B1 B0) (cond tq B0 B1)), (a6m j q l).1.length)
     | _, _ => none
    | _, _ => none
   else none
  | _, _ => none
 | [] => none
def g2h (N : Nat) (s : St E) (j : Nat) (q : Bool) (k : Nat) (x : SV E) (l : List Oper) : Option (St E × Nat) := bif Z.mg then match x with
  | .bv id => bif s.kn.any (Nat.beq id) then none else mrg F Z N s j q k id l
  | _ => none
 else none
def b3n (call : j7 E) (N : Nat) (ops : Array Oper) : Nat -> List Oper -> St E -> (St E -> Prop) -> Prop
 | _, [], s, K => K s
 | sk + 1, _ :: r, s, K => b3n call N ops sk r s K
 | 0, o :: r, s, K => cond (dOk o.dst && okD N o.dst) (match o.guard with
  | none => c8k F Z call s o.dst o.op (fun s => b3n call N ops 0 r s K)
  | some (j, q) => match a4s ops j with
   | some k => match s.sl.get k with
    | some .undef => b3n call N ops 0 r (s.put o.dst (some .undef)) K
    | some x => match g2h F Z N s j q k x (o :: r) with
     | some (s', n) => b3n call N ops n r s' K
     | none => ask s x
      (fun s => cond q (c8k F Z call s o.dst o.op (fun s => b3n call N ops 0 r s K)) (b3n call N ops 0 r (s.put o.dst (some .undef)) K))
      (fun s => cond q (b3n call N ops 0 r (s.put o.dst (some .undef)) K) (c8k F Z call s o.dst o.op (fun s => b3n call N ops 0 r s K)))
    | none => False
   | none => False) False
@[reducible] def vcL (call : j7 E) (N : Nat) (ops : Array Oper) (l : List Oper) (s : St E) (K : St E -> Prop) : Prop := b3n F Z call N ops 0 l s K
def e1d : List Oper -> List Nat -> List Nat
 | [], A => A
 | o :: r, A => e1d r (A ++ [d1k o A])
def g6v : Op -> Bool
 | .mapEntry _ _ _ => true
 | _ => false
def g6w : Op -> Bool
 | .lookup _ _ _ _ => true
 | _ => false
def g2i (s : St E) (x : SV E) (q : Bool) : Bool := match x with
 | .lit b => xor b q
 | .bv id => s.kn.any (Nat.beq id) && (match s.bs[id]? with | some b => xor b q | none => false)
 | _ => false
def rdB (s : St E) (ops : Array Oper) (o : Oper) : Bool := bif g6w o.op && ops.toList.any (fun o => g6v o.op) then false else match o.guard with
 | none => match o.op with
  | .pick c a b => match opd s c, opd s a, opd s b with | some _, some _, some _ => true | _, _, _ => false
  | op => (ev F P Z s op).isSome
 | some (j, q) => match a4s ops j with
  | some k => match s.sl.get k with
   | some .undef => true
   | some x => bif Z.sk && g2i s x q then true else match o.op with
    | .pick c a b => match opd s c, opd s a, opd s b with | some _, some _, some _ => true | _, _, _ => false
    | op => (ev F P Z s op).isSome
   | none => false
  | none => false
def tkE (s : St E) (i : Nat) (op : Op) (T : List (Nat × Nat)) : List (Nat × Nat) := match dep s op with | some k => (i, k) :: T | none => T
def f5c (s : St E) (T : List (Nat × Nat)) : Bool := T.all fun p => s.hp.any fun x => Nat.beq x.2.1 p.2
def e1e (s : St E) (i : Nat) (d : Option Nat) (op : Op) (T : List (Nat × Nat)) (K : List (Nat × Nat) -> St E -> Prop) : Prop := match ev F P Z s op with
 | some (.val x) => K (tkE s i op T) (s.putV d x)
 | some (.cmp b) => K (tkE s i op T) (s.cmp d b)
 | some (.need c x) => brM s.md c (K (tkE s i op T) (s.put d (some x))) False
 | some (.know c x) => brM s.md c (K (tkE s i op T) (s.put d (some x))) True
 | none => False
def c2y (s : St E) (i : Nat) (d : Option Nat) (op : Op) (T : List (Nat × Nat)) (K : List (Nat × Nat) -> St E -> Prop) : Prop := match op with
 | .pick c a b => match opd s c with
  | some x => ask s x (fun s => e1e F Z s i d (.pick c a b) T K) (fun s => e1e F Z s i d (.pick c a b) T K)
  | none => False
 | op => e1e F Z s i d op T K
def d1y (N : Nat) (ops : Array Oper) (s : St E) (i : Nat) (o : Oper) (T : List (Nat × Nat)) (K : List (Nat × Nat) -> St E -> Prop) : Prop :=
 cond (dOk o.dst && okD N o.dst) (match o.guard with
  | none => c2y F Z s i o.dst o.op T K
  | some (j, q) => match a4s ops j with
   | some k => match s.sl.get k with
    | some .undef => K T (s.put o.dst (some .undef))
    | some x => ask s x
     (fun s => cond q (c2y F Z s i o.dst o.op T K) (K T (s.put o.dst (some .undef))))
     (fun s => cond q (K T (s.put o.dst (some .undef))) (c2y F Z s i o.dst o.op T K))
    | none => False
   | none => False) False
def f5d (p : Nat -> Prop) : List Nat -> Prop
 | [] => False
 | [k] => p k
 | k :: r => p k /\ f5d p r
def vcD (call : j7 E) (N : Nat) (l : List Oper) (A : List Nat) : Nat -> Nat -> List (Nat × Nat) -> St E -> (St E -> Prop) -> Prop
 | 0, done, _, s, K => cond (a1x l done).isEmpty (K s) False
 | n + 1, done, T, s, K => match a1x l done with
  | [] => K s
  | k :: r => match (k :: r).find? (fun i => (match l[i]? with | some o => rdB F Z s l.toArray o | none => false) && tkB l A done i) with
   | some i => match l[i]? with
    | some o => d1y F Z N l.toArray s i o T (fun T s => vcD call N l A n (done ||| (1 <<< i)) T s K)
    | none => False
   | none => f5d (fun i => match l[i]? with
    | some o => vcL F Z call N l.toArray [o] s (fun s' => let T' := T.filter (fun p => !(A.getD i 0).testBit p.1); cond (f5c s' T') (vcD call N l A n (done ||| (1 <<< i)) T' s' K) False)
    | none => False) (k :: r)
end Go.Vz
namespace Go.Vz
open Go Go.Gx
variable {E : DE} {P : Program} {F : DF E} {Z : ZF P E} {w0 : World} {G0 : Gh}
section
variable {m : Mn E} {N : Nat} {e : Env} {w : World} {s : St E} {ops : Array Oper} {Q : Exit -> Act -> World -> Prop} {rest : List Oper} {d : Option Nat} {ty : TypeId} {pos : String} {af : Array Edge} {K : St E -> Prop}
def f5e {id o n i k : Nat} {x : HB E} {v : Value} {T b : Nat} {cs : List Value} (hv : RV m (.vel id o n i : SV E) v) (e3 : m.ν id = .pointer (some ⟨b, 0, none⟩)) : v = .pointer (some ⟨b, o + i, none⟩) /\ i < n := by
 obtain ⟨_, h9, b', o', h6, h7⟩ := d6 rfl hv
 rw [e3] at h6
 simp only [Value.pointer.injEq, A3, Addr.mk.injEq, M0] at h6
 obtain ⟨rfl, rfl⟩ := h6
 rw [F2] at h7
 exact ⟨h7, h9⟩
def e1f (r : Rel w0 G0 s m e w) {t id o n i : Nat} {a x : Operand} {y : SV E} (ha : opd s a = some (.vel id o n i)) (hy : opd s x = some y) (h : e0x P s d t id o n i y K) (hd : dOk d = true) (hN : okD N d = true)
  (hk : ∀ s' m' v w', Up m m' -> Rel w0 G0 s' m' (e.putO d v) w' -> K s' -> WL P ops Q N rest (e.putO d v) w') : WL P ops Q N (⟨d, .store t a x, ty, pos, af, none⟩ :: rest) e w := by
 unfold e0x at h
 split at h
 ·rename_i k T c sz hg hsz; obtain ⟨va, h1, h2⟩ := d8 r ha; obtain ⟨v, h3, h4⟩ := d8 r hy; obtain ⟨_, _, _, ⟨b, cs, e1, e2, e3, e4⟩, _⟩ := r.wd hg; obtain ⟨p, q, A, B, hC, hB, hT⟩ := r.toRelH.turn hg; obtain ⟨rfl, hi⟩ := f5e (k := k) (x := .oth) (T := T) (cs := cs) h2 e3; rw [e1] at hB; rw [e2] at hC hB; have fin : ∀ {c' : List (SV E)} {z : Value}, sz = 1 -> v = z -> z.cells = #[z] -> z.oneCell' = true -> RC m c' (cs.take (o + i) ++ [z] ++ cs.drop (o + i + 1)) -> o + i + 1 <= cs.length -> K ((s.turn id (.box T c')).put d none) ->
    WL P ops Q N (⟨d, .store t a x, ty, pos, af, none⟩ :: rest) e w := by
   intro c' z hz hv hzc hz1 f1 f3 hK; subst hv hz; refine d3v p.length hC hB (show (p ++ ([(b, T, cs)] ++ q))[p.length]? = some (b, T, cs) by simp) h1 h3 hsz hzc rfl (by simp [hz1]) f3 rfl hN fun w' hC' hB' => ?_
   obtain ⟨u, r'⟩ := hT m.G w' (.box T c') [(b, T, cs.take (o + i) ++ [v] ++ cs.drop (o + i + 1))] [] (GLe.refl _) hC' (by simpa using hB') ⟨b, _, rfl, rfl, e3, f1⟩; exact hk _ _ _ _ u ((r.mem u r' rfl).put hd fun y hy => by cases hy) hK
  split at h
  ·rename_i A' kk q' l rr ht hdr; split at h
   ·rename_i k' z hz; cases hc : Nat.beq sz 1 && (Nat.beq q' n && decide (k' = kk)) with
    | false => rw [hc] at h; exact h.elim
    | true =>
     rw [hc] at h; simp only [A7, C6] at hc; obtain ⟨c1, c2, rfl⟩ := hc; have c1 := A8 c1; have c2 := A8 c2; subst c2; have := a2u hz h4; obtain ⟨f1, f2⟩ := e4.vput (X := [z]) (lo := i) ht hdr (by simp; omega)
     have hlen : i < l.length := by
      obtain ⟨_, _, _, ⟨_, hq⟩, _⟩ := e4.drop hdr; omega
     rw [e0l hlen] at f1; exact fin c1 this rfl rfl (by simpa using f1) (by simpa using f2) h
   ·exact h.elim
  ·rename_i A' g rr ht hdr; split at h
   ·rename_i z; cases hc : Nat.beq sz 1 && Nat.beq n 32 with
    | false => rw [hc] at h; exact h.elim
    | true =>
     rw [hc] at h; rw [A7] at hc; have c1 := A8 hc.1; have c2 := A8 hc.2; subst c2; obtain ⟨f1, f2⟩ := e4.dput (x := z) ht hdr hi; have h4 : v = _ := d6 rfl h4; exact fin c1 h4 rfl rfl f1 f2 h
   ·exact h.elim
  ·exact h.elim
 ·exact h.elim
def e1g {id o n lo len : Nat} {v : Value} {b : Nat} (hv : RV m (.vsl id o n lo len : SV E) v) (e3 : m.ν id = .pointer (some ⟨b, 0, none⟩)) : v = .slice (some ⟨b, o + lo, none⟩) len (n - lo) /\ lo + len <= n := by
 obtain ⟨_, h8, h9, b', o', h6, h7⟩ := d6 rfl hv
 rw [e3] at h6
 simp only [Value.pointer.injEq, A3, Addr.mk.injEq, M0] at h6
 obtain ⟨rfl, rfl⟩ := h6
 rw [F2] at h7
 exact ⟨h7, h8⟩
def c8l {t el : Nat} (h : a4c P t = some el) : P.underlying t = some (.slice el) := by
 unfold a4c at h
 split at h
 ·rename_i hu; cases h; exact hu
 ·cases h
def e1h (r : Rel w0 G0 s m e w) {t id o n lo len : Nat} {x : Operand} (hx : opd s x = some (.vsl id o n lo len)) (h : e0y P s d t id o n lo len K) (hd : dOk d = true) (hN : okD N d = true)
  (hk : ∀ s' m' v w', Up m m' -> Rel w0 G0 s' m' (e.putO d v) w' -> K s' -> WL P ops Q N rest (e.putO d v) w') : WL P ops Q N (⟨d, .call ⟨.builtin .clear, #[x], #[t]⟩, ty, pos, af, none⟩ :: rest) e w := by
 unfold e0y at h
 split at h
 ·rename_i k T c el hg hel; split at h
  ·rename_i A' kk q' l rr k' z ht hdr hz; cases hc : Nat.beq q' n && decide (k' = kk) with
   | false => rw [hc] at h; exact h.elim
   | true =>
    rw [hc] at h; simp only [A7, C6] at hc; obtain ⟨c2, rfl⟩ := hc; have c2 := A8 c2; subst c2; obtain ⟨v, h1, h2⟩ := d8 r hx; obtain ⟨_, _, _, ⟨b, cs, e1, e2, e3, e4⟩, _⟩ := r.wd hg; obtain ⟨p, q, A, B, hC, hB, hT⟩ := r.toRelH.turn hg; obtain ⟨rfl, hi⟩ := e1g h2 e3; rw [e1] at hB; rw [e2] at hC hB; obtain ⟨f1, f2⟩ := e4.vput (X := List.replicate len z) (lo := lo) ht hdr (by simpa using hi); rw [List.map_replicate, L9] at f1; rw [L9] at f2; refine e0m (z := .int k' z) p.length (c8l hel) hz rfl rfl hC hB (show (p ++ ([(b, T, cs)] ++ q))[p.length]? = some (b, T, cs) by simp) h1 f2 rfl hN fun w' hC' hB' => ?_
    obtain ⟨u, r'⟩ := hT m.G w' (.box T _) [(b, T, _)] [] (GLe.refl _) hC' (by simpa using hB') ⟨b, _, rfl, rfl, e3, f1⟩; exact hk _ _ _ _ u ((r.mem u r' rfl).put hd fun y hy => by cases hy; exact ⟨[], rfl, rfl⟩) h
  ·exact h.elim
 ·exact h.elim
def take_range {G : Gh} {A : Addr} {cap : Nat} {ys : List UInt8} {M : Nat} (hS : Sl G (.slice (some A) ys.length cap) ys) (hh : Holds G w) (hM : M <= ys.length) (h0 : 0 < M) : A.spot = none /\ w.rangeAt A.block A.off ((ys.take M).map fun x => Value.int .u8 (x.toNat : Int)) := by
 obtain ⟨A', cap', hv, h2, h3, h4⟩ := hS
 injection hv with e1 _ _
 subst e1
 have h5 : ∀ j x, ys[j]? = some x -> A = ⟨A.block, A.off, none⟩ /\ w.cell? ⟨A.block, A.off + j, none⟩ = some (.int .u8 (x.toNat : Int)) := fun j x hj => by
  obtain ⟨b, o, row, hA, hr, hx⟩ := h4 j x hj; injection hA with hA
  subst hA; have hx : row = [.int .u8 (x.toNat : Int)] := hx; subst hx; have := a4k.cell hh hr (show [Value.int .u8 (x.toNat : Int)][0]? = some _ from rfl); exact ⟨rfl, by simpa [Rp.sz] using this⟩
 refine ⟨?_, fun j v hj => ?_⟩
 ·have := (h5 0 ys[0] (B2 (by omega))).1; rw [this]
 ·rw [C7, J2] at hj; split at hj
  ·obtain ⟨x, hx, rfl⟩ := D8.1 hj; exact (h5 j x hx).2
  ·cases hj
def e1i (r : Rel w0 G0 s m e w) {t t2 id o n lo len : Nat} {x y : Operand} {u : Ty} {xs : List (u.den E)} (hx : opd s x = some (.vsl id o n lo len)) (hy : opd s y = some (.sl u xs)) (h : e0z P s d t id o n lo len u xs K) (hd : dOk d = true) (hN : okD N d = true)
  (hk : ∀ s' m' v w', Up m m' -> Rel w0 G0 s' m' (e.putO d v) w' -> K s' -> WL P ops Q N rest (e.putO d v) w') : WL P ops Q N (⟨d, .call ⟨.builtin .copy, #[x, y], #[t, t2]⟩, ty, pos, af, none⟩ :: rest) e w := by
 unfold e0z at h
 split at h
 ·rename_i k T c el ys hg hel hys; split at h
  ·rename_i A' q' l rr ht hdr; cases hc : Nat.beq q' n && x6 P t el 1 with
   | false => rw [hc] at h; exact h.elim
   | true =>
    rw [hc] at h; rw [A7] at hc; obtain ⟨c2, hsl⟩ := hc; have c2 := A8 c2; subst c2; obtain ⟨v, h1, h2⟩ := d8 r hx; obtain ⟨v2, h3, h4⟩ := d8 r hy; have hS : @Sl _ (Ty.rp E .u8) m.G v2 ys := Sl.to hys (d6 rfl h4); have hS : @Sl UInt8 _ m.G v2 ys := hS; obtain ⟨_, _, _, ⟨b, cs, e1, e2, e3, e4⟩, _⟩ := r.wd hg; obtain ⟨p, q, A, B, hC, hB, hT⟩ := r.toRelH.turn hg; obtain ⟨rfl, hi⟩ := e1g h2 e3; rw [e1] at hB; rw [e2] at hC hB; have hX : ((ys.take len).map fun x => (x.toNat : Int)).length = Nat.min ys.length len := by
     rw [C5, C4]; exact Nat.min_comm _ _
    have hXm : (((ys.take len).map fun x => (x.toNat : Int)).map (Value.int .u8)) = (ys.take (Nat.min ys.length len)).map fun x => Value.int .u8 (x.toNat : Int) := by
     rw [O1]; have : ys.take len = ys.take (Nat.min ys.length len) := by
      have h1 : Nat.min ys.length len = min len ys.length := Nat.min_comm _ _; rw [h1, List.take_eq_take_iff]; omega
     rw [<- this]; rfl
    have hmin : Nat.min ys.length len <= len := T3 _ _; have hmin2 : Nat.min ys.length len <= ys.length := Nat.min_le_left _ _; obtain ⟨f1, f2⟩ := e4.vput (X := (ys.take len).map fun x => (x.toNat : Int)) (lo := lo) ht hdr (by rw [hX]; omega)
    rw [hX, hXm] at f1; rw [hX] at f2; have hrow : ((ys.take (Nat.min ys.length len)).map fun x => Value.int .u8 (x.toNat : Int)).length = Nat.min ys.length len := by
     rw [C5, C4]; omega
    obtain ⟨A2, cap2, rfl⟩ := hS.form; have fin : ∀ w', Cx w0 G0 m.G w' ⟨[], A ++ ([] ++ B)⟩ -> Bxs m.G w' w0.heap.size (p ++ ([(b, T, cs.take (o + lo) ++ ((ys.take (Nat.min ys.length len)).map fun x => Value.int .u8 (x.toNat : Int)) ++ cs.drop (o + lo + Nat.min ys.length len))] ++ q)) ⟨[], A ++ ([] ++ B)⟩ ->
      WL P ops Q N rest (e.putO d (goInt (Nat.min ys.length len))) w' := by
     intro w' hC' hB'; obtain ⟨u, r'⟩ := hT m.G w' (.box T _) [(b, T, _)] [] (GLe.refl _) hC' hB' ⟨b, _, rfl, rfl, e3, f1⟩; exact hk _ _ _ _ u ((r.mem u r' rfl).put hd fun y hy => by cases hy; rfl) h
    by_cases h0 : Nat.min ys.length len = 0
    ·
     refine x5 (R := fun v w' => v = goInt (Nat.min ys.length len) /\ w' = w) hN (fun a ha => ?_) ?_
     ·unfold OpR; obtain ⟨hu, hz⟩ := b6m hsl; have hr := run_copy_none (P := P) w t t2 ty el (some ⟨b, o + lo, none⟩) A2 len (q' - lo) ys.length cap2 hu hz h0; have hr' : (execOp a.eval ⟨d, .call ⟨.builtin .copy, #[x, y], #[t, t2]⟩, ty, pos, af, none⟩).run P w = .ok (.value (goInt (Nat.min ys.length len))) w := by
       simp only [execOp, resolve, Sem.run_bind, Sem.run_pure, Result.andThen_ok, invoke, builtin, K8, C9, L0, ha.eval h1, ha.eval h3, hr, h0]
       rfl
      rw [hr']; exact ⟨rfl, rfl⟩
     ·rintro v w' ⟨rfl, rfl⟩; refine fin w' hC ?_; rw [h0]; simpa using hB
    ·cases A2 with
     | none =>
      exfalso; obtain ⟨A', cap', hv, _, _, h4'⟩ := hS; injection hv with e5 _ _
      subst e5; obtain ⟨_, _, _, hA, _⟩ := h4' 0 ys[0] (B2 (by omega)); cases hA
     | some A2 =>
      obtain ⟨g1, g2⟩ := take_range (M := Nat.min ys.length len) hS r.holds hmin2 (by omega); obtain ⟨b2, o2, sp⟩ := A2; have g1 : sp = none := g1; subst g1; refine e7x (el := el) (sz := 1) p.length hC hB (show (p ++ ([(b, T, cs)] ++ q))[p.length]? = some (b, T, cs) by simp) h1 h3 hsl g2 (by rw [hrow, R2]) (by rw [hrow]; exact f2) (by intro v hv; obtain ⟨_, _, rfl⟩ := E1.1 hv; rfl) (by rw [hrow]) hN fun w' hC' hB' => ?_
      exact fin w' hC' (by simpa using hB')
  ·exact h.elim
 ·exact h.elim
def b7y {g : Operand} {f : Nat} {xs : List Operand} {vs : List Value} {ats : Array TypeId} {v : Value} {w' : World} {gd : Option (Nat × Bool)} {R : Value -> World -> Prop} (hx : opv e g = some (.func (.func f) #[] #[])) (hvs : a4w e xs = some vs)
  (hr : (callFunc f vs.toArray).run P w = .ok (.value v) w') (hR : R v w') : c2m P N e w ⟨d, .call ⟨.value g, xs.toArray, ats⟩, ty, pos, af, gd⟩ R := by
 intro a ha
 unfold OpR
 have hev := ha.evals hvs
 have h1 : (execOp a.eval ⟨d, .call ⟨.value g, xs.toArray, ats⟩, ty, pos, af, gd⟩).run P w = .ok (.value v) w' := by
  simp only [execOp, resolve, ha.eval hx, hev, Deferred.ofValue, Sem.run_bind, Sem.run_pure, Result.andThen_ok, invoke]; simp [hr]
 rw [h1]
 exact hR
def b6n {g o : Nat} {cs : List Value} {t : TypeId} {v : Value} (hg : w.heap[g]? = some (.cells cs.toArray t (0, 0))) (h : o + 1 <= cs.length) : w.setCell ⟨g, o, none⟩ v = w.setRow g (cs.take o ++ [v] ++ cs.drop (o + 1)).toArray := by
 have he : (cs.take o ++ [v] ++ cs.drop (o + 1)).toArray = cs.toArray.setIfInBounds o v := by
  apply J5; simp only [Array.toList_setIfInBounds]; rw [M8, F8 (by omega)]; simp
 rw [he]
 have hlt : g < w.heap.size := (E4.1 hg).1
 have hv : w.heap[g] = .cells cs.toArray t (0, 0) := (E4.1 hg).2
 unfold World.setCell World.setRow
 cases w with
 | mk heap tape drawn os output =>
  congr 1
  apply Array.ext
  ·simp
  ·intro k h1 h2; simp only [Array.getElem_modify]; split
   ·rename_i hk; subst hk; simp at hv; simp [hv]
   ·rfl
def a6n {g o : Nat} {cs : List Value} {t : TypeId} {v : Value} (hg : w.heap[g]? = some (.cells cs.toArray t (0, 0))) (h : cs[o]? = some v) : w.cell? ⟨g, o, none⟩ = some v /\ w.frozen? ⟨g, o, none⟩ = false := by
 constructor
 ·rw [World.cell?, hg]; simpa using h
 ·simp [World.frozen?, hg]
def c8m (r : Rel w0 G0 s m e w) {id off : Nat} {g : Dig} {v : Value} (hv : RV m (.vw id off : SV E) v) (hg : d4j s id off = some g) : (Extern.Bytes.bytesOf v).run P w = .ok ⟨g.l.toArray⟩ w := by
 unfold d4j at hg
 split at hg
 ·rename_i k T c hgt; split at hg
  ·rename_i dg tl hdr; simp only [A3] at hg; subst hg; obtain ⟨hw, _, _, ⟨b, cs, h3, _, h4, h5⟩, hb⟩ := r.wd hgt; obtain ⟨_, b', o', h6, h7⟩ := d6 rfl hv; rw [h4] at h6; simp only [Value.pointer.injEq, A3, Addr.mk.injEq, M0] at h6; obtain ⟨rfl, rfl⟩ := h6; rw [F2] at h7; subst h7; rw [h3] at hb; have h32 : dg.l.length = 32 := dg.h; have hcell : ∀ j x, dg.l[j]? = some x -> w.cell? ⟨b, off + j, none⟩ = some (.int .u8 (x.toNat : Int)) := fun j x hj => by
    have hlt : j < 32 := by have := (C8.1 hj).1; omega
    have hx : dg.l.getD j 0 = x := by rw [B3, hj]; rfl
    have := (hb w hw).cell (i := 0) rfl (h5.dget hdr hlt); rw [hx] at this; exact this
   have := a5l (P := P) (w := w) dg.l b off .empty hcell; rw [h32] at this; simp only [Extern.Bytes.bytesOf]; rw [this]
   congr 1
   apply Bj; simp
  ·cases hg
 ·cases hg
def e1j (r : Rel w0 G0 s m e w) {g : Operand} {f : Nat} {args : Array Operand} {l : List (SV E)} {ats : Array TypeId} (hg : opv e g = some (.func (.func f) #[] #[])) {vs : List Value} (hvs : a4w e args.toList = some vs) (hll : vs.length = l.length) (hv : ∀ (i : Nat) (x : SV E), l[i]? = some x -> ∃ v, vs[i]? = some v /\ RV m x v)
  (h : e1a Z s d f l K) (hd : dOk d = true) (hN : okD N d = true)
  (hk : ∀ s' m' v w', Up m m' -> Rel w0 G0 s' m' (e.putO d v) w' -> K s' -> WL P ops Q N rest (e.putO d v) w') : WL P ops Q N (⟨d, .call ⟨.value g, args, ats⟩, ty, pos, af, none⟩ :: rest) e w := by
 unfold e1a at h
 split at h
 ·rename_i x y c hf; cases hc : decide (0 <= x) && (decide (0 <= y) && (decide (0 <= c) && decide (c <= 1))) with
  | false => rw [hc, a8t] at h; exact h.elim
  | true =>
   rw [hc, a6l] at h; simp only [A7, C6] at hc; obtain ⟨c1, c2, c3, c4⟩ := hc; obtain ⟨v1, a1, b1⟩ := hv 0 _ rfl; obtain ⟨v2, a2, b2⟩ := hv 1 _ rfl; obtain ⟨v3, a3, b3⟩ := hv 2 _ rfl; have b1 : v1 = _ := d6 rfl b1; have b2 : v2 = _ := d6 rfl b2; have b3 : v3 = _ := d6 rfl b3; subst b1 b2 b3; have hvl : vs = [.int .u64 x, .int .u64 y, .int .u64 c] := by
    match vs, hll with
    | [p, q, z], _ => simp at a1 a2 a3; rw [a1, a2, a3]
   subst hvl; have hX := Z.exok _ _ hf x y c w c1 c2 c3 c4; have hop := b7y (P := P) (N := N) (d := d) (ty := ty) (pos := pos) (af := af) (ats := ats) (gd := none) (R := fun v w' => v = .tuple #[.int .u64 ((x + y + c) % 18446744073709551616), .int .u64 ((x + y + c) / 18446744073709551616)] /\ w' = w) hg hvs hX ⟨rfl, rfl⟩; rw [show args.toList.toArray = args from rfl] at hop; refine x5 hN hop ?_; rintro v w' ⟨rfl, rfl⟩; exact hk _ _ _ _ (Up.refl m) (r.put hd fun y hy => by cases hy; exact ⟨_, rfl, _, _, rfl, rfl, _, _, rfl, rfl, rfl⟩) h
 ·rename_i k id off k' y hf; split at h
  ·rename_i ver T c hgt; split at h
   ·rename_i A' q x rr ht hdr; cases hc : decide (k' = q) && decide (k = q) with
    | false => rw [hc] at h; exact h.elim
    | true =>
     rw [hc] at h; simp only [A7, C6] at hc; obtain ⟨rfl, rfl⟩ := hc; obtain ⟨v1, a1, b1⟩ := hv 0 _ rfl; obtain ⟨v2, a2, b2⟩ := hv 1 _ rfl; obtain ⟨_, b', o', h6, b1⟩ := d6 rfl b1; have b2 : v2 = _ := d6 rfl b2; subst b1 b2; have hvl : vs = [.pointer (some ⟨b', o' + off, none⟩), .int k y] := by
      match vs, hll with
      | [p, q], _ => simp at a1 a2; rw [a1, a2]
     subst hvl; obtain ⟨_, _, _, ⟨b, cs, e1, e2, e3, e4⟩, _⟩ := r.wd hgt; obtain ⟨p, q, A, B, hC, hB, hT⟩ := r.toRelH.turn hgt; rw [e3] at h6; simp only [Value.pointer.injEq, A3, Addr.mk.injEq, M0] at h6; obtain ⟨rfl, rfl⟩ := h6; rw [e1] at hB; rw [e2] at hC hB; have hA := e4.take ht; obtain ⟨d1, d2, f0, f1, f2⟩ := e4.drop hdr; obtain ⟨u, rfl, f9⟩ := f1.leaf_ rfl; have f9 : u = _ := f9; subst f9; have hlen : off + 1 <= cs.length := by
      have := congrArg List.length f0; simp at this; omega
     have hcell : cs[off]? = some (.int k x) := by
      have := congrArg (·[0]?) f0; simpa using this
     have hi : (p ++ ([(b, T, cs)] ++ q))[p.length]? = some (b, T, cs) := by simp
     have hgb := hB.get hi; obtain ⟨k1, k2⟩ := a6n hgb.1 hcell; have hX := Z.exok _ _ hf ⟨b, off, none⟩ x y w k1 k2; rw [b6n hgb.1 hlen] at hX; have hop := b7y (P := P) (N := N) (d := d) (ty := ty) (pos := pos) (af := af) (ats := ats) (gd := none) (R := fun v w' => v = .int k (k.wrap (x + y)) /\ w' = w.setRow b (cs.take off ++ [Value.int k (k.wrap (x + y))] ++ cs.drop (off + 1)).toArray) hg hvs (by simpa using hX) ⟨rfl, rfl⟩; rw [show args.toList.toArray = args from rfl] at hop; refine x5 hN hop ?_; rintro v w' ⟨rfl, hw⟩; have hC' : Cx w0 G0 m.G w' ⟨[], A ++ ([] ++ B)⟩ := by rw [hw]; exact hC.setRow' hgb.2.1 hgb.2.2 (hB.off hi) _
     have hB' : Bxs m.G w' w0.heap.size ((p ++ ([(b, T, cs)] ++ q)).set p.length (b, T, cs.take off ++ [Value.int k (k.wrap (x + y))] ++ cs.drop (off + 1))) ⟨[], A ++ ([] ++ B)⟩ := by rw [hw]; exact hB.set hi _
     have hdrop : cs.drop (off + 1) = d2 := by
      rw [<- K6, f0]; rfl
     have f3 : RC m (A' ++ .i k (k.wrap (x + y)) :: rr) (cs.take off ++ [.int k (k.wrap (x + y))] ++ cs.drop (off + 1)) := by
      rw [hdrop, B6]; exact hA.append ⟨[_], d2, rfl, ⟨_, rfl, rfl⟩, f2⟩
     obtain ⟨u, r'⟩ := hT m.G w' (.box T _) [(b, T, _)] [] (GLe.refl _) hC' (by simpa using hB') ⟨b, _, rfl, rfl, e3, f3⟩; exact hk _ _ _ _ u ((r.mem u r' rfl).put hd fun y hy => by cases hy; rfl) h
   ·exact h.elim
  ·exact h.elim
 ·rename_i t xs t' ys hf; split at h
  ·rename_i a b ha hb; obtain ⟨v1, a1, b1⟩ := hv 0 _ rfl; obtain ⟨v2, a2, b2⟩ := hv 1 _ rfl; have b1 : @Sl UInt8 _ m.G v1 a := Sl.to ha (d6 rfl b1); have b2 : @Sl UInt8 _ m.G v2 b := Sl.to hb (d6 rfl b2); have hvl : vs = [v1, v2] := by
    match vs, hll with
    | [p, q], _ => simp at a1 a2; rw [a1, a2]
   subst hvl; have hX := Z.exok _ _ hf v1 v2 a b w (b6j r.holds b1) (b6j r.holds b2); have hop := b7y (P := P) (N := N) (d := d) (ty := ty) (pos := pos) (af := af) (ats := ats) (gd := none) (R := fun v w' => v = .int .i64 (b1l a b) /\ w' = w) hg hvs hX ⟨rfl, rfl⟩; rw [show args.toList.toArray = args from rfl] at hop; refine x5 hN hop ?_; rintro v w' ⟨rfl, rfl⟩; exact hk _ _ _ _ (Up.refl m) (r.put hd fun y hy => by cases hy; rfl) h
  ·exact h.elim
 ·rename_i i1 o1 i2 o2 hf; split at h
  ·rename_i a b ha hb; obtain ⟨v1, a1, b1⟩ := hv 0 _ rfl; obtain ⟨v2, a2, b2⟩ := hv 1 _ rfl; have hvl : vs = [v1, v2] := by
    match vs, hll with
    | [p, q], _ => simp at a1 a2; rw [a1, a2]
   subst hvl; have hX := Z.exok _ _ hf v1 v2 a.l b.l w (c8m r b1 ha) (c8m r b2 hb); have hop := b7y (P := P) (N := N) (d := d) (ty := ty) (pos := pos) (af := af) (ats := ats) (gd := none) (R := fun v w' => v = .int .i64 (b1l a.l b.l) /\ w' = w) hg hvs hX ⟨rfl, rfl⟩; rw [show args.toList.toArray = args from rfl] at hop; refine x5 hN hop ?_; rintro v w' ⟨rfl, rfl⟩; exact hk _ _ _ _ (Up.refl m) (r.put hd fun y hy => by cases hy; rfl) h
  ·exact h.elim
 ·exact h.elim
end
end Go.Vz
